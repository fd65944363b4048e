/- The fixed calls of chapter 02 come out as they must; and the walk of FieldRound. -/
import Derived.Test.YtgfdadbgbdcehaaFieldW
import Derived.Test.YtgfdadbgbdcehaaDist
import Derived.OpenShut
namespace Go.Proofs.Ytgfdadbgbdcehaa
open Go.RowKit
set_option linter.unusedVariables false
set_option linter.unusedSimpArgs false

def zeros3 : Array Value := madeCells #[.int .u8 0] 3
theorem known02_str : strB (putL (List.replicate 3 0) 1 2 258) = ⟨#[0, 1, 2]⟩ := by decide +kernel
theorem known02_any (w : World) :
    Calls Try.prog 15 #[] w fun e w' => e = .returned (.bool true) ∧ Same w w' := by
  have hmk : ∀ w, (Instr.makeSlice 28 (.int .i64 3) (.int .i64 3)).run Try.prog w = .ok (.slice (some ⟨w.heap.size, 0, none⟩) 3 3) (w.alloc (.cells zeros3 5)) :=
    fun w => make_bytes 28 5 Try.underlying28 (by kernel_rfl) 3 (by decide) w
  go_enter Try.func15, Try.ntmps15
  go_wp2_with fail
  refine (put_bs _ (List.replicate 3 0) 1 2 258 _ (Bs.lit _ zeros3 _ _ _ _ _ _ rfl (fun j hj => made_at 3 j (by simpa using hj)) rfl (by decide) (by decide)) (by decide) (by decide) (by decide) (by decide) (by decide) (by decide) (by decide)).mono ?_
  rintro e w2 ⟨v2, rfl, hf, hs⟩
  have hcv := conv_bs (P := Try.prog) Try.underlying28 Try.underlying5 Try.underlying9 hf.bs
  rw [known02_str] at hcv
  have hs0 : Same w w2 := Same.trans ((Upd.refl _ w).alloc _) hs
  rw [show putE (List.replicate 3 (0 : UInt8)).length 1 2 258 = 0 from by decide]
  clear hf hs
  go_wp2_with fail
  refine (less_any 4294967295 0 w2).mono ?_
  rintro e w' ⟨rfl, rfl⟩
  rw [show lessB 4294967295 0 = true from by decide]
  go_wp2_with fail
  refine (dist_any 0 4294967295 w2).mono ?_
  rintro e w' ⟨rfl, rfl⟩
  rw [show distOf 0 4294967295 = -1 from by decide]
  go_wp2_with fail
  refine (in_any 4294967290 10 3 w2).mono ?_
  rintro e w' ⟨rfl, rfl⟩
  rw [show inB 4294967290 10 3 = true from by decide]
  go_wp2_with fail
  go_ret
  exact ⟨rfl, hs0⟩
theorem fieldRound_core (w : World) (a b n : Int) (ha : 0 ≤ a ∧ a ≤ 4294967295) (hb : 0 ≤ b ∧ b ≤ 4294967295) (hn : -9223372036854775808 ≤ n ∧ n ≤ 9223372036854775807) :
    Calls Try.prog 3 #[.int .u32 a, .int .u32 b, .int .i64 n] w fun e w' => e = .returned (.bool true) ∧ Same w w' := by
  have hd := distOf_range a b
  have c1 : ∀ x y : Bool, x = y → (x != y) = false := by intro x y h; subst h; simp
  have e1 := dist_any a b w
  have e2 := less_any a b w
  have e3 := rless_any a b w
  have e4 := rdist_any a b w
  have e5 := in_any a n b w
  have e6 := rin_any a n b w
  have e7 := less_any b a w
  have hsum : (a + distOf a b % 4294967296) % 4294967296 = b := by unfold distOf ahead; split <;> omega
  have hsum2 : (distOf a b % 4294967296) = ahead a b := by unfold distOf ahead; split <;> omega
  have hnb : ¬ (lessB a b = true ∧ lessB b a = true) := by
    simp only [lessB, decide_eq_true_eq]
    unfold distOf ahead
    intro ⟨h1, h2⟩
    split at h1 <;> split at h2 <;> omega
  have hl : lessB a b = decide (0 < distOf a b) := rfl
  obtain ⟨L, hL⟩ : ∃ L, L = lessB a b := ⟨_, rfl⟩
  obtain ⟨M, hM⟩ : ∃ L, L = lessB b a := ⟨_, rfl⟩
  obtain ⟨D, hD⟩ : ∃ L, L = distOf a b := ⟨_, rfl⟩
  obtain ⟨I, hI⟩ : ∃ L, L = inB a n b := ⟨_, rfl⟩
  rw [← hL] at e2 e3 hl hnb
  rw [← hM] at e7 hnb
  rw [← hD] at e1 e4 hl hsum hsum2 hd
  rw [← hI] at e5 e6
  clear hL hM hD hI
  have E1 := Lib.hid e1
  have E2 := Lib.hid e2
  have E3 := Lib.hid e3
  have E4 := Lib.hid e4
  have E5 := Lib.hid e5
  have E6 := Lib.hid e6
  have E7 := Lib.hid e7
  clear e1 e2 e3 e4 e5 e6 e7
  cases L with
  | true =>
    have hD0 : 0 < D := by simpa using hl.symm
    obtain rfl : M = false := by cases M; rfl; exact absurd ⟨rfl, rfl⟩ hnb
    clear hl hnb
    go_enter Try.func3, Try.ntmps3
    go_wp2_with fail
    refine E1.out.mono ?_
    rintro e w' ⟨rfl, rfl⟩
    go_wp2_with fail
    refine E2.out.mono ?_
    rintro e w' ⟨rfl, rfl⟩
    go_wp2_with fail
    refine E3.out.mono ?_
    rintro e w' ⟨rfl, rfl⟩
    go_wp2_with fail
    refine E4.out.mono ?_
    rintro e w' ⟨rfl, rfl⟩
    go_wp2_with fail
    refine E5.out.mono ?_
    rintro e w' ⟨rfl, rfl⟩
    go_wp2_with fail
    refine E6.out.mono ?_
    rintro e w' ⟨rfl, rfl⟩
    go_wp2_with fail
    refine E2.out.mono ?_
    rintro e w' ⟨rfl, rfl⟩
    go_wp2_with fail
    refine E7.out.mono ?_
    rintro e w' ⟨rfl, rfl⟩
    go_wp2_with fail
    refine E2.out.mono ?_
    rintro e w' ⟨rfl, rfl⟩
    go_wp2_with fail
    refine (known02_any w).mono ?_
    rintro e w2 ⟨rfl, hs⟩
    go_wp2_with fail
    go_ret
    exact ⟨rfl, hs⟩
  | false =>
    have hD0 : ¬ 0 < D := by simpa using hl.symm
    clear hl hnb
    go_enter Try.func3, Try.ntmps3
    go_wp2_with fail
    refine E1.out.mono ?_
    rintro e w' ⟨rfl, rfl⟩
    go_wp2_with fail
    refine E2.out.mono ?_
    rintro e w' ⟨rfl, rfl⟩
    go_wp2_with fail
    refine E3.out.mono ?_
    rintro e w' ⟨rfl, rfl⟩
    go_wp2_with fail
    refine E4.out.mono ?_
    rintro e w' ⟨rfl, rfl⟩
    go_wp2_with fail
    refine E5.out.mono ?_
    rintro e w' ⟨rfl, rfl⟩
    go_wp2_with fail
    refine E6.out.mono ?_
    rintro e w' ⟨rfl, rfl⟩
    go_wp2_with fail
    refine E2.out.mono ?_
    rintro e w' ⟨rfl, rfl⟩
    go_wp2_with fail
    refine E2.out.mono ?_
    rintro e w' ⟨rfl, rfl⟩
    go_wp2_with fail
    refine (known02_any w).mono ?_
    rintro e w2 ⟨rfl, hs⟩
    go_wp2_with fail
    go_ret
    exact ⟨ret_bool (by simp [hD0]), hs⟩
theorem fieldRound_walk (w : World) (a : Int) (ha : (Lit.int .u32 a).wf = true) (b : Int) (hb : (Lit.int .u32 b).wf = true) (n : Int) (hn : (Lit.int .i64 n).wf = true) :
    Calls Try.prog 3 #[.int .u32 a, .int .u32 b, .int .i64 n] w fun e w' => e = .returned (.bool true) ∧ Same w w' :=
  fieldRound_core w a b n (by have := bounds_u32 ha; omega) (by have := bounds_u32 hb; omega) (by have := bounds_i64 hn; omega)
end Go.Proofs.Ytgfdadbgbdcehaa
