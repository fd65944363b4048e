/- What sums.Pad, sums.Join and Count compute, and that the fixed calls of chapter 01 ('known') come out as they must. -/
import Derived.Test.YthchmjehcdjpgaaDigest
namespace Go.Proofs.Ythchmjehcdjpgaa
open Go.RowKit
set_option linter.unusedVariables false
set_option linter.unusedSimpArgs false

def padOf (n : Int) : Int := if n < 0 then 0 else (4 - n % 4) % 4
theorem i64_and3 (x : Int) : bits .and .i64 x 3 = x % 4 := by
  show IntKind.i64.wrap ((BitVec.ofInt 64 x &&& BitVec.ofInt 64 3).toNat : Int) = _
  have h : (BitVec.ofInt 64 x &&& BitVec.ofInt 64 3).toNat = (x % 4).toNat := by
    rw [BitVec.toNat_and]
    have e : (BitVec.ofInt 64 3).toNat = 2 ^ 2 - 1 := by decide
    rw [e, Nat.and_two_pow_sub_one_eq_mod, BitVec.toNat_ofInt]
    omega
  rw [h]
  have := IntKind.wrap_i64 (x % 4).toNat
  rw [this]
  omega
theorem padOf_range (n : Int) : 0 ≤ padOf n ∧ padOf n ≤ 3 := by unfold padOf; split <;> omega
theorem pad_any (n : Int) (w : World) :
    Calls Try.prog 13 #[.int .i64 n] w fun e w' => e = .returned (.int .i64 (padOf n)) ∧ w = w' := by
  by_cases h0 : n < 0
  · go_enter Try.func13, Try.ntmps13
    go_wp2
    go_ret
    exact ⟨ret_int (by rw [padOf, if_pos h0]), rfl⟩
  · go_enter Try.func13, Try.ntmps13
    go_wp2
    go_ret
    have h1 : 0 ≤ n := by omega
    refine ⟨ret_int ?_, rfl⟩
    rw [i64_and3, padOf, if_neg (by omega)]
    unfold wrap64
    omega

/-- sums.Join. -/
theorem join_any (a b : BitVec 32) (n : Nat) (w : World) (hn : n ≤ 65536) :
    Calls Try.prog 14 #[.int .u32 (u32v a), .int .u32 (u32v b), .int .i64 n] w fun e w' => e = .returned (.tuple #[.int .u32 (u32v (crcN (8 * n) a ^^^ b)), .int .i64 0]) ∧ w = w' := by
  go_enter Try.func14, Try.ntmps14
  go_wp2
  go_loop [0, 16] (fun r' i => ∃ j : Nat, j ≤ 8 * n ∧ i = .int .i64 j ∧ r' = .int .u32 (u32v (crcN j a))) (fun _ i => 8 * n - (intOf i).toNat)
  case atStart => exact ⟨0, by omega, rfl, rfl⟩
  case round =>
    obtain ⟨j, hj, rfl, rfl⟩ := hrel
    obtain ⟨Y, hY⟩ : ∃ Y, Y = crcN j a := ⟨_, rfl⟩
    rw [← hY]
    have HY := Lib.hid hY
    clear hY
    have h3 := u32v_range Y
    go_wp2
    · go_round
      case rel => exact ⟨j + 1, by omega, by go_num, by rw [crc_step, HY.out, ← crcN_succ]⟩
      case measure => simp [intOf]; omega
    · have hj8 : j = 8 * n := by omega
      go_ret2
      exact ⟨by rw [u32_xor, HY.out, hj8]; rfl, rfl⟩
theorem join_out (a b n : Int) (w : World) (hn : n < 0 ∨ 65536 < n) :
    Calls Try.prog 14 #[.int .u32 a, .int .u32 b, .int .i64 n] w fun e w' => e = .returned (.tuple #[.int .u32 0, .int .i64 1]) ∧ w = w' := by
  rcases hn with hn | hn
  · go_enter Try.func14, Try.ntmps14
    go_wp2
    go_ret2
    exact ⟨rfl, rfl⟩
  · have hn' : ¬ n < 0 := by omega
    go_enter Try.func14, Try.ntmps14
    go_wp2
    go_ret2
    exact ⟨rfl, rfl⟩

/-- Count: a number from 0 to one less than most. -/
theorem count_any (n m : Int) (w : World) (hm : 0 < m) (hm2 : m ≤ 4611686018427387904) (hn : -9223372036854775808 ≤ n) (hn2 : n ≤ 9223372036854775807) :
    Calls Try.prog 15 #[.int .i64 n, .int .i64 m] w fun e w' => e = .returned (.int .i64 (n % m)) ∧ w = w' := by
  by_cases h0 : 0 ≤ n
  · go_enter Try.func15, Try.ntmps15
    go_wp2
    · have h1 : n % m < 0 := by assumption
      have h2 := Int.emod_nonneg n (show m ≠ 0 by omega)
      omega
    · go_ret
      exact ⟨rfl, rfl⟩
  · have ht : n.tmod m = -((-n) % m) := by rw [← Int.tmod_eq_emod_of_nonneg (by omega), ← Int.neg_tmod, Int.neg_neg]
    have h3 := Int.emod_nonneg (-n) (show m ≠ 0 by omega)
    have h4 := Int.emod_lt_of_pos (-n) hm
    have h5 : n.tmod m ≤ 0 ∧ -m < n.tmod m := by omega
    have h6 : n % m = if n.tmod m < 0 then n.tmod m + m else n.tmod m := by
      have e1 := Int.mul_tdiv_add_tmod n m
      have e2 := Int.mul_ediv_add_emod n m
      split
      · have : n % m = (n.tmod m + m) % m := by
          rw [Int.add_emod_right]
          conv => lhs; rw [← e1]
          rw [Int.add_emod, Int.mul_emod_right]
          simp
        rw [this]
        exact Int.emod_eq_of_lt (by omega) (by omega)
      · have h7 : n.tmod m = 0 := by omega
        have : n % m = (n.tmod m) % m := by
          conv => lhs; rw [← e1]
          rw [Int.add_emod, Int.mul_emod_right]
          simp
        rw [this, h7]
        simp
    have H6 := Lib.hid h6
    clear h6 ht
    go_enter Try.func15, Try.ntmps15
    go_wp2
    · have h7 : n.tmod m < 0 := by assumption
      go_ret
      exact ⟨ret_int (by rw [H6.out, if_pos h7]), rfl⟩
    · have h7 : 0 ≤ n.tmod m := by assumption
      go_ret
      exact ⟨ret_int (by rw [H6.out, if_neg (by omega)]), rfl⟩

theorem known_sum : u32v (crcSum [49, 50, 51, 52, 53, 54, 55, 56, 57]) = 3808858755 := by decide +kernel
theorem known_digest : strB (crcDigest (crcSum (List.replicate 32 0))) = ⟨#[170, 54, 145, 138]⟩ := by decide +kernel
def zeros32 : Array Value := madeCells #[.int .u8 0] 32
/-- The fixed calls. -/
theorem known_any (w : World) :
    Calls Try.prog 12 #[] w fun e w' => e = .returned (.bool true) ∧ Same w w' := by
  have kc := fun (w : World) (C : Array Value) (n c : Nat) => Lib.run_convert_bytes_const (P := Try.prog) w 22 5 C n c Try.underlying22 Try.underlying5
  have hmk : ∀ w, (Instr.makeSlice 22 (.int .i64 32) (.int .i64 32)).run Try.prog w = .ok (.slice (some ⟨w.heap.size, 0, none⟩) 32 32) (w.alloc (.cells zeros32 5)) :=
    fun w => make_bytes 22 5 Try.underlying22 (by kernel_rfl) 32 (by decide) w
  go_enter Try.func12, Try.ntmps12
  go_wp2_with fail
  refine (sum_bs _ [49, 50, 51, 52, 53, 54, 55, 56, 57] _ (Bs.lit w _ _ _ _ _ _ _ rfl (fun j hj => ?_) rfl (by decide) (by decide))).mono ?_
  · have hj : j < 9 := hj
    match j, hj with
    | 0, _ => rfl
    | 1, _ => rfl
    | 2, _ => rfl
    | 3, _ => rfl
    | 4, _ => rfl
    | 5, _ => rfl
    | 6, _ => rfl
    | 7, _ => rfl
    | 8, _ => rfl
  rintro e w' ⟨rfl, rfl⟩
  rw [known_sum]
  go_wp2_with fail
  refine (digest_bs _ (List.replicate 32 0) _ (Bs.lit _ zeros32 _ _ _ _ _ _ (by simp) (fun j hj => made_at 32 j (by simpa using hj)) rfl (by decide) (by decide))).mono ?_
  rintro e w2 ⟨v2, rfl, hf, hs⟩
  have hcv := conv_bs (P := Try.prog) Try.underlying22 Try.underlying5 Try.underlying9 hf.bs
  rw [known_digest] at hcv
  have hs0 : Same w w2 := Same.trans (((Upd.refl _ w).alloc _).alloc _) hs
  clear hf hs
  go_wp2_with fail
  refine (pad_any 5 w2).mono ?_
  rintro e w3 ⟨rfl, rfl⟩
  rw [show padOf 5 = 3 from rfl]
  go_wp2
  go_ret
  exact ⟨rfl, hs0⟩
end Go.Proofs.Ythchmjehcdjpgaa
