/- What the reference's Reader does: a number of things; readers and writers that are not there. -/
import Derived.Test.YtgfdadbgbdcehaaRReader
namespace Go.Proofs.Ytgfdadbgbdcehaa
open Go.RowKit
set_option linter.unusedVariables false
set_option linter.unusedSimpArgs false

set_option maxHeartbeats 2000000 in
/-- A number of things. -/
theorem rrcount_any {base : Nat} (p : Nat) (v : Value) (bs : List UInt8) (e size most : Int) (w : World) (h : WObj base w p v bs e) (hl : bs.length ≤ 140737488355328) (h3 : -9223372036854775808 ≤ size) (h4 : size ≤ 9223372036854775807) (h5 : -9223372036854775808 ≤ most) (h6 : most ≤ 9223372036854775807) :
    Calls Try.prog 45 #[.pointer (some ⟨p, 0, none⟩), .int .i64 size, .int .i64 most] w fun r w' => r = .returned (.int .i64 (rcN bs e size most)) ∧ Rd base w p v w' (rcL bs e size most) (rcE bs e size most) := by
  have hnum := rrnum_any p v bs e size w h hl h3 h4
  obtain ⟨c0, c1, c2, c3⟩ := h.2.1
  obtain ⟨A, cap, rfl⟩ := Fresh.shape' h.2.2.1
  have hlenL : (rnL bs e size).length ≤ bs.length := by unfold rnL; split <;> simp
  have hNr : -9223372036854775808 ≤ rnN bs e size ∧ rnN bs e size ≤ 9223372036854775807 := by
    unfold rnN
    split
    · unfold wrap64; omega
    · omega
  have hcE : rcE bs e size most = if rnE e size bs.length ≠ 0 then rnE e size bs.length else if rnN bs e size < 0 ∨ most < rnN bs e size then 3 else if ((rnL bs e size).length : Int) < rnN bs e size then 10 else 0 := rfl
  unfold rcN rcL
  generalize rnE e size bs.length = E1 at hnum hcE
  generalize rnN bs e size = N1 at hnum hcE hNr ⊢
  generalize rnL bs e size = L1 at hnum hcE hlenL ⊢
  generalize rcE bs e size most = CE at hcE ⊢
  have HN := Lib.hid hnum
  have HO := Lib.hid h
  clear hnum h
  by_cases hE : E1 = 0
  · subst hE
    rw [if_neg (by simp)] at hcE
    by_cases hn : N1 < 0 ∨ most < N1
    · rw [if_pos hn] at hcE
      subst hcE
      rw [if_neg (by decide), if_neg (by decide)]
      have hn' : N1 < 0 ∨ (¬ N1 < 0 ∧ most < N1) := by omega
      clear hn
      rcases hn' with hn | ⟨hn0, hn⟩
      all_goals
        go_enter Try.func45, Try.ntmps45
        go_wp2_with fail
        refine HN.out.mono ?_
        rintro r w1 ⟨rfl, v1, ho, hu1, hr1⟩
        obtain ⟨d0, d1, d2, d3⟩ := ho.2.1
        have ho2 := ho.err 3
        obtain ⟨k0, k1, k2, k3⟩ := ho2.2.1
        have hB := Rd.back HO.out ho2 (Upd.trans (S := fun k => k = p) hu1 ((Upd.refl (fun k => k = p) w1).setCell (p := ⟨p, 1, none⟩) (fun _ => rfl) _) fun _ _ h => h)
        obtain ⟨A1, cap1, rfl⟩ := Fresh.shape' ho.2.2.1
        have HB := Lib.hid hB
        clear ho ho2 hu1 hr1 hB
        go_wp2_with fail
        go_ret
        exact ⟨rfl, HB.out⟩
    · rw [if_neg hn] at hcE
      have hn1 : ¬ N1 < 0 := by omega
      have hn2 : ¬ most < N1 := by omega
      by_cases hm : (L1.length : Int) < N1
      · rw [if_pos hm] at hcE
        subst hcE
        rw [if_neg (by decide), if_neg (by decide)]
        clear hn
        go_enter Try.func45, Try.ntmps45
        go_wp2_with fail
        refine HN.out.mono ?_
        rintro r w1 ⟨rfl, v1, ho, hu1, hr1⟩
        obtain ⟨A1, cap1, rfl⟩ := Fresh.shape' ho.2.2.1
        obtain ⟨d0, d1, d2, d3⟩ := ho.2.1
        have ho2 := ho.err 10
        obtain ⟨k0, k1, k2, k3⟩ := ho2.2.1
        have hB := Rd.back HO.out ho2 (Upd.trans (S := fun k => k = p) hu1 ((Upd.refl (fun k => k = p) w1).setCell (p := ⟨p, 1, none⟩) (fun _ => rfl) _) fun _ _ h => h)
        have HB := Lib.hid hB
        clear ho ho2 hu1 hr1 hB
        go_wp2_with fail
        go_ret
        exact ⟨rfl, HB.out⟩
      · rw [if_neg hm] at hcE
        subst hcE
        rw [if_pos rfl, if_pos rfl]
        clear hn
        go_enter Try.func45, Try.ntmps45
        go_wp2_with fail
        refine HN.out.mono ?_
        rintro r w1 ⟨rfl, v1, ho, hu1, hr1⟩
        obtain ⟨A1, cap1, rfl⟩ := Fresh.shape' ho.2.2.1
        obtain ⟨d0, d1, d2, d3⟩ := ho.2.1
        have hB : Rd base w p (.slice A bs.length cap) w1 L1 0 := ⟨_, ho, hu1, hr1⟩
        have HB := Lib.hid hB
        clear ho hu1 hr1 hB
        go_wp2_with fail
        go_ret
        exact ⟨rfl, HB.out⟩
  · rw [if_pos hE] at hcE
    subst hcE
    rw [if_neg hE, if_neg hE]
    have hne : (CE != 0) = true := by simpa using hE
    have hne2 : (CE == 0) = false := by simpa using hE
    clear hE
    go_enter Try.func45, Try.ntmps45
    go_wp2_with fail
    refine HN.out.mono ?_
    rintro r w1 ⟨rfl, v1, ho, hu1, hr1⟩
    obtain ⟨A1, cap1, rfl⟩ := Fresh.shape' ho.2.2.1
    obtain ⟨d0, d1, d2, d3⟩ := ho.2.1
    have hB := Rd.back HO.out ho hu1
    have HB := Lib.hid hB
    clear ho hu1 hr1 hB
    go_wp2_with fail
    go_ret
    exact ⟨rfl, HB.out⟩
theorem nil_rok (w : World) : Calls Try.prog 58 #[.pointer none] w fun r w' => r = .returned (.bool false) ∧ w = w' := by
  go_enter Try.func58, Try.ntmps58
  go_wp2_with fail
  go_ret
  exact ⟨rfl, rfl⟩
theorem nil_rnum (n : Int) (w : World) : Calls Try.prog 40 #[.pointer none, .int .i64 n] w fun r w' => r = .returned (.int .i64 0) ∧ w = w' := by
  go_enter Try.func40, Try.ntmps40
  go_wp2_with fail
  refine (nil_rok w).mono ?_
  rintro r w' ⟨rfl, rfl⟩
  go_wp2_with fail
  go_ret
  exact ⟨rfl, rfl⟩
theorem nil_rbytes (n : Int) (w : World) : Calls Try.prog 39 #[.pointer none, .int .i64 n] w fun r w' => r = .returned (.slice none 0 0) ∧ w = w' := by
  go_enter Try.func39, Try.ntmps39
  go_wp2_with fail
  refine (nil_rok w).mono ?_
  rintro r w' ⟨rfl, rfl⟩
  go_wp2_with fail
  go_ret
  exact ⟨rfl, rfl⟩
theorem nil_rcount (n m : Int) (w : World) : Calls Try.prog 44 #[.pointer none, .int .i64 n, .int .i64 m] w fun r w' => r = .returned (.int .i64 0) ∧ w = w' := by
  go_enter Try.func44, Try.ntmps44
  go_wp2_with fail
  refine (nil_rok w).mono ?_
  rintro r w' ⟨rfl, rfl⟩
  go_wp2_with fail
  go_ret
  exact ⟨rfl, rfl⟩
theorem nil_rend (w : World) : Calls Try.prog 41 #[.pointer none] w fun r w' => r = .returned (.int .i64 2) ∧ w = w' := by
  go_enter Try.func41, Try.ntmps41
  go_wp2_with fail
  go_ret
  exact ⟨rfl, rfl⟩
theorem nil_wnum (n m : Int) (w : World) : Calls Try.prog 34 #[.pointer none, .int .i64 n, .int .i64 m] w fun r w' => r = .returned (.tuple #[]) ∧ w = w' := by
  go_enter Try.func34, Try.ntmps34
  go_wp2_with fail
  exact bodyPost_ret (v := .tuple #[]) (by simp [results, Try.results34, go_sem]) rfl ⟨rfl, rfl⟩
theorem nil_wbytes (n : Int) (u : Value) (w : World) : Calls Try.prog 32 #[.pointer none, .int .i64 n, u] w fun r w' => r = .returned (.tuple #[]) ∧ w = w' := by
  go_enter Try.func32, Try.ntmps32
  go_wp2_with fail
  exact bodyPost_ret (v := .tuple #[]) (by simp [results, Try.results32, go_sem]) rfl ⟨rfl, rfl⟩
theorem nil_wend (w : World) : Calls Try.prog 36 #[.pointer none] w fun r w' => r = .returned (.tuple #[.slice none 0 0, .int .i64 2]) ∧ w = w' := by
  go_enter Try.func36, Try.ntmps36
  go_wp2_with fail
  go_ret2
  exact ⟨rfl, rfl⟩
end Go.Proofs.Ytgfdadbgbdcehaa
