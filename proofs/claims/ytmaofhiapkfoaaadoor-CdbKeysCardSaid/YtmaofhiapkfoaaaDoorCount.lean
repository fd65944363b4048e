/- The reference's Count. -/
import Derived.Test.YtmaofhiapkfoaaaDoorBase
namespace Go.Proofs.YtmaofhiapkfoaaaDoor
open Go.RowKit
set_option linter.unusedVariables false
set_option linter.unusedSimpArgs false
/-- Count: a number from 0 to one less than most. -/
theorem count_any (n m : Int) (w : World) (hm : 0 < m) (hm2 : m ≤ 4611686018427387904) (hn : -9223372036854775808 ≤ n) (hn2 : n ≤ 9223372036854775807) :
    Calls Tryd.prog 12 #[.int .i64 n, .int .i64 m] w fun e w' => e = .returned (.int .i64 (n % m)) ∧ w = w' := by
  by_cases h0 : 0 ≤ n
  · go_enter Tryd.func12, Tryd.ntmps12
    go_wp2
    · have h1 : n % m < 0 := by assumption
      have h2 := Int.emod_nonneg n (show m ≠ 0 by omega)
      omega
    · go_ret
      exact ⟨rfl, rfl⟩
  · have ht : n.tmod m = -((-n) % m) := by rw [← Int.tmod_eq_emod_of_nonneg (by omega), ← Int.neg_tmod, Int.neg_neg]
    have h3 := Int.emod_nonneg (-n) (show m ≠ 0 by omega)
    have h4 := Int.emod_lt_of_pos (-n) hm
    have h5 : n.tmod m ≤ 0 ∧ -m < n.tmod m := by omega
    have h6 : n % m = if n.tmod m < 0 then n.tmod m + m else n.tmod m := by
      have e1 := Int.mul_tdiv_add_tmod n m
      have e2 := Int.mul_ediv_add_emod n m
      split
      · have : n % m = (n.tmod m + m) % m := by
          rw [Int.add_emod_right]
          conv => lhs; rw [← e1]
          rw [Int.add_emod, Int.mul_emod_right]
          simp
        rw [this]
        exact Int.emod_eq_of_lt (by omega) (by omega)
      · have h7 : n.tmod m = 0 := by omega
        have : n % m = (n.tmod m) % m := by
          conv => lhs; rw [← e1]
          rw [Int.add_emod, Int.mul_emod_right]
          simp
        rw [this, h7]
        simp
    have H6 := Lib.hid h6
    clear h6 ht
    go_enter Tryd.func12, Tryd.ntmps12
    go_wp2
    · have h7 : n.tmod m < 0 := by assumption
      go_ret
      exact ⟨ret_int (by rw [H6.out, if_pos h7]), rfl⟩
    · have h7 : 0 ≤ n.tmod m := by assumption
      go_ret
      exact ⟨ret_int (by rw [H6.out, if_neg (by omega)]), rfl⟩

end Go.Proofs.YtmaofhiapkfoaaaDoor
