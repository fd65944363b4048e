/- What field.Dist, Less, In and the references' compute: numbers that go round. -/
import Derived.Test.YtgfdadbgbdcehaaBase
namespace Go.Proofs.Ytgfdadbgbdcehaa
open Go.RowKit
set_option linter.unusedVariables false
set_option linter.unusedSimpArgs false

/-- How far it is from a on to b, going round. -/
def ahead (a b : Int) : Int := (b - a) % 4294967296
def distOf (a b : Int) : Int := if ahead a b < 2147483648 then ahead a b else ahead a b - 4294967296
theorem ahead_range (a b : Int) : 0 ≤ ahead a b ∧ ahead a b < 4294967296 := by unfold ahead; omega
theorem distOf_range (a b : Int) : -2147483648 ≤ distOf a b ∧ distOf a b < 2147483648 := by
  have := ahead_range a b
  unfold distOf
  split <;> omega
def lessB (a b : Int) : Bool := decide (0 < distOf a b)
def inB (a n x : Int) : Bool := decide (ahead a x < n)

theorem wrap_dist (a b : Int) : wrap64 (wrap32 ((b - a) % 4294967296)) = distOf a b := by
  unfold distOf ahead wrap64 wrap32
  split <;> omega
theorem wrap_dist32 (a b : Int) : wrap32 ((b - a) % 4294967296) = distOf a b := by
  unfold distOf ahead wrap32
  split <;> omega
theorem dist_any (a b : Int) (w : World) : Calls Try.prog 9 #[.int .u32 a, .int .u32 b] w fun e w' => e = .returned (.int .i64 (distOf a b)) ∧ w = w' := by
  go_enter Try.func9, Try.ntmps9
  go_wp2
  go_ret
  exact ⟨ret_int (wrap_dist a b), rfl⟩
theorem rdist_any (a b : Int) (w : World) : Calls Try.prog 12 #[.int .u32 a, .int .u32 b] w fun e w' => e = .returned (.int .i64 (distOf a b)) ∧ w = w' := by
  go_enter Try.func12, Try.ntmps12
  go_wp2
  · have h : 2147483648 ≤ (b - a) % 4294967296 := by assumption
    go_ret
    exact ⟨ret_int (by unfold distOf ahead; rw [if_neg (by omega)]), rfl⟩
  · have h : (b - a) % 4294967296 < 2147483648 := by assumption
    go_ret
    exact ⟨ret_int (by unfold distOf ahead; rw [if_pos h]), rfl⟩
theorem rless_any (a b : Int) (w : World) : Calls Try.prog 11 #[.int .u32 a, .int .u32 b] w fun e w' => e = .returned (.bool (lessB a b)) ∧ w = w' := by
  go_enter Try.func11, Try.ntmps11
  go_wp2_with fail
  refine (rdist_any a b w).mono ?_
  rintro e w' ⟨rfl, rfl⟩
  go_wp2
  go_ret
  exact ⟨rfl, rfl⟩
theorem less_any (a b : Int) (w : World) : Calls Try.prog 10 #[.int .u32 a, .int .u32 b] w fun e w' => e = .returned (.bool (lessB a b)) ∧ w = w' := by
  go_enter Try.func10, Try.ntmps10
  go_wp2
  go_ret
  exact ⟨ret_bool (by rw [wrap_dist32]; rfl), rfl⟩
theorem in_any (a n b : Int) (w : World) : Calls Try.prog 13 #[.int .u32 a, .int .i64 n, .int .u32 b] w fun e w' => e = .returned (.bool (inB a n b)) ∧ w = w' := by
  go_enter Try.func13, Try.ntmps13
  go_wp2
  go_ret
  exact ⟨rfl, rfl⟩
theorem rin_any (a n b : Int) (w : World) : Calls Try.prog 14 #[.int .u32 a, .int .i64 n, .int .u32 b] w fun e w' => e = .returned (.bool (inB a n b)) ∧ w = w' := by
  go_enter Try.func14, Try.ntmps14
  go_wp2
  go_ret
  exact ⟨rfl, rfl⟩
end Go.Proofs.Ytgfdadbgbdcehaa
