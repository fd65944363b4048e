/- The law's as and the reference's Same. -/
import Derived.Test.YtppphelihimidaaWorL
namespace Go.Proofs.Ytppphelihimidaa
open Go.RowKit
set_option linter.unusedVariables false
set_option linter.unusedSimpArgs false
theorem as_any (f t : Int) (A : Option Addr) (n c : Nat) (w : World) : Calls Try.prog 24 #[.agg #[.int .i64 f, .int .i64 t, .slice A n c]] w fun e w' => e = .returned (.agg #[.int .i64 f, .int .i64 t, .slice A n c]) ∧ Same w w' := by
  go_enter Try.func24, Try.ntmps24
  go_wp2_with fail
  refine bodyPost_ret (v := .agg #[.int .i64 f, .int .i64 t, .slice A n c]) (by simp [results, Try.results24, go_sem]) rfl ⟨rfl, ?_⟩
  exact ((Upd.refl _ w).alloc _).alloc _
theorem same_any (a1 a2 b1 b2 : Int) (v u : Value) (xs ys : List UInt8) (w : World) (hv : Bs w v xs) (hu : Bs w u ys) : Calls Try.prog 23 #[.agg #[.int .i64 a1, .int .i64 a2, v], .agg #[.int .i64 b1, .int .i64 b2, u]] w fun e w' => e = .returned (.bool ((a1 == b1 && a2 == b2) && eqB xs ys)) ∧ Same w w' := by
  have hs0 := ((Upd.refl (fun _ => False) w).alloc (.cells #[.int .i64 a1, .int .i64 a2, v] 51)).alloc (.cells #[.int .i64 b1, .int .i64 b2, u] 51)
  have q1 := conv_bs (P := Try.prog) (src := 35) (dst := 9) Try.underlying35 Try.underlying5 Try.underlying9 (hv.same hs0)
  have q2 := conv_bs (P := Try.prog) (src := 35) (dst := 9) Try.underlying35 Try.underlying5 Try.underlying9 (hu.same hs0)
  have HS := Lib.hid hs0
  obtain ⟨A, cap, rfl, -⟩ := id hv
  obtain ⟨A2, cap2, rfl, -⟩ := id hu
  clear hs0 hv hu
  have HB1 := Lib.hid ((Box3.new w (.int .i64 a1) (.int .i64 a2) (.slice A xs.length cap) 51 _ rfl).upd ((Upd.refl (fun _ => False) _).alloc (.cells #[.int .i64 b1, .int .i64 b2, .slice A2 ys.length cap2] 51)) (fun h => h))
  by_cases h1 : a1 = b1
  · subst h1
    by_cases h2 : a2 = b2
    · subst h2
      go_enter Try.func23, Try.ntmps23
      go_wp2_with fail
      go_ret
      exact ⟨by simp, HS.out⟩
    · have e2 : (a2 == b2) = false := by simpa using h2
      go_enter Try.func23, Try.ntmps23
      go_wp2_with fail
      go_ret
      exact ⟨by simp [e2], HS.out⟩
  · have e1 : (a1 == b1) = false := by simpa using h1
    go_enter Try.func23, Try.ntmps23
    go_wp2_with fail
    go_ret
    exact ⟨by simp [e1], HS.out⟩
end Go.Proofs.Ytppphelihimidaa
