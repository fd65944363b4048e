/- Letters (chapter 17): the reference's Same tells that a letter is like itself. -/
import Derived.Test.YtfafepmghcobdaaPduR
import Derived.Laws.StructEq
import Derived.Laws.Cover2
namespace Go.Proofs.Ytfafepmghcobdaa
open Go.RowKit
set_option linter.unusedVariables false
set_option linter.unusedSimpArgs false
set_option maxRecDepth 100000
set_option maxHeartbeats 4000000
theorem eq_seven (a b c d e f g : Int) (w : World) : (Op.equalIn 10000 38 (.agg #[.int .u32 a, .int .u32 b, .int .u32 c, .int .u32 d, .int .u32 e, .int .u32 f, .int .u32 g]) (.agg #[.int .u32 a, .int .u32 b, .int .u32 c, .int .u32 d, .int .u32 e, .int .u32 f, .int .u32 g])).run Try.prog w = .ok true w := by
  have u3 := Try.underlying37
  have a3 := Try.isAgg37
  have z3 := Try.sizeOf37
  rw [show (10000 : Nat) = 9999 + 1 from rfl, Op.equalIn]
  simp only [Sem.run_bind, run_underlying Try.underlying38, Result.andThen_ok]
  simp only [Std.Legacy.Range.forIn_eq_forIn_range', Std.Legacy.Range.size, Nat.sub_zero, Nat.add_sub_cancel, Nat.div_one, List.range'_succ, List.range'_zero, List.forIn_cons, List.forIn_nil]
  go_simp
theorem same_any (p : Pd) (A B : Option Addr) (n m cap cap2 : Nat) (w : World) (h : Bs w (.slice A n cap) p.data) (h2 : Bs w (.slice B m cap2) p.data) :
    Calls Try.prog 17 #[pdA p (.slice A n cap), pdA p (.slice B m cap2)] w fun e w' => e = .returned (.bool true) ∧ Same w w' := by
  have hs0 := ((Upd.refl (fun _ => False) w).alloc (.cells (pdC p (.slice A n cap)).toArray 42)).alloc (.cells (pdC p (.slice B m cap2)).toArray 42)
  have q1 := conv_bs (P := Try.prog) (src := 33) (dst := 9) Try.underlying33 Try.underlying5 Try.underlying9 (h.same hs0)
  have q2 := conv_bs (P := Try.prog) (src := 33) (dst := 9) Try.underlying33 Try.underlying5 Try.underlying9 (h2.same hs0)
  have HS := Lib.hid hs0
  clear hs0 h h2
  simp only [pdC, List.toArray] at q1 q2
  have q3 := eq_seven (wd p 0) (wd p 1) (wd p 2) (wd p 3) (wd p 4) (wd p 5) (wd p 6)
  unfold pdA
  go_enter Try.func17, Try.ntmps17
  go_wp2_with fail
  go_ret
  exact ⟨rfl, HS.out⟩
end Go.Proofs.Ytfafepmghcobdaa
