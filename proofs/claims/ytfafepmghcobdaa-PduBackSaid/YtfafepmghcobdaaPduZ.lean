/- Letters (chapter 17): the program's Next. -/
import Derived.Test.YtfafepmghcobdaaPduZ1
import Derived.Test.YtfafepmghcobdaaPduZ2
import Derived.Test.YtfafepmghcobdaaPduZ3
import Derived.Test.YtfafepmghcobdaaPduZ4
namespace Go.Proofs.Ytfafepmghcobdaa
open Go.RowKit
set_option linter.unusedVariables false
theorem next_any {base : Nat} {w : World} {b : Nat} {v : Value} {r : Rd1} (h : RdV base w b v r) (hbase : base ≤ w.heap.size) (hr : r.b.length ≤ 131072) :
    Calls Try.prog 16 #[.pointer (some ⟨b, 0, none⟩)] w fun e w' => NextPost base w b v r.next e w' := by
  by_cases h1 : r.next.2.2.2.dead = true
  · exact next_way1 h hbase hr h1
  · rw [Bool.not_eq_true] at h1
    by_cases h2 : r.next.2.2.1 = true
    · by_cases h3 : r.next.2.1 = 0
      · exact next_way4 h hbase hr ⟨h1, h2, h3⟩
      · exact next_way3 h hbase hr ⟨h1, h2, h3⟩
    · rw [Bool.not_eq_true] at h2
      exact next_way2 h hbase hr ⟨h1, h2⟩
end Go.Proofs.Ytfafepmghcobdaa
