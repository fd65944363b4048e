/- Letters (chapter 17): the reference's Next. -/
import Derived.Test.YtfafepmghcobdaaPduF1
import Derived.Test.YtfafepmghcobdaaPduF2
import Derived.Test.YtfafepmghcobdaaPduF3
import Derived.Test.YtfafepmghcobdaaPduF4
import Derived.Test.YtfafepmghcobdaaPduF5
namespace Go.Proofs.Ytfafepmghcobdaa
open Go.RowKit
set_option linter.unusedVariables false
theorem rnext_any {base : Nat} {w : World} {b : Nat} {v : Value} {r : Rd1} (h : RdV base w b v r) (hbase : base ≤ w.heap.size) (hr : r.b.length ≤ 131072) :
    Calls Try.prog 27 #[.pointer (some ⟨b, 0, none⟩)] w fun e w' => NextPost base w b v r.next e w' := by
  by_cases h1 : r.next.2.2.2.dead = true
  · exact rnext_way1 h hbase hr h1
  · rw [Bool.not_eq_true] at h1
    by_cases h2 : r.next.2.2.1 = true
    · by_cases h3 : r.next.2.1 = 0
      · exact rnext_way4 h hbase hr ⟨h1, h2, h3⟩
      · by_cases h4 : r.dbad = true
        · exact rnext_way5 h hbase hr ⟨h1, h2, h3, h4⟩
        · rw [Bool.not_eq_true] at h4
          exact rnext_way3 h hbase hr ⟨h1, h2, h3, h4⟩
    · rw [Bool.not_eq_true] at h2
      exact rnext_way2 h hbase hr ⟨h1, h2⟩
end Go.Proofs.Ytfafepmghcobdaa
