/- An act of a script, in a block. -/
import Derived.Test.YtjfcdinobhmmeaaMem
import Derived.Laws.AppendOwn
namespace Go.Proofs.Ytjfcdinobhmmeaa
open Go.RowKit
set_option linter.unusedVariables false
set_option linter.unusedSimpArgs false
/-- An act in a block. -/
def Act4 (W : World) (B : Nat) (k n : Int) (now : Bool) (id : Int) : Prop :=
  W.cell? ⟨B, 0, none⟩ = some (.int .i64 k) ∧ W.cell? ⟨B, 1, none⟩ = some (.int .u32 n) ∧ W.cell? ⟨B, 2, none⟩ = some (.bool now) ∧ W.cell? ⟨B, 3, none⟩ = some (.int .i64 id)
theorem Act4.upd {S : Nat → Prop} {W W' : World} {B : Nat} {k n : Int} {now : Bool} {id : Int} (h : Act4 W B k n now id) (hu : Upd S W W') (hn : ¬ S B) : Act4 W' B k n now id := ⟨hu.cell h.1 hn, hu.cell h.2.1 hn, hu.cell h.2.2.1 hn, hu.cell h.2.2.2 hn⟩
theorem Act4.new (W : World) (k n : Int) (now : Bool) (id : Int) (t : TypeId) (B : Nat) (hB : B = W.heap.size) : Act4 (W.alloc (.cells #[.int .i64 k, .int .u32 n, .bool now, .int .i64 id] t)) B k n now id := by
  subst hB
  have h : (W.alloc (.cells #[.int .i64 k, .int .u32 n, .bool now, .int .i64 id] t)).heap[W.heap.size]? = some (.cells #[.int .i64 k, .int .u32 n, .bool now, .int .i64 id] t) := heap_alloc_new W _
  refine ⟨?_, ?_, ?_, ?_⟩ <;> rw [cell_of_row _ _ _ _ t (0, 0) h] <;> rfl
end Go.Proofs.Ytjfcdinobhmmeaa
