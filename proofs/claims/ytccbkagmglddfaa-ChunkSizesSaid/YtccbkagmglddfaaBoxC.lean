/- Boxes of the call's own. -/
import Derived.Test.YtccbkagmglddfaaGa
namespace Go.Proofs.Ytccbkagmglddfaa
open Go.RowKit
set_option linter.unusedVariables false
set_option linter.unusedSimpArgs false
def FzAt (w : World) (b : Nat) : Prop := ∀ j, w.frozen? ⟨b, j, none⟩ = false
theorem FzAt.newAt (w : World) (C : Array Value) (t : TypeId) (b : Nat) (hb : b = w.heap.size) : FzAt (w.alloc (.cells C t)) b := by
  subst hb
  intro j
  have h : (w.alloc (.cells C t)).heap[w.heap.size]? = some (.cells C t) := heap_alloc_new w _
  unfold World.frozen?
  rw [h]
  simp
theorem FzAt.upd {S : Nat → Prop} {w w' : World} {b : Nat} (h : FzAt w b) (hu : Upd S w w') (hb : b < w.heap.size) (hn : ¬ S b) : FzAt w' b := fun j => (hu.frozen (p := ⟨b, j, none⟩) hb hn).trans (h j)
/-- Cells of a block, none of them shared with a text. -/
def BoxC (w : World) (b : Nat) (cs : List Value) : Prop := (∀ j u, cs[j]? = some u → w.cell? ⟨b, j, none⟩ = some u) ∧ FzAt w b
theorem BoxC.newAt (w : World) (cs : List Value) (t : TypeId) (b : Nat) (hb : b = w.heap.size) : BoxC (w.alloc (.cells cs.toArray t)) b cs := by
  refine ⟨fun j u hj => ?_, FzAt.newAt w _ t b hb⟩
  subst hb
  rw [cell_of_row _ _ j _ _ (0, 0) (heap_alloc_new w _)]
  simpa using hj
theorem BoxC.upd {S : Nat → Prop} {w w' : World} {b : Nat} {cs : List Value} (h : BoxC w b cs) (hc : 0 < cs.length) (hu : Upd S w w') (hn : ¬ S b) : BoxC w' b cs :=
  ⟨fun j u hj => hu.cell (h.1 j u hj) hn, h.2.upd hu (World.block_lt_of_cell? w _ (h.1 0 _ (List.getElem?_eq_getElem hc))) hn⟩
theorem BoxC.lt {w : World} {b : Nat} {cs : List Value} (h : BoxC w b cs) (hc : 0 < cs.length) : b < w.heap.size := World.block_lt_of_cell? w _ (h.1 0 _ (List.getElem?_eq_getElem hc))
theorem BoxC.set {w : World} {b : Nat} {cs : List Value} (h : BoxC w b cs) (j : Nat) (u : Value) (hj : j < cs.length) : BoxC (w.setCell ⟨b, j, none⟩ u) b (cs.set j u) := by
  refine ⟨fun i x hi => ?_, fun i => by rw [World.frozen?_setCell]; exact h.2 i⟩
  by_cases e : i = j
  · subst e
    rw [List.getElem?_set_self hj] at hi
    injection hi with hi
    subst hi
    exact World.cell?_setCell_same _ _ _ (h.1 i _ (List.getElem?_eq_getElem hj))
  · rw [List.getElem?_set_ne (fun h => e h.symm)] at hi
    rw [World.cell?_setCell_other _ _ _ _ (by intro h; injection h with _ h; omega)]
    exact h.1 i x hi
theorem BoxC.skip {w : World} {b b' j : Nat} {cs : List Value} {u : Value} (h : BoxC w b cs) (hb : b ≠ b') : BoxC (w.setCell ⟨b', j, none⟩ u) b cs :=
  ⟨fun i x hi => by rw [World.cell?_setCell_other _ _ _ _ (by intro h; injection h with h _; omega)]; exact h.1 i x hi, fun i => by rw [World.frozen?_setCell]; exact h.2 i⟩
end Go.Proofs.Ytccbkagmglddfaa
