/- From the reading of a struct that came in by value to what a walk is told of it. -/
import Derived.Test.YtmaofhiapkfoaaaDoorOpenK
namespace Go.Proofs.YtmaofhiapkfoaaaDoor
open Go.ChangeShapes Go.WideShapes Go.ChangeAt Go.RowKit
set_option linter.unusedVariables false
set_option linter.unusedSimpArgs false
section
variable {H : Type} {enc : TypeId × Value → H} {W : World}
theorem open_structv {P : Program} {t : TypeId} {fs : Array Field} {sz base : Nat} (ht : P.underlying t = some (.struct fs)) (hc : P.cellsOf t = sz)
    {v : Value} {d : DataW H} {p : List MemPlace} (hv : Value.okWide P W .any base t v) (h : DataW.Trod enc P W 0 (fun _ => true) true t v d p) (hz : ∀ n ∈ d.weights P t, n ≤ 140737488351232) :
    ∃ (cs : List Value) (k : Nat) (xs : List (DataW H × List MemPlace)), v = .agg cs.toArray ∧ cs.length = sz ∧
      (∀ (j : Nat) (f : Field), fs[j]? = some f → ∃ y : DataW H × List MemPlace, xs[j]? = some y ∧ DataW.trod enc P W 0 (fun _ => true) true k f.type ((cs.drop f.offset).take (P.cellsOf f.type)) = some y) ∧
      (∀ n ∈ DataW.weightsEach P (fs.toList.map (·.type)) (xs.map (·.1)), n ≤ 140737488351232) := by
  obtain ⟨cs, rfl, hsz⟩ := okWide_struct ht hv
  obtain ⟨fuel, hf⟩ := h
  have hf' : DataW.trod enc P W 0 (fun _ => true) true fuel t cs.toList = some (d, p) := by simpa [Value.cells] using hf
  obtain ⟨xs, k, hk, hxy, _, hxl, hff⟩ := DataW.trod_struct ht hf'
  refine ⟨cs.toList, k, xs, by simp, by simpa [hc] using hsz, fun j f hj => ?_, fun q hq => ?_⟩
  · have hj' : j < xs.length := by have := (Array.getElem?_eq_some_iff.1 hj).1; omega
    exact ⟨_, List.getElem?_eq_getElem hj', by rw [hff j f hj, List.getElem?_eq_getElem hj']⟩
  · have hd : d = .agg (xs.map (·.1)) := by
      have := congrArg Prod.fst hxy
      simpa using this
    subst hd
    refine hz q ?_
    unfold DataW.weights
    rw [ht]
    exact hq
end
end Go.Proofs.YtmaofhiapkfoaaaDoor
