/- From the reading of a row of 64-bit numbers to what a walk is told of it. -/
import Derived.Test.YtfafepmghcobdaaGa
namespace Go.Proofs.Ytfafepmghcobdaa
open Go.ChangeShapes Go.WideShapes Go.ChangeAt Go.RowKit
set_option linter.unusedVariables false
set_option linter.unusedSimpArgs false

/-- A row of numbers that came in. -/
def NumsAt (w : World) (v : Value) (zs : List Int) : Prop :=
  ∃ A cap, v = .slice A zs.length cap ∧ zs.length ≤ cap ∧ cap ≤ 9223372036854775807 ∧
    ∀ i, i < zs.length → ∃ b off, A = some ⟨b, off, none⟩ ∧ w.cell? ⟨b, off + i, none⟩ = some (.int .i64 (zs.getD i 0)) ∧ (-9223372036854775808 ≤ zs.getD i 0 ∧ zs.getD i 0 ≤ 9223372036854775807)
theorem NumsAt.same {w w' : World} {v : Value} {zs : List Int} (h : NumsAt w v zs) (hs : Same w w') : NumsAt w' v zs := by
  obtain ⟨A, cap, rfl, h1, h2, h3⟩ := h
  refine ⟨A, cap, rfl, h1, h2, fun i hi => ?_⟩
  obtain ⟨b, off, e, c, r⟩ := h3 i hi
  exact ⟨b, off, e, hs.cell c id, r⟩
section
variable {H : Type} {enc : TypeId × Value → H} {P : Program} {W : World} {base : Nat}
theorem open_nums {t e : TypeId} (ht : P.underlying t = some (.slice e)) (he : P.underlying e = some (.int .i64)) (hc : P.cellsOf e = 1) {v : Value} {d : DataW H} {p : List MemPlace} {sp : Nat → Bool} {hl : Bool} {b0 : Nat}
    (hok : ∃ a len cap, v = .slice a len cap) (h : DataW.Trod enc P W b0 sp hl t v d p) : ∃ zs, NumsAt W v zs := by
  obtain ⟨a, len, cap, rfl⟩ := hok
  obtain ⟨fuel, hf⟩ := h
  rcases open_ints ht he hc hf with ⟨hcs, _⟩ | ⟨x, l, c, zs, hcs, _, hlc, hm, hzl, hx, hcell, hwz⟩
  · simp [Value.cells] at hcs
    obtain ⟨rfl, rfl, rfl⟩ := hcs
    exact ⟨[], none, 0, rfl, Nat.le_refl _, by omega, fun i hi => by simp at hi⟩
  · simp [Value.cells] at hcs
    obtain ⟨rfl, rfl, rfl⟩ := hcs
    have hll : len ≤ zs.length := by rw [hzl]; split <;> omega
    have hlen : (zs.take len).length = len := by simp; omega
    have hmm : cap ≤ 9223372036854775807 := by simpa [maxLen] using hm
    refine ⟨zs.take len, some x, cap, by rw [hlen], by omega, hmm, fun i hi => ?_⟩
    rw [hlen] at hi
    obtain ⟨b, off, spot⟩ := x
    have hc0 := hcell 0 (by omega)
    have hspot : spot = none := by simpa [Addr.add] using World.cell?_spot hc0
    subst hspot
    have hcj := hcell i (by omega)
    rw [Addr.add_lit] at hcj
    have hz : (zs.take len).getD i 0 = zs.getD i 0 := by simp [List.getD_eq_getElem?_getD, hi]
    have hiz : i < zs.length := by omega
    have hw := hwz (zs[i]) (List.getElem_mem hiz)
    have hbd := bounds_i64 hw
    refine ⟨b, off, rfl, by rw [hz]; exact hcj, ?_⟩
    rw [hz, List.getD_eq_getElem?_getD, List.getElem?_eq_getElem hiz]
    exact hbd
end
section
variable {H : Type} {enc : TypeId × Value → H} {W : World}
set_option maxRecDepth 100000 in
theorem openInts {base : Nat} {v : Value} {d : DataW H} {p : List MemPlace} (hv : Value.okWide Try.prog W .any base 25 v) (h : DataW.Trod enc Try.prog W 0 (fun _ => true) true 25 v d p) (hz : ∀ n ∈ d.weights Try.prog 25, n ≤ 140737488351232) : ∃ zs, NumsAt W v zs :=
  open_nums (P := Try.prog) (e := 3) Try.underlying25 Try.underlying3 (show Try.prog.cellsOf 3 = 1 by kernel_rfl) (okWide_slice Try.underlying25 hv) h
end
end Go.Proofs.Ytfafepmghcobdaa
