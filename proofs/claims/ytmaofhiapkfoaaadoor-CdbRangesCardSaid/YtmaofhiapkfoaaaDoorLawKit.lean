/- From the reading of an argument to what a walk is told of it: slices of bytes. -/
import Derived.Test.YtmaofhiapkfoaaaDoorMem
import Derived.ProofKit
import Derived.OpenShut
import Derived.ShutString
import Derived.ChangeOld
import Derived.SizedLaws
import Derived.Carry
namespace Go.Proofs.YtmaofhiapkfoaaaDoor
open Go.ChangeShapes Go.WideShapes Go.ChangeAt Go.RowKit

section
variable {H : Type} {enc : TypeId × Value → H} {P : Program} {W : World} {base : Nat}

/-- Each weight of an argument's reading is within the reach. -/
theorem sized_each {ts : List TypeId} {ds : List (DataW H)} (h : (DataW.weightsEach P ts ds).all (· ≤ reachBytes) = true) {j : Nat} {t : TypeId} {d : DataW H} (ht : ts[j]? = some t) (hd : ds[j]? = some d) : ∀ n ∈ d.weights P t, n ≤ 140737488351232 := by
  intro n hn
  have := List.all_eq_true.1 h n (DataW.weights_mem_each ht hd n hn)
  have e : reachBytes = 140737488351232 := by decide
  rw [e] at this
  simpa using this

/-- A slice of bytes that came in. -/
theorem open_bytes {t e : TypeId} (ht : P.underlying t = some (.slice e)) (he : P.underlying e = some (.int .u8)) (hc : P.cellsOf e = 1) (hb : P.bytesOf e = 1) {v : Value} {d : DataW H} {p : List MemPlace} {sp : Nat → Bool} {hl : Bool} {b0 : Nat}
    (hok : ∃ a len cap, v = .slice a len cap) (h : DataW.Trod enc P W b0 sp hl t v d p) (hz : ∀ n ∈ d.weights P t, n ≤ 140737488351232) : ∃ bs, Bs W v bs ∧ bs.length ≤ 140737488351232 := by
  obtain ⟨a, len, cap, rfl⟩ := hok
  obtain ⟨fuel, hf⟩ := h
  rcases open_ints ht he hc hf with ⟨hcs, _⟩ | ⟨x, l, c, zs, hcs, _, hlc, hm, hzl, hx, hcell, hwz⟩
  · simp [Value.cells] at hcs
    obtain ⟨rfl, rfl, rfl⟩ := hcs
    exact ⟨[], Bs.nil W, by simp⟩
  · simp [Value.cells] at hcs
    obtain ⟨rfl, rfl, rfl⟩ := hcs
    have hll : len ≤ zs.length := by rw [hzl]; split <;> omega
    have hlen : ((zs.take len).map fun z => UInt8.ofNat z.toNat).length = len := by simp; omega
    have hmm : cap ≤ 9223372036854775807 := by simpa [maxLen] using hm
    refine ⟨(zs.take len).map fun z => UInt8.ofNat z.toNat, ⟨some x, cap, by rw [hlen], by omega, hmm, ?_⟩, ?_⟩
    · by_cases h0 : len = 0
      · subst h0; exact .inl (by simp)
      · right
        obtain ⟨b, off, spot⟩ := x
        have hc0 := hcell 0 (by omega)
        have hspot : spot = none := by simpa [Addr.add] using World.cell?_spot hc0
        subst hspot
        refine ⟨b, off, rfl, fun j hj => ?_⟩
        rw [hlen] at hj
        have hcj := hcell j (by omega)
        rw [Addr.add_lit] at hcj
        rw [hcj]
        have hjz : j < zs.length := by omega
        have hw := hwz (zs[j]) (List.getElem_mem hjz)
        have hbd := bounds_u8 hw
        have : at8 ((zs.take len).map fun z => UInt8.ofNat z.toNat) j = zs.getD j 0 := by
          unfold at8
          simp [List.getD_eq_getElem?_getD, hj, hjz]
          omega
        rw [this]
    · rw [hlen]
      have hxd : d = .slice (lits .u8 (zs.take len)) (lits .u8 (zs.drop len)) := by
        have := congrArg Prod.fst hx
        simpa using this
      subst hxd
      have := hz ((zs.take len).length * 1 + (zs.drop len).length * 1) (by simp [DataW.weights, ht, hb, lits])
      simp at this
      omega
end
end Go.Proofs.YtmaofhiapkfoaaaDoor
