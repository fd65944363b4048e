/- From the reading of a row of caisson/caissonref15.Range to what a walk is told of it. -/
import Derived.Test.YtmaofhiapkfoaaaDoorOpenK
import Derived.Test.YtmaofhiapkfoaaaDoorMem
import Derived.Test.YtmaofhiapkfoaaaDoorRowsB
import Derived.Test.YtmaofhiapkfoaaaDoorCdbT
namespace Go.Proofs.YtmaofhiapkfoaaaDoor
open Go.ChangeShapes Go.WideShapes Go.ChangeAt Go.RowKit
set_option linter.unusedVariables false
set_option linter.unusedSimpArgs false
set_option maxRecDepth 20000

structure Rgs where
  lba : Int
  n : Int
/-- A row that came in. -/
def RgsAt (w : World) (v : Value) (os : List Rgs) : Prop :=
  ∃ A cap, v = .slice A os.length cap ∧ os.length ≤ cap ∧ cap ≤ 9223372036854775807 ∧ ∀ i (h : i < os.length), ∃ b off, A = some ⟨b, off, none⟩ ∧ w.cell? ⟨b, off + i * 2, none⟩ = some (.int .u64 (os[i]'h).lba) ∧ w.cell? ⟨b, off + i * 2 + 1, none⟩ = some (.int .i64 (os[i]'h).n) ∧ (0 ≤ (os[i]'h).lba ∧ (os[i]'h).lba ≤ 18446744073709551615) ∧ (-9223372036854775808 ≤ (os[i]'h).n ∧ (os[i]'h).n ≤ 9223372036854775807)
theorem RgsAt.same {w w' : World} {v : Value} {os : List Rgs} (h : RgsAt w v os) (hs : Same w w') : RgsAt w' v os := by
  obtain ⟨A, cap, rfl, h1, h2, h3⟩ := h
  refine ⟨A, cap, rfl, h1, h2, fun i hi => ?_⟩
  obtain ⟨b, off, e, c0, c1, rlba, rn⟩ := h3 i hi
  exact ⟨b, off, e, hs.cell c0 id, hs.cell c1 id, rlba, rn⟩
section
variable {H : Type} {enc : TypeId × Value → H} {W : World}
theorem openRgs {base : Nat} {v : Value} {d : DataW H} {p : List MemPlace} (hv : Value.okWide Tryd.prog W .any base 53 v) (h : DataW.Trod enc Tryd.prog W 0 (fun _ => true) true 53 v d p) (hz : ∀ n ∈ d.weights Tryd.prog 53, n ≤ 140737488351232) : ∃ os, RgsAt W v os := by
  obtain ⟨A, len, cap, rfl, hl, hc, hel⟩ := open_structs (sz := 2) Tryd.underlying53 Tryd.underlying102 (by kernel_rfl) (by decide) (okWide_slice Tryd.underlying53 hv) h hz
  have hch : ∀ i, i < len → ∃ o : Rgs, ∃ b off, A = some ⟨b, off, none⟩ ∧ W.cell? ⟨b, off + i * 2, none⟩ = some (.int .u64 o.lba) ∧ W.cell? ⟨b, off + i * 2 + 1, none⟩ = some (.int .i64 o.n) ∧ (0 ≤ o.lba ∧ o.lba ≤ 18446744073709551615) ∧ (-9223372036854775808 ≤ o.n ∧ o.n ≤ 9223372036854775807) := by
    intro i hi
    obtain ⟨b, off, cs, k, xs, rfl, hcl, hcell, hf, hw⟩ := hel i hi
    obtain ⟨y0, e0, f0⟩ := hf 0 _ rfl
    obtain ⟨y1, e1, f1⟩ := hf 1 _ rfl
    obtain ⟨u0, g0, t0⟩ := one_cell hcl (j := 0) (by decide)
    obtain ⟨u1, g1, t1⟩ := one_cell hcl (j := 1) (by decide)
    have z0 : Tryd.prog.cellsOf 22 = 1 := by kernel_rfl
    replace f0 : DataW.trod enc Tryd.prog W 0 (fun _ => true) true k 22 [u0] = some y0 := by rw [← t0, ← z0]; exact f0
    have z1 : Tryd.prog.cellsOf 3 = 1 := by kernel_rfl
    replace f1 : DataW.trod enc Tryd.prog W 0 (fun _ => true) true k 3 [u1] = some y1 := by rw [← t1, ← z1]; exact f1
    obtain ⟨n0, a0, x0, w0⟩ := DataW.trod_int Tryd.underlying22 f0
    simp at a0
    subst a0
    obtain ⟨n1, a1, x1, w1⟩ := DataW.trod_int Tryd.underlying3 f1
    simp at a1
    subst a1
    refine ⟨⟨n0, n1⟩, b, off, rfl, ?_, ?_, bounds_u64 w0, bounds_i64 w1⟩
    · have := hcell 0 (by decide)
      rw [g0] at this
      exact this
    · have := hcell 1 (by decide)
      rw [g1] at this
      exact this
  obtain ⟨os, hos, hq⟩ := choose_list len hch
  refine ⟨os, A, cap, by rw [hos], by omega, hc, fun i hi => hq i hi⟩
theorem open_len {P : Program} {t e : TypeId} (ht : P.underlying t = some (.slice e)) {A : Option Addr} {len cap : Nat} {d : DataW H} {p : List MemPlace} (h : DataW.Trod enc P W 0 (fun _ => true) true t (.slice A len cap) d p) (hz : ∀ n ∈ d.weights P t, n ≤ 140737488351232) : len * P.bytesOf e ≤ 140737488351232 := by
  obtain ⟨fuel, hf⟩ := h
  rcases Go.Deep.open_slice ht hf with ⟨hcs, _⟩ | ⟨a', l, c, m, n, D, Pl, hcs, _, hlc, hm, hmm, hx, hel⟩
  · simp [Value.cells] at hcs
    obtain ⟨_, rfl, _⟩ := hcs
    simp
  · simp [Value.cells] at hcs
    obtain ⟨_, rfl, _⟩ := hcs
    have hd : d = .slice ((List.range len).map D) ((List.range (m - len)).map fun j => D (len + j)) := by
      have := congrArg Prod.fst hx
      simpa using this
    subst hd
    have hw := hz ((((List.range len).map D).length + ((List.range (m - len)).map fun j => D (len + j)).length) * P.bytesOf e) (by
      unfold DataW.weights
      rw [ht]
      exact List.mem_cons.2 (.inl rfl))
    simp only [List.length_map, List.length_range] at hw
    exact Nat.le_trans (Nat.mul_le_mul_right _ (Nat.le_add_right _ _)) hw
theorem rgs_rdr {v : Value} {os : List Rgs} (h : RgsAt W v os) : Rdr W v 2 ((os.map fun o => ((o.lba, o.n) : Rg)).flatMap rgC) ∧ ∀ r ∈ os.map (fun o => ((o.lba, o.n) : Rg)), Rg.ok r := by
  obtain ⟨A, cap, rfl, h1, h2, h3⟩ := h
  constructor
  · refine ⟨A, os.length, cap, rfl, by rw [flat_len]; simp, h1, h2, ?_⟩
    by_cases h0 : os.length = 0
    · left
      rw [List.length_eq_zero_iff.mp h0]
      rfl
    · right
      obtain ⟨b, off, rfl, _⟩ := h3 0 (by omega)
      refine ⟨b, off, rfl, fun j u hj => ?_⟩
      have hjl : j < os.length * 2 := by
        have := (List.getElem?_eq_some_iff.1 hj).1
        rw [flat_len] at this
        simpa using this
      obtain ⟨i, hi, hm⟩ : ∃ i, i < os.length ∧ (j = i * 2 ∨ j = i * 2 + 1) := ⟨j / 2, by omega, by omega⟩
      obtain ⟨f1, f2⟩ := flat_at (os.map fun o => ((o.lba, o.n) : Rg)) i (by simpa using hi)
      simp only [List.getElem_map] at f1 f2
      obtain ⟨b', off', e', c0, c1, _⟩ := h3 i hi
      cases e'
      rcases hm with rfl | rfl
      · rw [f1] at hj
        cases hj
        exact c0
      · rw [f2] at hj
        cases hj
        rw [← Nat.add_assoc]
        exact c1
  · intro r hr
    obtain ⟨o, ho, rfl⟩ := List.mem_map.mp hr
    obtain ⟨i, hi, rfl⟩ := List.getElem_of_mem ho
    obtain ⟨_, _, _, _, _, b1, b2⟩ := h3 i hi
    exact ⟨b1, b2⟩
/-- What the walk is told. -/
def RgIn (w : World) (v : Value) (l : List Rg) : Prop := Rdr w v 2 (l.flatMap rgC) ∧ (∀ r ∈ l, Rg.ok r) ∧ l.length ≤ 8796093022208
theorem openRg {base : Nat} {v : Value} {d : DataW H} {p : List MemPlace} (hv : Value.okWide Tryd.prog W .any base 53 v) (h : DataW.Trod enc Tryd.prog W 0 (fun _ => true) true 53 v d p) (hz : ∀ n ∈ d.weights Tryd.prog 53, n ≤ 140737488351232) : ∃ l, RgIn W v l := by
  obtain ⟨os, hos⟩ := openRgs hv h hz
  have hb := rgs_rdr hos
  obtain ⟨A, cap, rfl, _⟩ := hos
  have hlen := open_len Tryd.underlying53 h hz
  have hB : Tryd.prog.bytesOf 102 = 16 := by kernel_rfl
  rw [hB] at hlen
  exact ⟨_, hb.1, hb.2, by simp; omega⟩
end
end Go.Proofs.YtmaofhiapkfoaaaDoor
