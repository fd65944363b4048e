/- What the listed variables hold: from the condition to the cells. -/
import Derived.Test.YtmaofhiapkfoaaaDoorCdbS
import Derived.Test.YtmaofhiapkfoaaaDoorOpenK
import Derived.MakeChecks
import Derived.OpenShut
import Derived.ChangeArms
namespace Go.Proofs.YtmaofhiapkfoaaaDoor
open Go.ChangeShapes Go.WideShapes Go.ChangeAt Go.RowKit
set_option maxRecDepth 20000
set_option linter.unusedVariables false
set_option linter.unusedSimpArgs false
section
variable {H : Type} {enc : TypeId × Value → H} {P : Program} {W : World} {base : Nat} {sp : Nat → Bool} {held : Bool}
theorem chunks {α : Type} (C : α → List Value) (k : Nat) (hC : ∀ x, (C x).length = k) : ∀ (xs : List α) (cs : List Value), cs.length = xs.length * k → (∀ i (h : i < xs.length), (cs.drop (i * k)).take k = C (xs[i]'h)) → cs = xs.flatMap C
  | [], cs, hl, _ => by simpa using hl
  | x :: xs, cs, hl, h => by
    have h0 := h 0 (by simp)
    simp only [Nat.zero_mul, List.drop_zero, List.getElem_cons_zero] at h0
    have hr := chunks C k hC xs (cs.drop k) (by simp only [List.length_drop, hl, List.length_cons]; rw [Nat.succ_mul]; omega) (fun i hi => by
      have := h (i + 1) (by simpa using hi)
      simp only [List.getElem_cons_succ] at this
      rw [List.drop_drop, ← this]
      congr 2
      rw [Nat.succ_mul]; omega)
    rw [List.flatMap_cons, ← h0, ← hr, List.take_append_drop]
theorem array_of {α : Type} {n : Nat} {e t : TypeId} {k : Nat} (ht : P.underlying t = some (.array n e)) (he : P.cellsOf e = k) (hct : P.cellsOf t = n * k) (D : α → DataW H) (C : α → List Value) (hC : ∀ x, (C x).length = k)
    (hcell : ∀ fuel cs x q, DataW.trod enc P W base sp held fuel e cs = some (D x, q) → cs = C x) (xs : List α) (fuel : Nat) (cs : List Value) (q : List MemPlace)
    (h : DataW.trod enc P W base sp held fuel t cs = some (.agg (xs.map D), q)) : cs = xs.flatMap C := by
  obtain ⟨ys, m, rfl, hx, hl, hn, hel⟩ := DataW.trod_array ht h
  have hm : xs.map D = ys.map (·.1) := by
    have := congrArg Prod.fst hx
    simpa using this
  have hln : xs.length = n := by
    have := congrArg List.length hm
    simpa [hn] using this
  refine chunks C k hC xs cs (by rw [hl, hct, hln]) fun i hi => ?_
  have h1 := hel i (by omega)
  rw [he, List.getElem?_eq_getElem (by omega)] at h1
  refine hcell m _ _ (ys[i]'(by omega)).2 ?_
  rw [h1]
  have h2 : (xs.map D)[i]? = (ys.map (·.1))[i]? := by rw [hm]
  rw [List.getElem?_map, List.getElem?_map, List.getElem?_eq_getElem hi, List.getElem?_eq_getElem (by omega)] at h2
  simp only [Option.map_some, Option.some.injEq] at h2
  rw [h2]
theorem chunks' {α : Type} (C : α → List Value) (k : Nat) : ∀ (xs : List α) (cs : List Value), (∀ x ∈ xs, (C x).length = k) → cs.length = xs.length * k → (∀ i (h : i < xs.length), (cs.drop (i * k)).take k = C (xs[i]'h)) → cs = xs.flatMap C
  | [], cs, _, hl, _ => by simpa using hl
  | x :: xs, cs, hC, hl, h => by
    have h0 := h 0 (by simp)
    simp only [Nat.zero_mul, List.drop_zero, List.getElem_cons_zero] at h0
    have hr := chunks' C k xs (cs.drop k) (fun y hy => hC y (List.mem_cons_of_mem _ hy)) (by simp only [List.length_drop, hl, List.length_cons]; rw [Nat.succ_mul]; omega) (fun i hi => by
      have := h (i + 1) (by simpa using hi)
      simp only [List.getElem_cons_succ] at this
      rw [List.drop_drop, ← this]
      congr 2
      rw [Nat.succ_mul]; omega)
    rw [List.flatMap_cons, ← h0, ← hr, List.take_append_drop]
theorem array_of' {α : Type} {n : Nat} {e t : TypeId} {k : Nat} (ht : P.underlying t = some (.array n e)) (he : P.cellsOf e = k) (hct : P.cellsOf t = n * k) (D : α → DataW H) (C : α → List Value)
    (hcell : ∀ fuel cs x q, DataW.trod enc P W base sp held fuel e cs = some (D x, q) → cs = C x) (xs : List α) (hC : ∀ x ∈ xs, (C x).length = k) (fuel : Nat) (cs : List Value) (q : List MemPlace)
    (h : DataW.trod enc P W base sp held fuel t cs = some (.agg (xs.map D), q)) : cs = xs.flatMap C := by
  obtain ⟨ys, m, rfl, hx, hl, hn, hel⟩ := DataW.trod_array ht h
  have hm : xs.map D = ys.map (·.1) := by
    have := congrArg Prod.fst hx
    simpa using this
  have hln : xs.length = n := by
    have := congrArg List.length hm
    simpa [hn] using this
  refine chunks' C k xs cs hC (by rw [hl, hct, hln]) fun i hi => ?_
  have h1 := hel i (by omega)
  rw [he, List.getElem?_eq_getElem (by omega)] at h1
  refine hcell m _ _ (ys[i]'(by omega)).2 ?_
  rw [h1]
  have h2 : (xs.map D)[i]? = (ys.map (·.1))[i]? := by rw [hm]
  rw [List.getElem?_map, List.getElem?_map, List.getElem?_eq_getElem hi, List.getElem?_eq_getElem (by omega)] at h2
  simp only [Option.map_some, Option.some.injEq] at h2
  rw [h2]
theorem int_of {t : TypeId} {kd : IntKind} (ht : P.underlying t = some (.int kd)) (fuel : Nat) (cs : List Value) (a : Int) (q : List MemPlace) (h : DataW.trod enc P W base sp held fuel t cs = some (.lit (.int kd a), q)) : cs = [.int kd a] := by
  obtain ⟨n, rfl, hx, -⟩ := DataW.trod_int ht h
  simp only [Prod.mk.injEq, DataW.lit.injEq, Lit.int.injEq] at hx
  rw [hx.1.2]
end
def plcD {H : Type} (p : Plc) : DataW H := .agg [.lit (.int .i64 p.1), .lit (.int .i64 p.2.1), .lit (.int .i64 p.2.2)]
def plcC (p : Plc) : List Value := (plcI p).map fun n => Value.int .i64 n
def rowD {H : Type} (r : CRow) : DataW H := .agg [.lit (.int .i64 r.1), .agg (r.2.map plcD)]
def rowC (r : CRow) : List Value := .int .i64 r.1 :: r.2.flatMap plcC
theorem rowC_eq (r : CRow) : rowC r = (rowI r).map fun n => Value.int .i64 n := by
  unfold rowC rowI plcC
  rw [List.map_cons, List.map_flatMap]
section
variable {H : Type} {enc : TypeId × Value → H} {W : World} {base : Nat} {sp : Nat → Bool} {held : Bool}
theorem plc_of (fuel : Nat) (cs : List Value) (x : Plc) (q : List MemPlace) (h : DataW.trod enc Tryd.prog W base sp held fuel 70 cs = some (plcD x, q)) : cs = plcC x := by
  obtain ⟨xs, n, rfl, hx, hl, hn, hf⟩ := DataW.trod_struct Tryd.underlying70 h
  have hm : [DataW.lit (.int .i64 x.1), .lit (.int .i64 x.2.1), .lit (.int .i64 x.2.2)] = xs.map (·.1) := by
    have := congrArg Prod.fst hx
    simpa [plcD] using this
  match xs, hm with
  | [y0, y1, y2], hm =>
    simp only [List.map_cons, List.map_nil, List.cons.injEq, and_true] at hm
    obtain ⟨e0, e1, e2⟩ := hm
    have z : Tryd.prog.cellsOf 3 = 1 := by kernel_rfl
    have zp : Tryd.prog.cellsOf 70 = 3 := by kernel_rfl
    have f0 := hf 0 _ rfl
    have f1 := hf 1 _ rfl
    have f2 := hf 2 _ rfl
    rw [zp] at hl
    match cs, hl with
    | [c0, c1, c2], _ =>
      simp [z] at f0 f1 f2
      have g0 := int_of Tryd.underlying3 n [c0] x.1 y0.2 (by rw [f0, e0])
      have g1 := int_of Tryd.underlying3 n [c1] x.2.1 y1.2 (by rw [f1, e1])
      have g2 := int_of Tryd.underlying3 n [c2] x.2.2 y2.2 (by rw [f2, e2])
      simp at g0 g1 g2
      rw [g0, g1, g2]; rfl
theorem row_of (fuel : Nat) (cs : List Value) (x : CRow) (q : List MemPlace) (h : DataW.trod enc Tryd.prog W base sp held fuel 73 cs = some (rowD x, q)) : cs = rowC x := by
  obtain ⟨xs, n, rfl, hx, hl, hn, hf⟩ := DataW.trod_struct Tryd.underlying73 h
  have hm : [DataW.lit (.int .i64 x.1), .agg (x.2.map plcD)] = xs.map (·.1) := by
    have := congrArg Prod.fst hx
    simpa [rowD] using this
  match xs, hm with
  | [y0, y1], hm =>
    simp only [List.map_cons, List.map_nil, List.cons.injEq, and_true] at hm
    obtain ⟨e0, e1⟩ := hm
    have z : Tryd.prog.cellsOf 3 = 1 := by kernel_rfl
    have za : Tryd.prog.cellsOf 71 = 18 := by kernel_rfl
    have zp : Tryd.prog.cellsOf 73 = 19 := by kernel_rfl
    have f0 := hf 0 _ rfl
    have f1 := hf 1 _ rfl
    rw [zp] at hl
    match cs, hl with
    | c0 :: rest, hl =>
      have hr : rest.length = 18 := by simpa using hl
      simp [z] at f0
      simp at f1
      rw [List.take_of_length_le (by rw [za]; omega)] at f1
      have g0 := int_of Tryd.underlying3 n [c0] x.1 y0.2 (by rw [f0, e0])
      have g1 := array_of (k := 3) Tryd.underlying71 (by kernel_rfl) (by kernel_rfl) plcD plcC (fun _ => rfl) plc_of x.2 n rest y1.2 (by rw [f1, e1])
      simp at g0
      unfold rowC
      rw [g0, g1]
theorem rows_of (fuel : Nat) (cs : List Value) (q : List MemPlace) (h : DataW.trod enc Tryd.prog W base sp held fuel 103 cs = some (Rows.laid_caisson_cdb_rows, q)) : cs = tabC := by
  have hd : (Rows.laid_caisson_cdb_rows : DataW H) = .agg (rows15.map rowD) := rfl
  rw [hd] at h
  have hlen : ∀ x ∈ rows15, (rowC x).length = 19 := by decide
  have := array_of' (k := 19) Tryd.underlying103 (by kernel_rfl) (by kernel_rfl) rowD rowC row_of rows15 hlen fuel cs q h
  rw [this]
  unfold tabC
  congr 1
  funext r
  exact rowC_eq r
end
theorem gRows : Tryd.prog.globalNamed "caisson/cdb.rows" = some 1 := by kernel_rfl
theorem tRows : (Tryd.prog.globals[1]?).map (·.type) = some 103 := by kernel_rfl
theorem tab_of_laid {W : World} (h : laidMetH Tryd.prog [("caisson/cdb.rows", Rows.laid_caisson_cdb_rows)] W) : Tab15 W := by
  rw [MakeChecks.laidMetH_plain _ _ _ (by kernel_rfl)] at h
  obtain ⟨ps, ⟨g0, t0, cs0, f0, p0, q0, hg0, ht0, hv0, hd0, _, _⟩, _, _⟩ := h
  obtain rfl := Option.some.inj (gRows.symm.trans hg0)
  obtain rfl := Option.some.inj (tRows.symm.trans ht0)
  have hcs := rows_of _ _ _ hd0
  refine ⟨fun j v hj => ?_⟩
  have := World.var?_cell hg0 hv0 j
  rw [← hcs] at hj
  simpa using this.trans (by simpa using hj)
theorem gSizes : Tryd.prog.globalNamed "caisson/cdb.sizes" = some 0 := by kernel_rfl
theorem tSizes : (Tryd.prog.globals[0]?).map (·.type) = some 77 := by kernel_rfl
theorem sizes_of {H : Type} {enc : TypeId × Value → H} {W : World} {base : Nat} {sp : Nat → Bool} {held : Bool} (fuel : Nat) (cs : List Value) (q : List MemPlace) (h : DataW.trod enc Tryd.prog W base sp held fuel 77 cs = some (Rows.laid_caisson_cdb_sizes, q)) : cs = sz8.flatMap fun n => [.int .i64 n] := by
  have hd : (Rows.laid_caisson_cdb_sizes : DataW H) = .agg (sz8.map fun n => DataW.lit (.int .i64 n)) := rfl
  rw [hd] at h
  exact array_of (k := 1) Tryd.underlying77 (by kernel_rfl) (by kernel_rfl) (fun n => DataW.lit (.int .i64 n)) (fun n => [.int .i64 n]) (fun _ => rfl) (fun fuel cs x q h => int_of Tryd.underlying3 fuel cs x q h) sz8 fuel cs q h
theorem tab2_of_laid {W : World} (h : laidMetH Tryd.prog [("caisson/cdb.rows", Rows.laid_caisson_cdb_rows), ("caisson/cdb.sizes", Rows.laid_caisson_cdb_sizes)] W) : Tab15 W ∧ Siz8 W := by
  rw [MakeChecks.laidMetH_plain _ _ _ (by kernel_rfl)] at h
  obtain ⟨ps, ⟨g0, t0, cs0, f0, p0, q0, hg0, ht0, hv0, hd0, ⟨g1, t1, cs1, f1, p1, q1, hg1, ht1, hv1, hd1, _, _⟩, _⟩, _, _⟩ := h
  obtain rfl := Option.some.inj (gRows.symm.trans hg0)
  obtain rfl := Option.some.inj (gSizes.symm.trans hg1)
  obtain rfl := Option.some.inj (tRows.symm.trans ht0)
  obtain rfl := Option.some.inj (tSizes.symm.trans ht1)
  have hcs := rows_of _ _ _ hd0
  have hcs1 := sizes_of _ _ _ hd1
  refine ⟨⟨fun j v hj => ?_⟩, ⟨fun j hj => ?_⟩⟩
  · have := World.var?_cell hg0 hv0 j
    rw [← hcs] at hj
    simpa using this.trans (by simpa using hj)
  · have := World.var?_cell hg1 hv1 j
    have h2 : cs1[j]? = some (.int .i64 (sz8.getD j 0)) := by
      have : cs1.toList[j]? = some (.int .i64 (sz8.getD j 0)) := by
        rw [hcs1]
        rcases (show j = 0 ∨ j = 1 ∨ j = 2 ∨ j = 3 ∨ j = 4 ∨ j = 5 ∨ j = 6 ∨ j = 7 by omega) with rfl | rfl | rfl | rfl | rfl | rfl | rfl | rfl <;> rfl
      simpa using this
    simpa using this.trans h2
end Go.Proofs.YtmaofhiapkfoaaaDoor
