/- cdb.find: an operation's row, copied out of the table into new memory. -/
import Derived.Test.YtmaofhiapkfoaaaDoorCdbA
import Derived.Deep.WholeRow
namespace Go.Proofs.YtmaofhiapkfoaaaDoor
open Go.RowKit
set_option linter.unusedVariables false
set_option linter.unusedSimpArgs false
set_option maxRecDepth 20000

section
variable {P : Program}
theorem run_loadVar_cells (w : World) (g : Nat) (ty : TypeId) (cs : Array Value) (d : TypeDesc) (hc : ∀ j v, cs.toList[j]? = some v → w.cell? ⟨g, j, none⟩ = some v)
    (hu : P.underlying ty = some d) (hd : (match d with | .struct _ | .array _ _ => true | _ => false) = true) (hi : (P.info? ty).map (·.size) = some cs.size) :
    (loadVar ty ⟨g, 0, none⟩).run P w = .ok (.agg cs) w := by
  have hl : (loadCells ⟨g, 0, none⟩ cs.toList.length).run P w = .ok cs.toList.toArray w :=
    run_loadCells_list (P := P) w ⟨g, 0, none⟩ cs.toList (fun j v hv => by
      have hadd : (⟨g, 0, none⟩ : Addr).add j = ⟨g, j, none⟩ := by unfold Addr.add; split <;> simp_all
      rw [hadd]
      exact hc j v hv)
  cases hq : P.info? ty with
  | none => simp [hq] at hi
  | some i =>
    have hs : i.size = cs.size := by simpa [hq] using hi
    have hagg : (isAgg ty).run P w = .ok true w := by
      unfold isAgg
      rw [Sem.run_bind, run_underlying hu w]
      cases d <;> simp_all
    simp only [Array.length_toList, Array.toArray_toList] at hl
    simp [loadVar, Sem.run_bind, hagg, sizeOf, typeInfo, hq, hs, hl]
theorem wpList_load_cells {ops : Array Oper} {rest : List Oper} {o : Oper} {a : Act} {w : World} {Q : Exit → Act → World → Prop} (hgd : o.guard = none) (ty : TypeId) (x : Operand) (ho : o.op = .load ty x)
    (g : Nat) (hx : a.eval x = .pointer (some ⟨g, 0, none⟩)) (cs : Array Value) (d : TypeDesc) (hc : ∀ j v, cs.toList[j]? = some v → w.cell? ⟨g, j, none⟩ = some v)
    (hu : P.underlying ty = some d) (hd : (match d with | .struct _ | .array _ _ => true | _ => false) = true) (hi : (P.info? ty).map (·.size) = some cs.size)
    (h : wpList P ops Q rest (a.put o.dst (.agg cs)) w) : wpList P ops Q (o :: rest) a w :=
  wpList_plain hgd fun K hK => by
    unfold Oper.wp execOp
    simp only [ho, hx, Instr.loadAt, Instr.sureAddr, Sem.run_bind, Sem.run_pure, Result.andThen_ok, run_loadVar_cells w g ty cs d hc hu hd hi]
    exact hK _ _ h
theorem wpList_store_new {ops : Array Oper} {rest : List Oper} {o : Oper} {a : Act} {w : World} {Q : Exit → Act → World → Prop} (hgd : o.guard = none) (ty : TypeId) (x y : Operand) (ho : o.op = .store ty x y) (hd : o.dst = none)
    (w0 : World) (c c' : Array Value) (t : TypeId) (hw : w = w0.alloc (.cells c t)) (hx : a.eval x = .pointer (some ⟨w0.heap.size, 0, none⟩)) (hy : a.eval y = .agg c') (hi : (P.info? ty).map (·.size) = some c'.size)
    (hold : c.size = c'.size) (h1 : c'.all (·.oneCell') = true) (h : wpList P ops Q rest a (w0.alloc (.cells c' t))) : wpList P ops Q (o :: rest) a w := by
  subst hw
  refine wpList_store_row hgd ty x y ho w0.heap.size c' hx hy t c (heap_alloc_new w0 _) hi hold h1 ?_
  rw [World.setRow_alloc_new, hd]
  exact h
end
def tabC : List Value := rows15.flatMap fun r => (rowI r).map fun n => Value.int .i64 n
/-- The table is laid. -/
structure Tab15 (w : World) : Prop where
  at_ : ∀ j v, tabC[j]? = some v → w.cell? ⟨1, j, none⟩ = some v
theorem Tab15.same {w w' : World} (h : Tab15 w) (hs : Same w w') : Tab15 w' := ⟨fun j v hj => hs.cell (h.at_ j v hj) id⟩
/-- Row k's cells. -/
def rowA (k : Nat) : Array Value := #[.int .i64 (tb k 0), .int .i64 (tb k 1), .int .i64 (tb k 2), .int .i64 (tb k 3), .int .i64 (tb k 4), .int .i64 (tb k 5), .int .i64 (tb k 6), .int .i64 (tb k 7), .int .i64 (tb k 8), .int .i64 (tb k 9), .int .i64 (tb k 10), .int .i64 (tb k 11), .int .i64 (tb k 12), .int .i64 (tb k 13), .int .i64 (tb k 14), .int .i64 (tb k 15), .int .i64 (tb k 16), .int .i64 (tb k 17), .int .i64 (tb k 18)]
theorem rowA_get (k j : Nat) (hj : j < 19) : (rowA k)[j]? = some (.int .i64 (tb k j)) := by
  match j, hj with
  | 0, _ => rfl
  | 1, _ => rfl
  | 2, _ => rfl
  | 3, _ => rfl
  | 4, _ => rfl
  | 5, _ => rfl
  | 6, _ => rfl
  | 7, _ => rfl
  | 8, _ => rfl
  | 9, _ => rfl
  | 10, _ => rfl
  | 11, _ => rfl
  | 12, _ => rfl
  | 13, _ => rfl
  | 14, _ => rfl
  | 15, _ => rfl
  | 16, _ => rfl
  | 17, _ => rfl
  | 18, _ => rfl
  | n + 19, h => omega
/-- A row lies there. -/
def RowAt (w : World) (p k : Nat) : Prop := ∀ j, j < 19 → w.cell? ⟨p, j, none⟩ = some (.int .i64 (tb k j))
theorem RowAt.same {w w' : World} {p k : Nat} (h : RowAt w p k) (hs : Same w w') : RowAt w' p k := fun j hj => hs.cell (h j hj) id
theorem RowAt.new (w : World) (k : Nat) (t : TypeId) : RowAt (w.alloc (.cells (rowA k) t)) w.heap.size k := by
  intro j hj
  rw [cell_of_row _ _ j (rowA k) t (0, 0) (heap_alloc_new w _)]
  exact rowA_get k j hj
theorem RowAt.cell0 (w : World) (k : Nat) (t : TypeId) : (w.alloc (.cells (rowA k) t)).cell? ⟨w.heap.size, 0, none⟩ = some (.int .i64 (tb k 0)) := RowAt.new w k t 0 (by omega)
theorem tabC_size : tabC.toArray.size = 266 := by kernel_rfl
theorem index_row (W : World) (k : Nat) (hk : k < 14) : (Instr.index 103 (.agg tabC.toArray) (.int .i64 (k : Int))).run Tryd.prog W = .ok (.agg (rowA k)) W := by
  rcases (show k = 0 ∨ k = 1 ∨ k = 2 ∨ k = 3 ∨ k = 4 ∨ k = 5 ∨ k = 6 ∨ k = 7 ∨ k = 8 ∨ k = 9 ∨ k = 10 ∨ k = 11 ∨ k = 12 ∨ k = 13 by omega) with rfl | rfl | rfl | rfl | rfl | rfl | rfl | rfl | rfl | rfl | rfl | rfl | rfl | rfl
  all_goals kernel_rfl
theorem find_walk (op : Int) (w : World) (hT : Tab15 w) (h1 : -9223372036854775808 ≤ op) (h2 : op ≤ 9223372036854775807) :
    Calls Tryd.prog 35 #[.int .i64 op] w fun e w' => Same w w' ∧ ((e = .returned (.pointer none) ∧ ∀ j, j < 14 → tb j 0 ≠ op) ∨ ∃ p k, e = .returned (.pointer (some ⟨p, 0, none⟩)) ∧ k < 14 ∧ tb k 0 = op ∧ RowAt w' p k ∧ w.heap.size ≤ p) := by
  obtain ⟨A, hA⟩ : ∃ A, A = tabC.toArray := ⟨_, rfl⟩
  have hsz : (Tryd.prog.info? 103).map (·.size) = some A.size := by rw [hA, tabC_size]; kernel_rfl
  have hix : ∀ (W : World) (k : Nat), k < 14 → (Instr.index 103 (.agg A) (.int .i64 (k : Int))).run Tryd.prog W = .ok (.agg (rowA k)) W := by rw [hA]; exact index_row
  have hcell : ∀ j v, A.toList[j]? = some v → w.cell? ⟨1, j, none⟩ = some v := by rw [hA]; exact hT.at_
  have HSZ := Lib.hid hsz
  have HIX := Lib.hid hix
  have HC := Lib.hid hcell
  clear hsz hix hcell hA hT
  go_enter Tryd.func35, Tryd.ntmps35
  go_wp2_with (refine wpList_load_cells rfl 103 (.global 1) rfl 1 rfl A _ HC.out Tryd.underlying103 rfl HSZ.out ?_)
  go_loopw [6] (fun v wr => ∃ k : Nat, k ≤ 14 ∧ v = .int .i64 k ∧ Same w wr ∧ Hid (∀ j, j < k → tb j 0 ≠ op)) (fun v _ => 14 - (intOf v).toNat)
  case atStart => exact ⟨0, by omega, rfl, Upd.refl _ w, fun _ h => by omega⟩
  case round =>
    obtain ⟨k, hk, rfl, hs, hno⟩ := hrel
    by_cases hlt : k < 14
    · have g0 : (k : Int) < 14 := by omega
      have ix : ∀ W, (Instr.index 103 (.agg A) (.int .i64 (k : Int))).run Tryd.prog W = .ok (.agg (rowA k)) W := fun W => HIX.out W k hlt
      have hs19 : (Tryd.prog.info? 73).map (·.size) = some (rowA k).size := by kernel_rfl
      have h1c : (rowA k).all (·.oneCell') = true := by kernel_rfl
      have hc0 := rowA_get k 0 (by omega)
      have hra := RowAt.new wr k 73
      have hre := RowAt.cell0 wr k 73
      have H19 := Lib.hid hs19
      have H1C := Lib.hid h1c
      have HRA := Lib.hid hra
      have HRE := Lib.hid hre
      obtain ⟨x, hx⟩ : ∃ x, x = tb k 0 := ⟨_, rfl⟩
      have HX := Lib.hid hx
      clear hs19 h1c hra hre hc0
      rw [← hx] at HRE
      clear hx
      generalize hR : rowA k = R at ix H19 H1C HRA HRE
      by_cases he : x = op
      · subst he
        go_wp2_with (refine wpList_store_new rfl 73 (.tmp 4) (.tmp 8) rfl rfl wr _ R 73 rfl rfl rfl H19.out (by subst hR; rfl) H1C.out ?_; have hcc := HRE.out)
        go_ret
        exact ⟨hs.alloc _, .inr ⟨_, k, rfl, hlt, HX.out.symm, HRA.out, hs.size⟩⟩
      · have hne : (x == op) = false := by simpa using he
        go_wp2_with (refine wpList_store_new rfl 73 (.tmp 4) (.tmp 8) rfl rfl wr _ R 73 rfl rfl rfl H19.out (by subst hR; rfl) H1C.out ?_; have hcc := HRE.out)
        go_roundw
        case rel => exact ⟨k + 1, by omega, by go_num, hs.alloc _, fun j hj => by
          rcases Nat.lt_or_ge j k with h | h
          · exact hno.out j h
          · have : j = k := by omega
            subst this
            rw [← HX.out]
            exact he⟩
        case measure => simp [intOf]; omega
    · obtain rfl : k = 14 := by omega
      go_wp2
      go_ret
      exact ⟨hs, .inl ⟨rfl, hno.out⟩⟩
/-- find. -/
theorem find_any (op : Int) (w : World) (hT : Tab15 w) (h1 : -9223372036854775808 ≤ op) (h2 : op ≤ 9223372036854775807) :
    Calls Tryd.prog 35 #[.int .i64 op] w fun e w' => Same w w' ∧ ((findK op = none ∧ e = .returned (.pointer none)) ∨ ∃ p k, findK op = some k ∧ e = .returned (.pointer (some ⟨p, 0, none⟩)) ∧ RowAt w' p k ∧ w.heap.size ≤ p) := by
  refine (find_walk op w hT h1 h2).mono ?_
  rintro e w' ⟨hs, ⟨he, hno⟩ | ⟨p, k, he, hk, ho, hr, hp⟩⟩
  · refine ⟨hs, .inl ⟨?_, he⟩⟩
    cases h : findK op with
    | none => rfl
    | some k => exact absurd (findK_some h).2 (hno k (findK_some h).1)
  · exact ⟨hs, .inr ⟨p, k, by rw [← ho]; exact findK_of hk, he, hr, hp⟩⟩
end Go.Proofs.YtmaofhiapkfoaaaDoor
