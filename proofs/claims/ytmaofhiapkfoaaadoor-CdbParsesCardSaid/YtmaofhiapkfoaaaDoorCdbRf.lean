/- The reference's rowOf, Size, most, Out, In, get, put. -/
import Derived.Test.YtmaofhiapkfoaaaDoorCdbS
import Derived.Deep.DeepCutAuto
namespace Go.Proofs.YtmaofhiapkfoaaaDoor
open Go.RowKit
set_option linter.unusedVariables false
set_option linter.unusedSimpArgs false
set_option maxRecDepth 20000
def zero18 : Array Value := #[.int .i64 0, .int .i64 0, .int .i64 0, .int .i64 0, .int .i64 0, .int .i64 0, .int .i64 0, .int .i64 0, .int .i64 0, .int .i64 0, .int .i64 0, .int .i64 0, .int .i64 0, .int .i64 0, .int .i64 0, .int .i64 0, .int .i64 0, .int .i64 0]
theorem wpList_buildP {P : Program} {ops : Array Oper} {rest : List Oper} {o : Oper} {a : Act} {w : World} {Q : Exit → Act → World → Prop} (hgd : o.guard = none) (t : TypeId) (parts : Array (Nat × Operand)) (ho : o.op = .build t parts)
    (ps : Array (Nat × Value)) (hp : (parts.map fun (i, x) => (i, a.eval x)) = ps) (R : Array Value) (hb : (Instr.build t ps).run P w = .ok (.agg R) w) (h : wpList P ops Q rest (a.put o.dst (.agg R)) w) : wpList P ops Q (o :: rest) a w :=
  wpList_plain hgd fun K hK => by
    subst hp
    unfold Oper.wp execOp
    simp only [ho, Sem.run_bind, hb, Result.andThen_ok]
    exact hK _ _ h
/-- What rowOf answers. -/
def rowN (op : Int) : Array Value := match findK op with | none => zero18 | some k => plcA k
theorem rowOf_0 (w : World) : Calls Tryd.prog 41 #[.int .i64 0] w fun e w' => e = .returned (.tuple #[.agg (plcA 0), .bool true]) ∧ Same w w' := by
  have hbd : ∀ W, (Instr.build 82 #[]).run Tryd.prog W = .ok (.agg (plcA 0)) W := fun W => run_build W _ _ _ (by kernel_rfl)
  have hs18 : (plcA 0).size = 18 := rfl
  have h1c : (plcA 0).all (·.oneCell') = true := by kernel_rfl
  generalize plcA 0 = R at hbd hs18 h1c ⊢
  have hsz : (Tryd.prog.info? 82).map (·.size) = some R.size := by rw [hs18]; kernel_rfl
  have HSZ := Lib.hid hsz
  have HS18 := Lib.hid hs18
  have H1C := Lib.hid h1c
  clear hsz hs18 h1c
  go_enter Tryd.func41, Tryd.ntmps41
  go_upto_region 4 with (fail)
  refine wp_region_lit ?_
  refine wpList_buildP rfl 82 _ rfl _ (by kernel_rfl) R (hbd _) ?_
  refine wpList_store_new rfl 82 (.tmp 2) (.tmp 8) rfl rfl w _ R 82 rfl rfl rfl HSZ.out (by rw [HS18.out]; rfl) H1C.out ?_
  clear hbd
  simp only [Act.put, List.getElem_toArray, List.getElem_cons_succ, List.getElem_cons_zero, List.setIfInBounds_toArray, List.set_cons_zero, List.set_cons_succ]
  go_wp2_with fail
  have hld := run_loadVar_row (P := Tryd.prog) (w.alloc (.cells R 82)) w.heap.size 82 82 R (0, 0) _ (heap_alloc_new w _) Tryd.underlying82 rfl HSZ.out
  exact bodyPost_ret (v := .tuple #[.agg R, .bool true]) (by rw [results_cell_tmp rfl]; simp [asAddr, Result.andThen, hld]) rfl ⟨rfl, (Upd.refl _ w).alloc _⟩
theorem rowOf_1 (w : World) : Calls Tryd.prog 41 #[.int .i64 37] w fun e w' => e = .returned (.tuple #[.agg (plcA 1), .bool true]) ∧ Same w w' := by
  have hbd : ∀ W, (Instr.build 82 #[]).run Tryd.prog W = .ok (.agg (plcA 1)) W := fun W => run_build W _ _ _ (by kernel_rfl)
  have hs18 : (plcA 1).size = 18 := rfl
  have h1c : (plcA 1).all (·.oneCell') = true := by kernel_rfl
  generalize plcA 1 = R at hbd hs18 h1c ⊢
  have hsz : (Tryd.prog.info? 82).map (·.size) = some R.size := by rw [hs18]; kernel_rfl
  have HSZ := Lib.hid hsz
  have HS18 := Lib.hid hs18
  have H1C := Lib.hid h1c
  clear hsz hs18 h1c
  go_enter Tryd.func41, Tryd.ntmps41
  go_upto_region 4 with (fail)
  refine wp_region_lit ?_
  refine wpList_buildP rfl 82 _ rfl _ (by kernel_rfl) R (hbd _) ?_
  refine wpList_store_new rfl 82 (.tmp 2) (.tmp 8) rfl rfl w _ R 82 rfl rfl rfl HSZ.out (by rw [HS18.out]; rfl) H1C.out ?_
  clear hbd
  simp only [Act.put, List.getElem_toArray, List.getElem_cons_succ, List.getElem_cons_zero, List.setIfInBounds_toArray, List.set_cons_zero, List.set_cons_succ]
  go_wp2_with fail
  have hld := run_loadVar_row (P := Tryd.prog) (w.alloc (.cells R 82)) w.heap.size 82 82 R (0, 0) _ (heap_alloc_new w _) Tryd.underlying82 rfl HSZ.out
  exact bodyPost_ret (v := .tuple #[.agg R, .bool true]) (by rw [results_cell_tmp rfl]; simp [asAddr, Result.andThen, hld]) rfl ⟨rfl, (Upd.refl _ w).alloc _⟩
theorem rowOf_2 (w : World) : Calls Tryd.prog 41 #[.int .i64 3] w fun e w' => e = .returned (.tuple #[.agg (plcA 2), .bool true]) ∧ Same w w' := by
  have hbd : ∀ W, (Instr.build 82 #[(5, .agg #[.int .i64 4, .int .i64 1, .int .i64 0])]).run Tryd.prog W = .ok (.agg (plcA 2)) W := fun W => run_build W _ _ _ (by kernel_rfl)
  have hs18 : (plcA 2).size = 18 := rfl
  have h1c : (plcA 2).all (·.oneCell') = true := by kernel_rfl
  generalize plcA 2 = R at hbd hs18 h1c ⊢
  have hsz : (Tryd.prog.info? 82).map (·.size) = some R.size := by rw [hs18]; kernel_rfl
  have HSZ := Lib.hid hsz
  have HS18 := Lib.hid hs18
  have H1C := Lib.hid h1c
  clear hsz hs18 h1c
  go_enter Tryd.func41, Tryd.ntmps41
  go_upto_region 6 with (fail)
  refine wp_region_lit ?_
  refine wpList_buildP rfl 80 _ rfl _ rfl #[.int .i64 4, .int .i64 1, .int .i64 0] (run_build _ _ _ _ (by kernel_rfl)) ?_
  refine wpList_buildP rfl 82 _ rfl _ (by kernel_rfl) R (hbd _) ?_
  refine wpList_store_new rfl 82 (.tmp 2) (.tmp 12) rfl rfl w _ R 82 rfl rfl rfl HSZ.out (by rw [HS18.out]; rfl) H1C.out ?_
  clear hbd
  simp only [Act.put, List.getElem_toArray, List.getElem_cons_succ, List.getElem_cons_zero, List.setIfInBounds_toArray, List.set_cons_zero, List.set_cons_succ]
  go_wp2_with fail
  have hld := run_loadVar_row (P := Tryd.prog) (w.alloc (.cells R 82)) w.heap.size 82 82 R (0, 0) _ (heap_alloc_new w _) Tryd.underlying82 rfl HSZ.out
  exact bodyPost_ret (v := .tuple #[.agg R, .bool true]) (by rw [results_cell_tmp rfl]; simp [asAddr, Result.andThen, hld]) rfl ⟨rfl, (Upd.refl _ w).alloc _⟩
theorem rowOf_3 (w : World) : Calls Tryd.prog 41 #[.int .i64 18] w fun e w' => e = .returned (.tuple #[.agg (plcA 3), .bool true]) ∧ Same w w' := by
  have hbd : ∀ W, (Instr.build 82 #[(1, .agg #[.int .i64 1, .int .i64 1, .int .i64 1]), (2, .agg #[.int .i64 2, .int .i64 1, .int .i64 0]), (5, .agg #[.int .i64 3, .int .i64 2, .int .i64 0])]).run Tryd.prog W = .ok (.agg (plcA 3)) W := fun W => run_build W _ _ _ (by kernel_rfl)
  have hs18 : (plcA 3).size = 18 := rfl
  have h1c : (plcA 3).all (·.oneCell') = true := by kernel_rfl
  generalize plcA 3 = R at hbd hs18 h1c ⊢
  have hsz : (Tryd.prog.info? 82).map (·.size) = some R.size := by rw [hs18]; kernel_rfl
  have HSZ := Lib.hid hsz
  have HS18 := Lib.hid hs18
  have H1C := Lib.hid h1c
  clear hsz hs18 h1c
  go_enter Tryd.func41, Tryd.ntmps41
  go_upto_region 8 with (fail)
  refine wp_region_lit ?_
  refine wpList_buildP rfl 80 _ rfl _ rfl #[.int .i64 1, .int .i64 1, .int .i64 1] (run_build _ _ _ _ (by kernel_rfl)) ?_
  refine wpList_buildP rfl 80 _ rfl _ rfl #[.int .i64 2, .int .i64 1, .int .i64 0] (run_build _ _ _ _ (by kernel_rfl)) ?_
  refine wpList_buildP rfl 80 _ rfl _ rfl #[.int .i64 3, .int .i64 2, .int .i64 0] (run_build _ _ _ _ (by kernel_rfl)) ?_
  refine wpList_buildP rfl 82 _ rfl _ (by kernel_rfl) R (hbd _) ?_
  refine wpList_store_new rfl 82 (.tmp 2) (.tmp 18) rfl rfl w _ R 82 rfl rfl rfl HSZ.out (by rw [HS18.out]; rfl) H1C.out ?_
  clear hbd
  simp only [Act.put, List.getElem_toArray, List.getElem_cons_succ, List.getElem_cons_zero, List.setIfInBounds_toArray, List.set_cons_zero, List.set_cons_succ]
  go_wp2_with fail
  have hld := run_loadVar_row (P := Tryd.prog) (w.alloc (.cells R 82)) w.heap.size 82 82 R (0, 0) _ (heap_alloc_new w _) Tryd.underlying82 rfl HSZ.out
  exact bodyPost_ret (v := .tuple #[.agg R, .bool true]) (by rw [results_cell_tmp rfl]; simp [asAddr, Result.andThen, hld]) rfl ⟨rfl, (Upd.refl _ w).alloc _⟩
theorem rowOf_4 (w : World) : Calls Tryd.prog 41 #[.int .i64 40] w fun e w' => e = .returned (.tuple #[.agg (plcA 4), .bool true]) ∧ Same w w' := by
  have hbd : ∀ W, (Instr.build 82 #[(4, .agg #[.int .i64 2, .int .i64 4, .int .i64 0]), (5, .agg #[.int .i64 7, .int .i64 2, .int .i64 0])]).run Tryd.prog W = .ok (.agg (plcA 4)) W := fun W => run_build W _ _ _ (by kernel_rfl)
  have hs18 : (plcA 4).size = 18 := rfl
  have h1c : (plcA 4).all (·.oneCell') = true := by kernel_rfl
  generalize plcA 4 = R at hbd hs18 h1c ⊢
  have hsz : (Tryd.prog.info? 82).map (·.size) = some R.size := by rw [hs18]; kernel_rfl
  have HSZ := Lib.hid hsz
  have HS18 := Lib.hid hs18
  have H1C := Lib.hid h1c
  clear hsz hs18 h1c
  go_enter Tryd.func41, Tryd.ntmps41
  go_upto_region 12 with (fail)
  refine wp_region_lit ?_
  refine wpList_buildP rfl 80 _ rfl _ rfl #[.int .i64 2, .int .i64 4, .int .i64 0] (run_build _ _ _ _ (by kernel_rfl)) ?_
  refine wpList_buildP rfl 80 _ rfl _ rfl #[.int .i64 7, .int .i64 2, .int .i64 0] (run_build _ _ _ _ (by kernel_rfl)) ?_
  refine wpList_buildP rfl 82 _ rfl _ (by kernel_rfl) R (hbd _) ?_
  refine wpList_store_new rfl 82 (.tmp 2) (.tmp 25) rfl rfl w _ R 82 rfl rfl rfl HSZ.out (by rw [HS18.out]; rfl) H1C.out ?_
  clear hbd
  simp only [Act.put, List.getElem_toArray, List.getElem_cons_succ, List.getElem_cons_zero, List.setIfInBounds_toArray, List.set_cons_zero, List.set_cons_succ]
  go_wp2_with fail
  have hld := run_loadVar_row (P := Tryd.prog) (w.alloc (.cells R 82)) w.heap.size 82 82 R (0, 0) _ (heap_alloc_new w _) Tryd.underlying82 rfl HSZ.out
  exact bodyPost_ret (v := .tuple #[.agg R, .bool true]) (by rw [results_cell_tmp rfl]; simp [asAddr, Result.andThen, hld]) rfl ⟨rfl, (Upd.refl _ w).alloc _⟩
theorem rowOf_5 (w : World) : Calls Tryd.prog 41 #[.int .i64 42] w fun e w' => e = .returned (.tuple #[.agg (plcA 5), .bool true]) ∧ Same w w' := by
  have hbd : ∀ W, (Instr.build 82 #[(4, .agg #[.int .i64 2, .int .i64 4, .int .i64 0]), (5, .agg #[.int .i64 7, .int .i64 2, .int .i64 0])]).run Tryd.prog W = .ok (.agg (plcA 5)) W := fun W => run_build W _ _ _ (by kernel_rfl)
  have hs18 : (plcA 5).size = 18 := rfl
  have h1c : (plcA 5).all (·.oneCell') = true := by kernel_rfl
  generalize plcA 5 = R at hbd hs18 h1c ⊢
  have hsz : (Tryd.prog.info? 82).map (·.size) = some R.size := by rw [hs18]; kernel_rfl
  have HSZ := Lib.hid hsz
  have HS18 := Lib.hid hs18
  have H1C := Lib.hid h1c
  clear hsz hs18 h1c
  go_enter Tryd.func41, Tryd.ntmps41
  go_upto_region 12 with (fail)
  refine wp_region_lit ?_
  refine wpList_buildP rfl 80 _ rfl _ rfl #[.int .i64 2, .int .i64 4, .int .i64 0] (run_build _ _ _ _ (by kernel_rfl)) ?_
  refine wpList_buildP rfl 80 _ rfl _ rfl #[.int .i64 7, .int .i64 2, .int .i64 0] (run_build _ _ _ _ (by kernel_rfl)) ?_
  refine wpList_buildP rfl 82 _ rfl _ (by kernel_rfl) R (hbd _) ?_
  refine wpList_store_new rfl 82 (.tmp 2) (.tmp 25) rfl rfl w _ R 82 rfl rfl rfl HSZ.out (by rw [HS18.out]; rfl) H1C.out ?_
  clear hbd
  simp only [Act.put, List.getElem_toArray, List.getElem_cons_succ, List.getElem_cons_zero, List.setIfInBounds_toArray, List.set_cons_zero, List.set_cons_succ]
  go_wp2_with fail
  have hld := run_loadVar_row (P := Tryd.prog) (w.alloc (.cells R 82)) w.heap.size 82 82 R (0, 0) _ (heap_alloc_new w _) Tryd.underlying82 rfl HSZ.out
  exact bodyPost_ret (v := .tuple #[.agg R, .bool true]) (by rw [results_cell_tmp rfl]; simp [asAddr, Result.andThen, hld]) rfl ⟨rfl, (Upd.refl _ w).alloc _⟩
theorem rowOf_6 (w : World) : Calls Tryd.prog 41 #[.int .i64 53] w fun e w' => e = .returned (.tuple #[.agg (plcA 6), .bool true]) ∧ Same w w' := by
  have hbd : ∀ W, (Instr.build 82 #[(4, .agg #[.int .i64 2, .int .i64 4, .int .i64 0]), (5, .agg #[.int .i64 7, .int .i64 2, .int .i64 0])]).run Tryd.prog W = .ok (.agg (plcA 6)) W := fun W => run_build W _ _ _ (by kernel_rfl)
  have hs18 : (plcA 6).size = 18 := rfl
  have h1c : (plcA 6).all (·.oneCell') = true := by kernel_rfl
  generalize plcA 6 = R at hbd hs18 h1c ⊢
  have hsz : (Tryd.prog.info? 82).map (·.size) = some R.size := by rw [hs18]; kernel_rfl
  have HSZ := Lib.hid hsz
  have HS18 := Lib.hid hs18
  have H1C := Lib.hid h1c
  clear hsz hs18 h1c
  go_enter Tryd.func41, Tryd.ntmps41
  go_upto_region 12 with (fail)
  refine wp_region_lit ?_
  refine wpList_buildP rfl 80 _ rfl _ rfl #[.int .i64 2, .int .i64 4, .int .i64 0] (run_build _ _ _ _ (by kernel_rfl)) ?_
  refine wpList_buildP rfl 80 _ rfl _ rfl #[.int .i64 7, .int .i64 2, .int .i64 0] (run_build _ _ _ _ (by kernel_rfl)) ?_
  refine wpList_buildP rfl 82 _ rfl _ (by kernel_rfl) R (hbd _) ?_
  refine wpList_store_new rfl 82 (.tmp 2) (.tmp 25) rfl rfl w _ R 82 rfl rfl rfl HSZ.out (by rw [HS18.out]; rfl) H1C.out ?_
  clear hbd
  simp only [Act.put, List.getElem_toArray, List.getElem_cons_succ, List.getElem_cons_zero, List.setIfInBounds_toArray, List.set_cons_zero, List.set_cons_succ]
  go_wp2_with fail
  have hld := run_loadVar_row (P := Tryd.prog) (w.alloc (.cells R 82)) w.heap.size 82 82 R (0, 0) _ (heap_alloc_new w _) Tryd.underlying82 rfl HSZ.out
  exact bodyPost_ret (v := .tuple #[.agg R, .bool true]) (by rw [results_cell_tmp rfl]; simp [asAddr, Result.andThen, hld]) rfl ⟨rfl, (Upd.refl _ w).alloc _⟩
theorem rowOf_7 (w : World) : Calls Tryd.prog 41 #[.int .i64 66] w fun e w' => e = .returned (.tuple #[.agg (plcA 7), .bool true]) ∧ Same w w' := by
  have hbd : ∀ W, (Instr.build 82 #[(5, .agg #[.int .i64 7, .int .i64 2, .int .i64 0])]).run Tryd.prog W = .ok (.agg (plcA 7)) W := fun W => run_build W _ _ _ (by kernel_rfl)
  have hs18 : (plcA 7).size = 18 := rfl
  have h1c : (plcA 7).all (·.oneCell') = true := by kernel_rfl
  generalize plcA 7 = R at hbd hs18 h1c ⊢
  have hsz : (Tryd.prog.info? 82).map (·.size) = some R.size := by rw [hs18]; kernel_rfl
  have HSZ := Lib.hid hsz
  have HS18 := Lib.hid hs18
  have H1C := Lib.hid h1c
  clear hsz hs18 h1c
  go_enter Tryd.func41, Tryd.ntmps41
  go_upto_region 14 with (fail)
  refine wp_region_lit ?_
  refine wpList_buildP rfl 80 _ rfl _ rfl #[.int .i64 7, .int .i64 2, .int .i64 0] (run_build _ _ _ _ (by kernel_rfl)) ?_
  refine wpList_buildP rfl 82 _ rfl _ (by kernel_rfl) R (hbd _) ?_
  refine wpList_store_new rfl 82 (.tmp 2) (.tmp 29) rfl rfl w _ R 82 rfl rfl rfl HSZ.out (by rw [HS18.out]; rfl) H1C.out ?_
  clear hbd
  simp only [Act.put, List.getElem_toArray, List.getElem_cons_succ, List.getElem_cons_zero, List.setIfInBounds_toArray, List.set_cons_zero, List.set_cons_succ]
  go_wp2_with fail
  have hld := run_loadVar_row (P := Tryd.prog) (w.alloc (.cells R 82)) w.heap.size 82 82 R (0, 0) _ (heap_alloc_new w _) Tryd.underlying82 rfl HSZ.out
  exact bodyPost_ret (v := .tuple #[.agg R, .bool true]) (by rw [results_cell_tmp rfl]; simp [asAddr, Result.andThen, hld]) rfl ⟨rfl, (Upd.refl _ w).alloc _⟩
theorem rowOf_8 (w : World) : Calls Tryd.prog 41 #[.int .i64 94] w fun e w' => e = .returned (.tuple #[.agg (plcA 8), .bool true]) ∧ Same w w' := by
  have hbd : ∀ W, (Instr.build 82 #[(0, .agg #[.int .i64 1, .int .i64 1, .int .i64 5]), (5, .agg #[.int .i64 7, .int .i64 2, .int .i64 0])]).run Tryd.prog W = .ok (.agg (plcA 8)) W := fun W => run_build W _ _ _ (by kernel_rfl)
  have hs18 : (plcA 8).size = 18 := rfl
  have h1c : (plcA 8).all (·.oneCell') = true := by kernel_rfl
  generalize plcA 8 = R at hbd hs18 h1c ⊢
  have hsz : (Tryd.prog.info? 82).map (·.size) = some R.size := by rw [hs18]; kernel_rfl
  have HSZ := Lib.hid hsz
  have HS18 := Lib.hid hs18
  have H1C := Lib.hid h1c
  clear hsz hs18 h1c
  go_enter Tryd.func41, Tryd.ntmps41
  go_upto_region 16 with (fail)
  refine wp_region_lit ?_
  refine wpList_buildP rfl 80 _ rfl _ rfl #[.int .i64 1, .int .i64 1, .int .i64 5] (run_build _ _ _ _ (by kernel_rfl)) ?_
  refine wpList_buildP rfl 80 _ rfl _ rfl #[.int .i64 7, .int .i64 2, .int .i64 0] (run_build _ _ _ _ (by kernel_rfl)) ?_
  refine wpList_buildP rfl 82 _ rfl _ (by kernel_rfl) R (hbd _) ?_
  refine wpList_store_new rfl 82 (.tmp 2) (.tmp 34) rfl rfl w _ R 82 rfl rfl rfl HSZ.out (by rw [HS18.out]; rfl) H1C.out ?_
  clear hbd
  simp only [Act.put, List.getElem_toArray, List.getElem_cons_succ, List.getElem_cons_zero, List.setIfInBounds_toArray, List.set_cons_zero, List.set_cons_succ]
  go_wp2_with fail
  have hld := run_loadVar_row (P := Tryd.prog) (w.alloc (.cells R 82)) w.heap.size 82 82 R (0, 0) _ (heap_alloc_new w _) Tryd.underlying82 rfl HSZ.out
  exact bodyPost_ret (v := .tuple #[.agg R, .bool true]) (by rw [results_cell_tmp rfl]; simp [asAddr, Result.andThen, hld]) rfl ⟨rfl, (Upd.refl _ w).alloc _⟩
theorem rowOf_9 (w : World) : Calls Tryd.prog 41 #[.int .i64 95] w fun e w' => e = .returned (.tuple #[.agg (plcA 9), .bool true]) ∧ Same w w' := by
  have hbd : ∀ W, (Instr.build 82 #[(0, .agg #[.int .i64 1, .int .i64 1, .int .i64 5]), (3, .agg #[.int .i64 2, .int .i64 1, .int .i64 4]), (5, .agg #[.int .i64 5, .int .i64 4, .int .i64 0])]).run Tryd.prog W = .ok (.agg (plcA 9)) W := fun W => run_build W _ _ _ (by kernel_rfl)
  have hs18 : (plcA 9).size = 18 := rfl
  have h1c : (plcA 9).all (·.oneCell') = true := by kernel_rfl
  generalize plcA 9 = R at hbd hs18 h1c ⊢
  have hsz : (Tryd.prog.info? 82).map (·.size) = some R.size := by rw [hs18]; kernel_rfl
  have HSZ := Lib.hid hsz
  have HS18 := Lib.hid hs18
  have H1C := Lib.hid h1c
  clear hsz hs18 h1c
  go_enter Tryd.func41, Tryd.ntmps41
  go_upto_region 18 with (fail)
  refine wp_region_lit ?_
  refine wpList_buildP rfl 80 _ rfl _ rfl #[.int .i64 1, .int .i64 1, .int .i64 5] (run_build _ _ _ _ (by kernel_rfl)) ?_
  refine wpList_buildP rfl 80 _ rfl _ rfl #[.int .i64 2, .int .i64 1, .int .i64 4] (run_build _ _ _ _ (by kernel_rfl)) ?_
  refine wpList_buildP rfl 80 _ rfl _ rfl #[.int .i64 5, .int .i64 4, .int .i64 0] (run_build _ _ _ _ (by kernel_rfl)) ?_
  refine wpList_buildP rfl 82 _ rfl _ (by kernel_rfl) R (hbd _) ?_
  refine wpList_store_new rfl 82 (.tmp 2) (.tmp 40) rfl rfl w _ R 82 rfl rfl rfl HSZ.out (by rw [HS18.out]; rfl) H1C.out ?_
  clear hbd
  simp only [Act.put, List.getElem_toArray, List.getElem_cons_succ, List.getElem_cons_zero, List.setIfInBounds_toArray, List.set_cons_zero, List.set_cons_succ]
  go_wp2_with fail
  have hld := run_loadVar_row (P := Tryd.prog) (w.alloc (.cells R 82)) w.heap.size 82 82 R (0, 0) _ (heap_alloc_new w _) Tryd.underlying82 rfl HSZ.out
  exact bodyPost_ret (v := .tuple #[.agg R, .bool true]) (by rw [results_cell_tmp rfl]; simp [asAddr, Result.andThen, hld]) rfl ⟨rfl, (Upd.refl _ w).alloc _⟩
theorem rowOf_10 (w : World) : Calls Tryd.prog 41 #[.int .i64 136] w fun e w' => e = .returned (.tuple #[.agg (plcA 10), .bool true]) ∧ Same w w' := by
  have hbd : ∀ W, (Instr.build 82 #[(4, .agg #[.int .i64 2, .int .i64 8, .int .i64 0]), (5, .agg #[.int .i64 10, .int .i64 4, .int .i64 0])]).run Tryd.prog W = .ok (.agg (plcA 10)) W := fun W => run_build W _ _ _ (by kernel_rfl)
  have hs18 : (plcA 10).size = 18 := rfl
  have h1c : (plcA 10).all (·.oneCell') = true := by kernel_rfl
  generalize plcA 10 = R at hbd hs18 h1c ⊢
  have hsz : (Tryd.prog.info? 82).map (·.size) = some R.size := by rw [hs18]; kernel_rfl
  have HSZ := Lib.hid hsz
  have HS18 := Lib.hid hs18
  have H1C := Lib.hid h1c
  clear hsz hs18 h1c
  go_enter Tryd.func41, Tryd.ntmps41
  go_upto_region 21 with (fail)
  refine wp_region_lit ?_
  refine wpList_buildP rfl 80 _ rfl _ rfl #[.int .i64 2, .int .i64 8, .int .i64 0] (run_build _ _ _ _ (by kernel_rfl)) ?_
  refine wpList_buildP rfl 80 _ rfl _ rfl #[.int .i64 10, .int .i64 4, .int .i64 0] (run_build _ _ _ _ (by kernel_rfl)) ?_
  refine wpList_buildP rfl 82 _ rfl _ (by kernel_rfl) R (hbd _) ?_
  refine wpList_store_new rfl 82 (.tmp 2) (.tmp 46) rfl rfl w _ R 82 rfl rfl rfl HSZ.out (by rw [HS18.out]; rfl) H1C.out ?_
  clear hbd
  simp only [Act.put, List.getElem_toArray, List.getElem_cons_succ, List.getElem_cons_zero, List.setIfInBounds_toArray, List.set_cons_zero, List.set_cons_succ]
  go_wp2_with fail
  have hld := run_loadVar_row (P := Tryd.prog) (w.alloc (.cells R 82)) w.heap.size 82 82 R (0, 0) _ (heap_alloc_new w _) Tryd.underlying82 rfl HSZ.out
  exact bodyPost_ret (v := .tuple #[.agg R, .bool true]) (by rw [results_cell_tmp rfl]; simp [asAddr, Result.andThen, hld]) rfl ⟨rfl, (Upd.refl _ w).alloc _⟩
theorem rowOf_11 (w : World) : Calls Tryd.prog 41 #[.int .i64 138] w fun e w' => e = .returned (.tuple #[.agg (plcA 11), .bool true]) ∧ Same w w' := by
  have hbd : ∀ W, (Instr.build 82 #[(4, .agg #[.int .i64 2, .int .i64 8, .int .i64 0]), (5, .agg #[.int .i64 10, .int .i64 4, .int .i64 0])]).run Tryd.prog W = .ok (.agg (plcA 11)) W := fun W => run_build W _ _ _ (by kernel_rfl)
  have hs18 : (plcA 11).size = 18 := rfl
  have h1c : (plcA 11).all (·.oneCell') = true := by kernel_rfl
  generalize plcA 11 = R at hbd hs18 h1c ⊢
  have hsz : (Tryd.prog.info? 82).map (·.size) = some R.size := by rw [hs18]; kernel_rfl
  have HSZ := Lib.hid hsz
  have HS18 := Lib.hid hs18
  have H1C := Lib.hid h1c
  clear hsz hs18 h1c
  go_enter Tryd.func41, Tryd.ntmps41
  go_upto_region 21 with (fail)
  refine wp_region_lit ?_
  refine wpList_buildP rfl 80 _ rfl _ rfl #[.int .i64 2, .int .i64 8, .int .i64 0] (run_build _ _ _ _ (by kernel_rfl)) ?_
  refine wpList_buildP rfl 80 _ rfl _ rfl #[.int .i64 10, .int .i64 4, .int .i64 0] (run_build _ _ _ _ (by kernel_rfl)) ?_
  refine wpList_buildP rfl 82 _ rfl _ (by kernel_rfl) R (hbd _) ?_
  refine wpList_store_new rfl 82 (.tmp 2) (.tmp 46) rfl rfl w _ R 82 rfl rfl rfl HSZ.out (by rw [HS18.out]; rfl) H1C.out ?_
  clear hbd
  simp only [Act.put, List.getElem_toArray, List.getElem_cons_succ, List.getElem_cons_zero, List.setIfInBounds_toArray, List.set_cons_zero, List.set_cons_succ]
  go_wp2_with fail
  have hld := run_loadVar_row (P := Tryd.prog) (w.alloc (.cells R 82)) w.heap.size 82 82 R (0, 0) _ (heap_alloc_new w _) Tryd.underlying82 rfl HSZ.out
  exact bodyPost_ret (v := .tuple #[.agg R, .bool true]) (by rw [results_cell_tmp rfl]; simp [asAddr, Result.andThen, hld]) rfl ⟨rfl, (Upd.refl _ w).alloc _⟩
theorem rowOf_12 (w : World) : Calls Tryd.prog 41 #[.int .i64 160] w fun e w' => e = .returned (.tuple #[.agg (plcA 12), .bool true]) ∧ Same w w' := by
  have hbd : ∀ W, (Instr.build 82 #[(2, .agg #[.int .i64 2, .int .i64 1, .int .i64 0]), (5, .agg #[.int .i64 6, .int .i64 4, .int .i64 0])]).run Tryd.prog W = .ok (.agg (plcA 12)) W := fun W => run_build W _ _ _ (by kernel_rfl)
  have hs18 : (plcA 12).size = 18 := rfl
  have h1c : (plcA 12).all (·.oneCell') = true := by kernel_rfl
  generalize plcA 12 = R at hbd hs18 h1c ⊢
  have hsz : (Tryd.prog.info? 82).map (·.size) = some R.size := by rw [hs18]; kernel_rfl
  have HSZ := Lib.hid hsz
  have HS18 := Lib.hid hs18
  have H1C := Lib.hid h1c
  clear hsz hs18 h1c
  go_enter Tryd.func41, Tryd.ntmps41
  go_upto_region 23 with (fail)
  refine wp_region_lit ?_
  refine wpList_buildP rfl 80 _ rfl _ rfl #[.int .i64 2, .int .i64 1, .int .i64 0] (run_build _ _ _ _ (by kernel_rfl)) ?_
  refine wpList_buildP rfl 80 _ rfl _ rfl #[.int .i64 6, .int .i64 4, .int .i64 0] (run_build _ _ _ _ (by kernel_rfl)) ?_
  refine wpList_buildP rfl 82 _ rfl _ (by kernel_rfl) R (hbd _) ?_
  refine wpList_store_new rfl 82 (.tmp 2) (.tmp 51) rfl rfl w _ R 82 rfl rfl rfl HSZ.out (by rw [HS18.out]; rfl) H1C.out ?_
  clear hbd
  simp only [Act.put, List.getElem_toArray, List.getElem_cons_succ, List.getElem_cons_zero, List.setIfInBounds_toArray, List.set_cons_zero, List.set_cons_succ]
  go_wp2_with fail
  have hld := run_loadVar_row (P := Tryd.prog) (w.alloc (.cells R 82)) w.heap.size 82 82 R (0, 0) _ (heap_alloc_new w _) Tryd.underlying82 rfl HSZ.out
  exact bodyPost_ret (v := .tuple #[.agg R, .bool true]) (by rw [results_cell_tmp rfl]; simp [asAddr, Result.andThen, hld]) rfl ⟨rfl, (Upd.refl _ w).alloc _⟩
theorem rowOf_13 (w : World) : Calls Tryd.prog 41 #[.int .i64 163] w fun e w' => e = .returned (.tuple #[.agg (plcA 13), .bool true]) ∧ Same w w' := by
  have hbd : ∀ W, (Instr.build 82 #[(0, .agg #[.int .i64 1, .int .i64 1, .int .i64 5]), (5, .agg #[.int .i64 6, .int .i64 4, .int .i64 0])]).run Tryd.prog W = .ok (.agg (plcA 13)) W := fun W => run_build W _ _ _ (by kernel_rfl)
  have hs18 : (plcA 13).size = 18 := rfl
  have h1c : (plcA 13).all (·.oneCell') = true := by kernel_rfl
  generalize plcA 13 = R at hbd hs18 h1c ⊢
  have hsz : (Tryd.prog.info? 82).map (·.size) = some R.size := by rw [hs18]; kernel_rfl
  have HSZ := Lib.hid hsz
  have HS18 := Lib.hid hs18
  have H1C := Lib.hid h1c
  clear hsz hs18 h1c
  go_enter Tryd.func41, Tryd.ntmps41
  go_upto_region 25 with (fail)
  refine wp_region_lit ?_
  refine wpList_buildP rfl 80 _ rfl _ rfl #[.int .i64 1, .int .i64 1, .int .i64 5] (run_build _ _ _ _ (by kernel_rfl)) ?_
  refine wpList_buildP rfl 80 _ rfl _ rfl #[.int .i64 6, .int .i64 4, .int .i64 0] (run_build _ _ _ _ (by kernel_rfl)) ?_
  refine wpList_buildP rfl 82 _ rfl _ (by kernel_rfl) R (hbd _) ?_
  refine wpList_store_new rfl 82 (.tmp 2) (.tmp 56) rfl rfl w _ R 82 rfl rfl rfl HSZ.out (by rw [HS18.out]; rfl) H1C.out ?_
  clear hbd
  simp only [Act.put, List.getElem_toArray, List.getElem_cons_succ, List.getElem_cons_zero, List.setIfInBounds_toArray, List.set_cons_zero, List.set_cons_succ]
  go_wp2_with fail
  have hld := run_loadVar_row (P := Tryd.prog) (w.alloc (.cells R 82)) w.heap.size 82 82 R (0, 0) _ (heap_alloc_new w _) Tryd.underlying82 rfl HSZ.out
  exact bodyPost_ret (v := .tuple #[.agg R, .bool true]) (by rw [results_cell_tmp rfl]; simp [asAddr, Result.andThen, hld]) rfl ⟨rfl, (Upd.refl _ w).alloc _⟩
theorem rowOf_none (op : Int) (w : World) (h0 : (op == 0) = false) (h1 : (op == 37) = false) (h2 : (op == 3) = false) (h3 : (op == 18) = false) (h4 : (op == 40) = false) (h5 : (op == 42) = false) (h6 : (op == 53) = false) (h7 : (op == 66) = false) (h8 : (op == 94) = false) (h9 : (op == 95) = false) (h10 : (op == 136) = false) (h11 : (op == 138) = false) (h12 : (op == 160) = false) (h13 : (op == 163) = false) : Calls Tryd.prog 41 #[.int .i64 op] w fun e w' => e = .returned (.tuple #[.agg zero18, .bool false]) ∧ Same w w' := by
  have hbd : ∀ W, (Instr.build 82 #[]).run Tryd.prog W = .ok (.agg zero18) W := fun W => run_build W _ _ _ (by kernel_rfl)
  have hs18 : zero18.size = 18 := rfl
  have h1c : zero18.all (·.oneCell') = true := by kernel_rfl
  generalize zero18 = R at hbd hs18 h1c ⊢
  have hsz : (Tryd.prog.info? 82).map (·.size) = some R.size := by rw [hs18]; kernel_rfl
  have HSZ := Lib.hid hsz
  have HS18 := Lib.hid hs18
  have H1C := Lib.hid h1c
  clear hsz hs18 h1c
  go_enter Tryd.func41, Tryd.ntmps41
  go_upto_region 26 with (fail)
  refine wp_region_lit ?_
  refine wpList_buildP rfl 82 _ rfl _ (by kernel_rfl) R (hbd _) ?_
  refine wpList_store_new rfl 82 (.tmp 2) (.tmp 57) rfl rfl w _ R 82 rfl rfl rfl HSZ.out (by rw [HS18.out]; rfl) H1C.out ?_
  clear hbd
  simp only [Act.put, List.getElem_toArray, List.getElem_cons_succ, List.getElem_cons_zero, List.setIfInBounds_toArray, List.set_cons_zero, List.set_cons_succ]
  go_wp2_with fail
  have hld := run_loadVar_row (P := Tryd.prog) (w.alloc (.cells R 82)) w.heap.size 82 82 R (0, 0) _ (heap_alloc_new w _) Tryd.underlying82 rfl HSZ.out
  exact bodyPost_ret (v := .tuple #[.agg R, .bool false]) (by rw [results_cell_tmp rfl]; simp [asAddr, Result.andThen, hld]) rfl ⟨rfl, (Upd.refl _ w).alloc _⟩
theorem tb_ops : ∀ k, k < 14 → tb k 0 = [0, 37, 3, 18, 40, 42, 53, 66, 94, 95, 136, 138, 160, 163].getD k 0 := by decide +kernel
theorem rowOf_any (op : Int) (w : World) : Calls Tryd.prog 41 #[.int .i64 op] w fun e w' => e = .returned (.tuple #[.agg (rowN op), .bool (findK op).isSome]) ∧ Same w w' := by
  unfold rowN
  cases hk : findK op with
  | none =>
    have h := findK_none hk
    have h' := fun k (hk : k < 14) => show (op == [0, 37, 3, 18, 40, 42, 53, 66, 94, 95, 136, 138, 160, 163].getD k 0) = false by
      rw [← tb_ops k hk, beq_eq_false_iff_ne]
      exact fun e => h k hk e.symm
    exact rowOf_none op w (h' 0 (by omega)) (h' 1 (by omega)) (h' 2 (by omega)) (h' 3 (by omega)) (h' 4 (by omega)) (h' 5 (by omega)) (h' 6 (by omega)) (h' 7 (by omega)) (h' 8 (by omega)) (h' 9 (by omega)) (h' 10 (by omega)) (h' 11 (by omega)) (h' 12 (by omega)) (h' 13 (by omega))
  | some k =>
    obtain ⟨hk14, hko⟩ := findK_some hk
    rw [tb_ops k hk14] at hko
    subst hko
    rcases (show k = 0 ∨ k = 1 ∨ k = 2 ∨ k = 3 ∨ k = 4 ∨ k = 5 ∨ k = 6 ∨ k = 7 ∨ k = 8 ∨ k = 9 ∨ k = 10 ∨ k = 11 ∨ k = 12 ∨ k = 13 by omega) with rfl | rfl | rfl | rfl | rfl | rfl | rfl | rfl | rfl | rfl | rfl | rfl | rfl | rfl
    · exact rowOf_0 w
    · exact rowOf_1 w
    · exact rowOf_2 w
    · exact rowOf_3 w
    · exact rowOf_4 w
    · exact rowOf_5 w
    · exact rowOf_6 w
    · exact rowOf_7 w
    · exact rowOf_8 w
    · exact rowOf_9 w
    · exact rowOf_10 w
    · exact rowOf_11 w
    · exact rowOf_12 w
    · exact rowOf_13 w
/-- The reference's Size. -/
theorem rsize_any (op : Int) (w : World) (h1 : -9223372036854775808 ≤ op) (h2 : op ≤ 9223372036854775807) : Calls Tryd.prog 21 #[.int .i64 op] w fun e w' => e = .returned (.int .i64 (sizeN op)) ∧ Same w w' := by
  have hr := fun W => rowOf_any op W
  cases hk : findK op with
  | none =>
    have hn : sizeN op = 0 := by unfold sizeN; rw [hk]
    rw [hn]
    unfold rowN at hr
    rw [hk] at hr
    simp only [Option.isSome_none] at hr
    have HR := Lib.hid hr
    clear hr hk hn
    unfold zero18 at HR
    go_enter Tryd.func21, Tryd.ntmps21
    go_wp2_with (first | (with_reducible refine (HR.out _).mono ?_; rintro e w1 ⟨rfl, hs1⟩) | (refine wpList_store_new rfl 82 (.tmp 3) (.tmp 8) rfl rfl w1 _ _ 82 rfl rfl rfl (by kernel_rfl) rfl rfl ?_))
    go_ret
    exact ⟨rfl, hs1.alloc _⟩
  | some k =>
    obtain ⟨hk14, hko⟩ := findK_some hk
    have hn : sizeN op = szK k := by unfold sizeN; rw [hk]
    rw [hn]
    unfold rowN at hr
    rw [hk] at hr
    simp only [Option.isSome_some] at hr
    have hsz : ∀ k, k < 14 → (tb k 0 / 32 = 0 ∧ szK k = 6) ∨ (tb k 0 / 32 = 4 ∧ szK k = 16) ∨ (tb k 0 / 32 = 5 ∧ szK k = 12) ∨ (tb k 0 / 32 ≠ 0 ∧ tb k 0 / 32 ≠ 4 ∧ tb k 0 / 32 ≠ 5 ∧ szK k = 10) := by decide +kernel
    have hz := hsz k hk14
    have hob := tb_i64 k hk14 0 (by omega)
    rw [hko] at hz hob
    generalize szK k = n at hz ⊢
    have hpc : (plcA k).size = 18 := rfl
    have hp1 : (plcA k).all (·.oneCell') = true := by kernel_rfl
    generalize plcA k = A at hr hpc hp1
    have HR := Lib.hid hr
    have HPC := Lib.hid (show (Tryd.prog.info? 82).map (·.size) = some A.size by rw [hpc]; kernel_rfl)
    have HP1 := Lib.hid hp1
    have HPS := Lib.hid hpc
    clear hr hk hn hko hpc hp1 hsz
    rcases hz with ⟨hz, rfl⟩ | ⟨hz, rfl⟩ | ⟨hz, rfl⟩ | ⟨hz1, hz2, hz3, rfl⟩
    all_goals
      (try have z1 : (op / 32 == 0) = false := by simpa using hz1)
      (try have z2 : (op / 32 == 4) = false := by simpa using hz2)
      (try have z3 : (op / 32 == 5) = false := by simpa using hz3)
      (try clear hz1 hz2 hz3)
      go_enter Tryd.func21, Tryd.ntmps21
      go_wp2_with (first | (with_reducible refine (HR.out _).mono ?_; rintro e w1 ⟨rfl, hs1⟩) | (refine wpList_store_new rfl 82 (.tmp 3) (.tmp 8) rfl rfl w1 _ A 82 rfl rfl rfl HPC.out (by rw [HPS.out]; rfl) HP1.out ?_))
      go_ret
      exact ⟨rfl, hs1.alloc _⟩
/-- most. -/
theorem most_any (n t : Int) (w : World) (h1 : -9223372036854775808 ≤ n) (h2 : n ≤ 9223372036854775807) (ht : t = 1 ∨ t = 64) :
    Calls Tryd.prog 44 #[.int .i64 n, .int .i64 t] w fun e w' => e = .returned (.int .i64 (byteN n t)) ∧ w = w' := by
  rcases ht with rfl | rfl
  all_goals
    go_enter Tryd.func44, Tryd.ntmps44
    go_wp2
    all_goals
      go_ret
      exact ⟨ret_int (by unfold byteN; (try split) <;> (try split) <;> omega), rfl⟩
theorem rout_any (c : Cmd) (w : World) (h : c.ok) : Calls Tryd.prog 22 #[.agg c.cells] w fun e w' => e = .returned (.int .i64 (outN c)) ∧ Same w w' := by
  obtain ⟨op, service, page, vital, typ, lba, len⟩ := c
  obtain ⟨h0, h1, h2, h3, h4, h5⟩ := h
  have b64 := fun w => most_any len 64 w h5.1 h5.2 (.inr rfl)
  have b1 := fun w => most_any len 1 w h5.1 h5.2 (.inl rfl)
  have B64 := Lib.hid b64
  have B1 := Lib.hid b1
  clear b64 b1 h0 h1 h2 h3 h4 h5
  unfold Cmd.cells
  simp only
  go_enter Tryd.func22, Tryd.ntmps22
  go_wp2_with (first | (with_reducible refine (B64.out _).mono ?_; rintro e w1 ⟨rfl, rfl⟩) | (with_reducible refine (B1.out _).mono ?_; rintro e w1 ⟨rfl, rfl⟩))
  all_goals
    go_ret
    exact ⟨ret_int (by unfold outN; simp_all), (Upd.refl _ w).alloc _⟩
theorem rin_any (c : Cmd) (w : World) (h : c.ok) : Calls Tryd.prog 23 #[.agg c.cells] w fun e w' => e = .returned (.int .i64 (inN c)) ∧ Same w w' := by
  obtain ⟨op, service, page, vital, typ, lba, len⟩ := c
  obtain ⟨h0, h1, h2, h3, h4, h5⟩ := h
  have b64 := fun w => most_any len 64 w h5.1 h5.2 (.inr rfl)
  have b1 := fun w => most_any len 1 w h5.1 h5.2 (.inl rfl)
  have B64 := Lib.hid b64
  have B1 := Lib.hid b1
  clear b64 b1 h0 h1 h2 h3 h4 h5
  unfold Cmd.cells
  simp only
  go_enter Tryd.func23, Tryd.ntmps23
  go_wp2_with (first | (with_reducible refine (B64.out _).mono ?_; rintro e w1 ⟨rfl, rfl⟩) | (with_reducible refine (B1.out _).mono ?_; rintro e w1 ⟨rfl, rfl⟩))
  all_goals
    go_ret
    exact ⟨ret_int (by unfold inN; simp_all), (Upd.refl _ w).alloc _⟩
/-- get. -/
theorem rgetp_any (v : Value) (bs : List UInt8) (a s bt : Int) (w : World) (h : Bs w v bs) (ha : 0 ≤ a ∧ a ≤ 255) (hs : 0 ≤ s ∧ s ≤ 8) (hb : 0 ≤ bt ∧ bt ≤ 5) :
    Calls Tryd.prog 42 #[v, .agg #[.int .i64 a, .int .i64 s, .int .i64 bt]] w fun e w' => e = .returned (.int .u64 (if s = 0 then 0 else if 0 < bt then getN bs a s % 2 ^ bt.toNat else getN bs a s)) ∧ Same w w' := by
  by_cases h0 : s = 0
  · subst h0
    rw [if_pos rfl]
    go_enter Tryd.func42, Tryd.ntmps42
    go_wp2
    go_ret
    exact ⟨rfl, (Upd.refl _ w).alloc _⟩
  · rw [if_neg h0]
    have hg := fun W h => rget_bs v bs a s W h (by omega) (by omega) (by omega) (by omega)
    have hgr := getN_range bs a s (by omega) hs.2
    have hg8 := pow256_le s hs.2
    have hgn : 0 ≤ getN bs a s ∧ getN bs a s ≤ 18446744073709551615 := by omega
    generalize getN bs a s = n at hg hgn ⊢
    have hne : (s == 0) = false := by simpa using h0
    have HG := Lib.hid hg
    have HB := Lib.hid h
    clear hg hgr hg8 h h0
    by_cases hb0 : 0 < bt
    · rw [if_pos hb0]
      have hw1 : IntKind.u64.wrap (2 ^ bt.toNat) = 2 ^ bt.toNat := by
        have : ∀ m : Nat, m ≤ 5 → IntKind.u64.wrap (2 ^ m) = 2 ^ m := by
          intro m hm
          rcases (show m = 0 ∨ m = 1 ∨ m = 2 ∨ m = 3 ∨ m = 4 ∨ m = 5 by omega) with rfl | rfl | rfl | rfl | rfl | rfl <;> decide
        exact this bt.toNat (by omega)
      have hp0 : (0 : Int) < 2 ^ bt.toNat := Int.pow_pos (by decide)
      obtain ⟨R, hR⟩ : ∃ R, R = n % 2 ^ bt.toNat := ⟨_, rfl⟩
      rw [← hR]
      have HRR := Lib.hid hR
      have HW1 := Lib.hid hw1
      clear hR
      have hb64 : bt < 64 := by omega
      go_enter Tryd.func42, Tryd.ntmps42
      go_wp2_with fail
      refine (HG.out _ (HB.out.same ((Upd.refl _ w).alloc _))).mono ?_
      rintro e w' ⟨rfl, rfl⟩
      go_wp2_with fail
      go_ret
      exact ⟨by rw [HRR.out]; rfl, (Upd.refl _ w).alloc _⟩
    · rw [if_neg hb0]
      go_enter Tryd.func42, Tryd.ntmps42
      go_wp2_with fail
      refine (HG.out _ (HB.out.same ((Upd.refl _ w).alloc _))).mono ?_
      rintro e w' ⟨rfl, rfl⟩
      go_wp2_with fail
      go_ret
      exact ⟨rfl, (Upd.refl _ w).alloc _⟩
end Go.Proofs.YtmaofhiapkfoaaaDoor
