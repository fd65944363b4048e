/- The reference's Parse. -/
import Derived.Test.YtmaofhiapkfoaaaDoorCdbRc
import Derived.Test.YtmaofhiapkfoaaaDoorCdbP
namespace Go.Proofs.YtmaofhiapkfoaaaDoor
open Go.RowKit
set_option linter.unusedVariables false
set_option linter.unusedSimpArgs false
set_option maxRecDepth 100000
def zero7 : List Value := [.int .i64 0, .int .i64 0, .int .i64 0, .bool false, .int .i64 0, .int .u64 0, .int .i64 0]
/-- The state of Parse: the row's places at p, the command's cells at q, the result's cells at the heap's size ahead. -/
structure PSt (w wr : World) (p q k : Nat) (v : Value) (bs : List UInt8) (C : List Value) : Prop where
  row : ∀ j, j < 18 → wr.cell? ⟨p, j, none⟩ = some (.int .i64 (tb k (1 + j)))
  cmd : ∀ j u, C[j]? = some u → wr.cell? ⟨q, j, none⟩ = some u ∧ wr.frozen? ⟨q, j, none⟩ = false
  res : ∀ j u, zero7[j]? = some u → wr.cell? ⟨w.heap.size, j, none⟩ = some u ∧ wr.frozen? ⟨w.heap.size, j, none⟩ = false
  bs_ : Bs wr v bs
  same_ : Same w wr
  pq : ¬ p = q
  wq : w.heap.size < q
  rm : ∀ x, room v = some x → x < w.heap.size
theorem PSt.same {w wr w' : World} {p q k : Nat} {v : Value} {bs : List UInt8} {C : List Value} (h : PSt w wr p q k v bs C) (hs : Same wr w') : PSt w w' p q k v bs C where
  row j hj := hs.cell (h.row j hj) id
  cmd j u hj := ⟨hs.cell (h.cmd j u hj).1 id, (hs.frozen (p := ⟨q, j, none⟩) (cell_lt' (h.cmd j u hj).1) id).trans (h.cmd j u hj).2⟩
  res j u hj := ⟨hs.cell (h.res j u hj).1 id, (hs.frozen (p := ⟨w.heap.size, j, none⟩) (cell_lt' (h.res j u hj).1) id).trans (h.res j u hj).2⟩
  bs_ := h.bs_.same hs
  same_ := Same.trans h.same_ hs
  pq := h.pq
  wq := h.wq
  rm := h.rm
theorem PSt.set {w wr : World} {p q k : Nat} {v : Value} {bs : List UInt8} {C : List Value} (h : PSt w wr p q k v bs C) (f : Nat) (old : Value) (hf : C[f]? = some old) (u : Value) (C' : List Value) (hC : C' = C.set f u) : PSt w (wr.setCell ⟨q, f, none⟩ u) p q k v bs C' := by
  subst hC
  have hu : Upd (fun b => b = q) wr (wr.setCell ⟨q, f, none⟩ u) := (Upd.refl (fun b => b = q) wr).setCell (p := ⟨q, f, none⟩) (fun _ => rfl) u
  have hq := h.wq
  refine ⟨fun j hj => hu.cell (h.row j hj) h.pq, fun j x hj => ?_, fun j x hj => ⟨hu.cell (h.res j x hj).1 (by show ¬ w.heap.size = q; omega), by rw [World.frozen?_setCell]; exact (h.res j x hj).2⟩, h.bs_.upd hu (fun x hx e => by have := h.rm x hx; omega),
    h.same_.setCell (p := ⟨q, f, none⟩) (fun hlt => by have : q < w.heap.size := hlt; omega) u, h.pq, h.wq, h.rm⟩
  have hfl : f < C.length := (List.getElem?_eq_some_iff.1 hf).1
  by_cases hjf : j = f
  · subst hjf
    rw [List.getElem?_set_self hfl] at hj
    injection hj with hj
    subst hj
    exact ⟨World.cell?_setCell_same _ _ _ (h.cmd j old hf).1, by rw [World.frozen?_setCell]; exact (h.cmd j old hf).2⟩
  · rw [List.getElem?_set_ne (Ne.symm hjf)] at hj
    exact ⟨by rw [World.cell?_setCell_other _ _ _ _ (by intro e; injection e with _ e; omega)]; exact (h.cmd j x hj).1, by rw [World.frozen?_setCell]; exact (h.cmd j x hj).2⟩
theorem zero7_get {j : Nat} {u : Value} (h : zero7[j]? = some u) : (j = 0 ∧ u = .int .i64 0) ∨ (j = 1 ∧ u = .int .i64 0) ∨ (j = 2 ∧ u = .int .i64 0) ∨ (j = 3 ∧ u = .bool false) ∨ (j = 4 ∧ u = .int .i64 0) ∨ (j = 5 ∧ u = .int .u64 0) ∨ (j = 6 ∧ u = .int .i64 0) := by
  have hj : j < 7 := (List.getElem?_eq_some_iff.1 h).1
  rcases (show j = 0 ∨ j = 1 ∨ j = 2 ∨ j = 3 ∨ j = 4 ∨ j = 5 ∨ j = 6 by omega) with rfl | rfl | rfl | rfl | rfl | rfl | rfl
  all_goals
    have := (Option.some.inj h).symm
    subst this
    simp
theorem pst_start {w w1 : World} {k : Nat} {A : Array Value} {v : Value} {bs : List UInt8} (op : Int) (tr tc : TypeId) (hrm : ∀ x, room v = some x → x < w.heap.size) (hz : w.heap.size < w1.heap.size) (hb : Bs w1 v bs) (hs : Same w w1)
    (hA : ∀ j, j < 18 → (w1.alloc (.cells A tr)).cell? ⟨w1.heap.size, j, none⟩ = some (.int .i64 (tb k (1 + j)))) (hres : ∀ j u, zero7[j]? = some u → w1.cell? ⟨w.heap.size, j, none⟩ = some u ∧ w1.frozen? ⟨w.heap.size, j, none⟩ = false) :
    PSt w ((w1.alloc (.cells A tr)).alloc (.cells #[.int .i64 op, .int .i64 0, .int .i64 0, .bool false, .int .i64 0, .int .u64 0, .int .i64 0] tc)) w1.heap.size (w1.heap.size + 1) k v bs [.int .i64 op, .int .i64 0, .int .i64 0, .bool false, .int .i64 0, .int .u64 0, .int .i64 0] := by
  have e1 : (w1.alloc (.cells A tr)).heap.size = w1.heap.size + 1 := by simp
  have hs1 : Same w1 ((w1.alloc (.cells A tr)).alloc (.cells #[.int .i64 op, .int .i64 0, .int .i64 0, .bool false, .int .i64 0, .int .u64 0, .int .i64 0] tc)) := ((Upd.refl _ w1).alloc _).alloc _
  refine ⟨fun j hj => ((Upd.refl (fun _ => False) _).alloc _).cell (hA j hj) id, fun j u hj => ?_, fun j u hj => ⟨hs1.cell (hres j u hj).1 id, (hs1.frozen (p := ⟨w.heap.size, j, none⟩) hz id).trans (hres j u hj).2⟩, hb.same hs1, Same.trans hs hs1, by omega, by omega, hrm⟩
  have h := heap_alloc_new (w1.alloc (.cells A tr)) (.cells #[.int .i64 op, .int .i64 0, .int .i64 0, .bool false, .int .i64 0, .int .u64 0, .int .i64 0] tc)
  rw [e1] at h
  refine ⟨?_, by unfold World.frozen?; rw [h]; simp⟩
  rw [cell_of_row _ _ j _ tc (0, 0) h]
  simpa using hj
theorem gN_if (k : Nat) (bs : List UInt8) (i : Nat) (hi : i < 6) : gN k bs i = if pSz k i = 0 then 0 else if 0 < pBt k i then getN bs (pAt k i) (pSz k i) % 2 ^ (pBt k i).toNat else getN bs (pAt k i) (pSz k i) := rfl
theorem rget_k (k : Nat) (hk : k < 14) (v : Value) (bs : List UInt8) (i : Nat) (hi : i < 6) (w : World) (h : Bs w v bs) :
    Calls Tryd.prog 42 #[v, .agg #[.int .i64 (tb k (1 + 3 * i)), .int .i64 (tb k (1 + (3 * i + 1))), .int .i64 (tb k (1 + (3 * i + 2)))]] w fun e w' => e = .returned (.int .u64 (gN k bs i)) ∧ Same w w' := by
  have hp := place_fit k hk i hi
  have := rgetp_any v bs (pAt k i) (pSz k i) (pBt k i) w h (by omega) (by omega) (by omega)
  rw [gN_if k bs i hi]
  have e1 : tb k (1 + 3 * i) = pAt k i := by unfold pAt; congr 1; omega
  have e2 : tb k (1 + (3 * i + 1)) = pSz k i := by unfold pSz; congr 1; omega
  have e3 : tb k (1 + (3 * i + 2)) = pBt k i := by unfold pBt; congr 1; omega
  rw [e1, e2, e3]
  exact this
set_option maxHeartbeats 4000000 in
theorem rparse_any (v : Value) (bs : List UInt8) (w : World) (h : Bs w v bs) (hl : bs.length ≤ 200000000000000) :
    Calls Tryd.prog 19 #[v] w fun e w' => e = .returned (.tuple #[.agg (parseC bs).cells, .int .i64 (parseE bs)]) ∧ Same w w' := by
  by_cases h16 : bs.length = 16
  · have hlt := h.block_lt (by intro e; rw [e] at h16; simp at h16)
    have hE1 : ∀ k, findK (at8 bs 0) = some k → parseE bs = (if cE (rawC k bs) = 0 ∧ cL (rawC k bs) = bs then 0 else 11) ∧ parseC bs = (if cE (rawC k bs) = 0 ∧ cL (rawC k bs) = bs then rawC k bs else zeroC) := fun k hk => by unfold parseE parseC; rw [if_pos h16, if_pos h16, hk]; exact ⟨rfl, rfl⟩
    have hE0 : findK (at8 bs 0) = none → parseE bs = 1 ∧ parseC bs = zeroC := fun hk => by unfold parseE parseC; rw [if_pos h16, if_pos h16, hk]; exact ⟨rfl, rfl⟩
    have hb0 := at8_range bs 0
    have hf := fun W => rowOf_any (at8 bs 0) W
    generalize parseE bs = E at hE0 hE1 ⊢
    generalize parseC bs = C at hE0 hE1 ⊢
    obtain ⟨A, cap, rfl, k1, k2, _⟩ := id h
    obtain ⟨b, off, rfl, hc0⟩ := h.at_ 0 (by omega)
    simp only [Nat.add_zero] at hc0
    have hbl : b < w.heap.size := cell_lt' hc0
    rw [h16] at h k1 hlt ⊢
    have HE0 := Lib.hid hE0
    have HE1 := Lib.hid hE1
    have HB := Lib.hid h
    have H16 := Lib.hid h16
    have HRM := Lib.hid hlt
    clear hE0 hE1 h h16 hl hlt
    cases hk : findK (at8 bs 0) with
    | none =>
      obtain ⟨rfl, rfl⟩ := HE0.out hk
      unfold rowN at hf
      rw [hk] at hf
      simp only [Option.isSome_none] at hf
      have hs18 : zero18.size = 18 := rfl
      have h1c : zero18.all (·.oneCell') = true := by kernel_rfl
      generalize zero18 = A at hf hs18 h1c
      have hsz : (Tryd.prog.info? 82).map (·.size) = some A.size := by rw [hs18]; kernel_rfl
      have HSZ := Lib.hid hsz
      have HS18 := Lib.hid hs18
      have H1C := Lib.hid h1c
      have HF := Lib.hid hf
      clear hk HE0 HE1 hf hsz hs18 h1c
      go_enter Tryd.func19, Tryd.ntmps19
      go_wp2_with fail
      refine (HF.out _).mono ?_
      rintro e w1 ⟨rfl, hs1⟩
      obtain ⟨q0, q1, q2, q3, q4, q5, q6⟩ := box7 w 24 _ _ _ _ _ _ _ w1 hs1
      have hfz := boxf w 24 _ w1 hs1
      have hz1 : w.heap.size < w1.heap.size := by have := hs1.size; simp at this; omega
      have f0 := hfz 0
      have f1 := hfz 1
      have f2 := hfz 2
      have f3 := hfz 3
      have f4 := hfz 4
      have f5 := hfz 5
      have f6 := hfz 6
      have HS1 := Lib.hid (Same.trans ((Upd.refl (fun _ => False) w).alloc _) hs1)
      clear hs1 hfz
      go_wp2_with (refine wpList_store_new rfl 82 (.tmp 4) (.tmp 19) rfl rfl w1 _ A 82 rfl rfl rfl HSZ.out (by rw [HS18.out]; rfl) H1C.out ?_)
      refine bodyPost_ret (v := .tuple #[.agg #[.int .i64 0, .int .i64 0, .int .i64 0, .bool false, .int .i64 0, .int .u64 0, .int .i64 0], .int .i64 1]) (by simp [results, Tryd.results19, go_sem, q0, q1, q2, q3, q4, q5, q6, hz1]) rfl ⟨rfl, ?_⟩
      exact (same7 HS1.out _ _ _ _ _ _ _).alloc _
    | some k =>
      obtain ⟨hk14, hko⟩ := findK_some hk
      obtain ⟨hE, hC⟩ := HE1.out k hk
      unfold rowN at hf
      rw [hk] at hf
      simp only [Option.isSome_some] at hf
      have hpc := pcells
      have HP18 := fun (W : World) => pcells W k 82
      have hs18 : (plcA k).size = 18 := rfl
      have h1c : (plcA k).all (·.oneCell') = true := by kernel_rfl
      generalize plcA k = A at hf hs18 h1c HP18
      have hsz : (Tryd.prog.info? 82).map (·.size) = some A.size := by rw [hs18]; kernel_rfl
      have HSZ := Lib.hid hsz
      have HS18 := Lib.hid hs18
      have H1C := Lib.hid h1c
      have HF := Lib.hid hf
      have HPC := Lib.hid HP18
      have HE := Lib.hid hE
      have HCC := Lib.hid hC
      have HKO := Lib.hid hko
      clear hk HE0 HE1 hf hsz hs18 h1c hE hC hpc HP18 hko
      go_enter Tryd.func19, Tryd.ntmps19
      go_wp2_with fail
      refine (HF.out _).mono ?_
      rintro e w1 ⟨rfl, hs1⟩
      have hz1 : w.heap.size < w1.heap.size := by have := hs1.size; simp at this; omega
      obtain ⟨q0, q1, q2, q3, q4, q5, q6⟩ := box7 w 24 _ _ _ _ _ _ _ w1 hs1
      have hfz := boxf w 24 _ w1 hs1
      have hsw1 := Same.trans ((Upd.refl (fun _ => False) w).alloc _) hs1
      have hc1 := hsw1.cell hc0 id
      have hpst := pst_start (at8 bs 0) 82 24 HRM.out hz1 (HB.out.same hsw1) hsw1 (HPC.out w1) (fun j u hj => by
        rcases zero7_get hj with ⟨rfl, rfl⟩ | ⟨rfl, rfl⟩ | ⟨rfl, rfl⟩ | ⟨rfl, rfl⟩ | ⟨rfl, rfl⟩ | ⟨rfl, rfl⟩ | ⟨rfl, rfl⟩
        · exact ⟨q0, hfz 0⟩
        · exact ⟨q1, hfz 1⟩
        · exact ⟨q2, hfz 2⟩
        · exact ⟨q3, hfz 3⟩
        · exact ⟨q4, hfz 4⟩
        · exact ⟨q5, hfz 5⟩
        · exact ⟨q6, hfz 6⟩)
      have HPS := Lib.hid hpst
      clear hs1 hfz q0 q1 q2 q3 q4 q5 q6 hsw1 hpst
      have hbl1 : b < w1.heap.size := by omega
      go_upto_region 7 with (refine wpList_store_new rfl 82 (.tmp 4) (.tmp 19) rfl rfl w1 _ A 82 rfl rfl rfl HSZ.out (by rw [HS18.out]; rfl) H1C.out ?_)
      refine wp_gen fun w2 hw2 => ?_
      have hps := HPS.out
      rw [← hw2] at hps
      clear hw2 HPS
      have hpq := hps.pq
      have hg0 : ∀ W, Bs W (.slice (some ⟨b, off, none⟩) 16 cap) bs → Calls Tryd.prog 42 #[.slice (some ⟨b, off, none⟩) 16 cap, .agg #[.int .i64 (tb k 1), .int .i64 (tb k 2), .int .i64 (tb k 3)]] W fun e w' => e = .returned (.int .u64 (gN k bs 0)) ∧ Same W w' := fun W h => rget_k k hk14 _ bs 0 (by omega) W h
      have hg1 : ∀ W, Bs W (.slice (some ⟨b, off, none⟩) 16 cap) bs → Calls Tryd.prog 42 #[.slice (some ⟨b, off, none⟩) 16 cap, .agg #[.int .i64 (tb k 4), .int .i64 (tb k 5), .int .i64 (tb k 6)]] W fun e w' => e = .returned (.int .u64 (gN k bs 1)) ∧ Same W w' := fun W h => rget_k k hk14 _ bs 1 (by omega) W h
      have hg2 : ∀ W, Bs W (.slice (some ⟨b, off, none⟩) 16 cap) bs → Calls Tryd.prog 42 #[.slice (some ⟨b, off, none⟩) 16 cap, .agg #[.int .i64 (tb k 7), .int .i64 (tb k 8), .int .i64 (tb k 9)]] W fun e w' => e = .returned (.int .u64 (gN k bs 2)) ∧ Same W w' := fun W h => rget_k k hk14 _ bs 2 (by omega) W h
      have hg3 : ∀ W, Bs W (.slice (some ⟨b, off, none⟩) 16 cap) bs → Calls Tryd.prog 42 #[.slice (some ⟨b, off, none⟩) 16 cap, .agg #[.int .i64 (tb k 10), .int .i64 (tb k 11), .int .i64 (tb k 12)]] W fun e w' => e = .returned (.int .u64 (gN k bs 3)) ∧ Same W w' := fun W h => rget_k k hk14 _ bs 3 (by omega) W h
      have hg4 : ∀ W, Bs W (.slice (some ⟨b, off, none⟩) 16 cap) bs → Calls Tryd.prog 42 #[.slice (some ⟨b, off, none⟩) 16 cap, .agg #[.int .i64 (tb k 13), .int .i64 (tb k 14), .int .i64 (tb k 15)]] W fun e w' => e = .returned (.int .u64 (gN k bs 4)) ∧ Same W w' := fun W h => rget_k k hk14 _ bs 4 (by omega) W h
      have hg5 : ∀ W, Bs W (.slice (some ⟨b, off, none⟩) 16 cap) bs → Calls Tryd.prog 42 #[.slice (some ⟨b, off, none⟩) 16 cap, .agg #[.int .i64 (tb k 16), .int .i64 (tb k 17), .int .i64 (tb k 18)]] W fun e w' => e = .returned (.int .u64 (gN k bs 5)) ∧ Same W w' := fun W h => rget_k k hk14 _ bs 5 (by omega) W h
      have hraw : rawC k bs = ⟨tb k 0, gN k bs 0, gN k bs 2, gN k bs 1 == 1, gN k bs 3, gN k bs 4, gN k bs 5⟩ := rfl
      have hrok := rawC_ok k hk14 bs
      have hbld := fun W => rbuild_any (rawC k bs) W hrok
      have hb10 := gN_small k hk14 bs 0 (by omega) (by omega)
      have hb12 := gN_small k hk14 bs 2 (by omega) (by omega)
      have hb13 := gN_small k hk14 bs 3 (by omega) (by omega)
      have hb15 := gN_small k hk14 bs 5 (by omega) (by omega)
      have hEE := HE.out
      have hCC := HCC.out
      have hcells : (rawC k bs).cells = #[.int .i64 (tb k 0), .int .i64 (gN k bs 0), .int .i64 (gN k bs 2), .bool (gN k bs 1 == 1), .int .i64 (gN k bs 3), .int .u64 (gN k bs 4), .int .i64 (gN k bs 5)] := rfl
      generalize rawC k bs = R at hbld hEE hCC hcells
      generalize cE R = eR at hbld hEE hCC
      generalize cL R = lR at hbld hEE hCC
      rw [hcells, HKO.out] at hbld
      rw [HKO.out] at hcells
      generalize gN k bs 0 = g0 at hg0 hbld hcells hb10
      generalize gN k bs 1 = g1 at hg1 hbld hcells
      generalize gN k bs 2 = g2 at hg2 hbld hcells hb12
      generalize gN k bs 3 = g3 at hg3 hbld hcells hb13
      generalize gN k bs 4 = g4 at hg4 hbld hcells
      generalize gN k bs 5 = g5 at hg5 hbld hcells hb15
      have x0 : IntKind.i64.wrap g0 = g0 := by rw [IntKind.wrap_i64]; omega
      have x2 : IntKind.i64.wrap g2 = g2 := by rw [IntKind.wrap_i64]; omega
      have x3 : IntKind.i64.wrap g3 = g3 := by rw [IntKind.wrap_i64]; omega
      have x5 : IntKind.i64.wrap g5 = g5 := by rw [IntKind.wrap_i64]; omega
      have HG0 := Lib.hid hg0
      have HG1 := Lib.hid hg1
      have HG2 := Lib.hid hg2
      have HG3 := Lib.hid hg3
      have HG4 := Lib.hid hg4
      have HG5 := Lib.hid hg5
      have HBLD := Lib.hid hbld
      have HCELLS := Lib.hid hcells
      have HEE := Lib.hid hEE
      have HC2 := Lib.hid hCC
      clear hg0 hg1 hg2 hg3 hg4 hg5 hbld hcells hEE hCC hraw hrok HE HCC hb10 hb12 hb13 hb15 HF HSZ HS18 H1C HPC hc0 hc1
      have r0_0 := hps.row 0 (by omega)
      have r0_1 := hps.row 1 (by omega)
      have r0_2 := hps.row 2 (by omega)
      simp only [Nat.reduceAdd, Nat.add_zero] at r0_0 r0_1 r0_2
      have HPS := Lib.hid hps
      clear hps
      go_wp2_with fail
      refine (HG0.out _ HPS.out.bs_).mono ?_
      rintro e y0 ⟨rfl, hs0⟩
      have hps := HPS.out.same hs0
      clear HPS hs0 r0_0 r0_1 r0_2
      obtain ⟨d0, e0⟩ := hps.cmd 1 _ rfl
      have r1_0 := hps.row 3 (by omega)
      have r1_1 := hps.row 4 (by omega)
      have r1_2 := hps.row 5 (by omega)
      simp only [Nat.reduceAdd, Nat.add_zero] at r1_0 r1_1 r1_2
      have HPS := Lib.hid hps
      clear hps
      go_wp2_with fail
      have hps := HPS.out.set 1 (.int .i64 0) rfl (.int .i64 g0) [.int .i64 (at8 bs 0), .int .i64 g0, .int .i64 0, .bool false, .int .i64 0, .int .u64 0, .int .i64 0] rfl
      have HPS := Lib.hid hps
      clear hps
      refine (HG1.out _ HPS.out.bs_).mono ?_
      rintro e y1 ⟨rfl, hs1⟩
      have hps := HPS.out.same hs1
      clear HPS hs1 r1_0 r1_1 r1_2 d0 e0
      obtain ⟨d1, e1⟩ := hps.cmd 3 _ rfl
      have r2_0 := hps.row 6 (by omega)
      have r2_1 := hps.row 7 (by omega)
      have r2_2 := hps.row 8 (by omega)
      simp only [Nat.reduceAdd, Nat.add_zero] at r2_0 r2_1 r2_2
      have HPS := Lib.hid hps
      clear hps
      go_wp2_with fail
      have hps := HPS.out.set 3 (.bool false) rfl (.bool (g1 == 1)) [.int .i64 (at8 bs 0), .int .i64 g0, .int .i64 0, .bool (g1 == 1), .int .i64 0, .int .u64 0, .int .i64 0] rfl
      have HPS := Lib.hid hps
      clear hps
      refine (HG2.out _ HPS.out.bs_).mono ?_
      rintro e y2 ⟨rfl, hs2⟩
      have hps := HPS.out.same hs2
      clear HPS hs2 r2_0 r2_1 r2_2 d1 e1
      obtain ⟨d2, e2⟩ := hps.cmd 2 _ rfl
      have r3_0 := hps.row 9 (by omega)
      have r3_1 := hps.row 10 (by omega)
      have r3_2 := hps.row 11 (by omega)
      simp only [Nat.reduceAdd, Nat.add_zero] at r3_0 r3_1 r3_2
      have HPS := Lib.hid hps
      clear hps
      go_wp2_with fail
      have hps := HPS.out.set 2 (.int .i64 0) rfl (.int .i64 g2) [.int .i64 (at8 bs 0), .int .i64 g0, .int .i64 g2, .bool (g1 == 1), .int .i64 0, .int .u64 0, .int .i64 0] rfl
      have HPS := Lib.hid hps
      clear hps
      refine (HG3.out _ HPS.out.bs_).mono ?_
      rintro e y3 ⟨rfl, hs3⟩
      have hps := HPS.out.same hs3
      clear HPS hs3 r3_0 r3_1 r3_2 d2 e2
      obtain ⟨d3, e3⟩ := hps.cmd 4 _ rfl
      have r4_0 := hps.row 12 (by omega)
      have r4_1 := hps.row 13 (by omega)
      have r4_2 := hps.row 14 (by omega)
      simp only [Nat.reduceAdd, Nat.add_zero] at r4_0 r4_1 r4_2
      have HPS := Lib.hid hps
      clear hps
      go_wp2_with fail
      have hps := HPS.out.set 4 (.int .i64 0) rfl (.int .i64 g3) [.int .i64 (at8 bs 0), .int .i64 g0, .int .i64 g2, .bool (g1 == 1), .int .i64 g3, .int .u64 0, .int .i64 0] rfl
      have HPS := Lib.hid hps
      clear hps
      refine (HG4.out _ HPS.out.bs_).mono ?_
      rintro e y4 ⟨rfl, hs4⟩
      have hps := HPS.out.same hs4
      clear HPS hs4 r4_0 r4_1 r4_2 d3 e3
      obtain ⟨d4, e4⟩ := hps.cmd 5 _ rfl
      have r5_0 := hps.row 15 (by omega)
      have r5_1 := hps.row 16 (by omega)
      have r5_2 := hps.row 17 (by omega)
      simp only [Nat.reduceAdd, Nat.add_zero] at r5_0 r5_1 r5_2
      have HPS := Lib.hid hps
      clear hps
      go_wp2_with fail
      have hps := HPS.out.set 5 (.int .u64 0) rfl (.int .u64 g4) [.int .i64 (at8 bs 0), .int .i64 g0, .int .i64 g2, .bool (g1 == 1), .int .i64 g3, .int .u64 g4, .int .i64 0] rfl
      have HPS := Lib.hid hps
      clear hps
      refine (HG5.out _ HPS.out.bs_).mono ?_
      rintro e y5 ⟨rfl, hs5⟩
      have hps := HPS.out.same hs5
      clear HPS hs5 r5_0 r5_1 r5_2 d4 e4
      obtain ⟨d5, e5⟩ := hps.cmd 6 _ rfl
      have k0_ := (hps.cmd 0 _ rfl).1
      have k1_ := (hps.cmd 1 _ rfl).1
      have k2_ := (hps.cmd 2 _ rfl).1
      have k3_ := (hps.cmd 3 _ rfl).1
      have k4_ := (hps.cmd 4 _ rfl).1
      have k5_ := (hps.cmd 5 _ rfl).1
      have HPS := Lib.hid hps
      clear hps
      go_wp2_with fail
      have hps := HPS.out.set 6 (.int .i64 0) rfl (.int .i64 g5) [.int .i64 (at8 bs 0), .int .i64 g0, .int .i64 g2, .bool (g1 == 1), .int .i64 g3, .int .u64 g4, .int .i64 g5] rfl
      have HPS := Lib.hid hps
      clear hps
      refine (HBLD.out _).mono ?_
      rintro e z ⟨v5, rfl, hf5, hsz⟩
      have hps := HPS.out.same hsz
      have c0_ := (hps.cmd 0 _ rfl).1
      obtain ⟨z0, f0⟩ := hps.res 0 _ rfl
      have c1_ := (hps.cmd 1 _ rfl).1
      obtain ⟨z1, f1⟩ := hps.res 1 _ rfl
      have c2_ := (hps.cmd 2 _ rfl).1
      obtain ⟨z2, f2⟩ := hps.res 2 _ rfl
      have c3_ := (hps.cmd 3 _ rfl).1
      obtain ⟨z3, f3⟩ := hps.res 3 _ rfl
      have c4_ := (hps.cmd 4 _ rfl).1
      obtain ⟨z4, f4⟩ := hps.res 4 _ rfl
      have c5_ := (hps.cmd 5 _ rfl).1
      obtain ⟨z5, f5⟩ := hps.res 5 _ rfl
      have c6_ := (hps.cmd 6 _ rfl).1
      obtain ⟨z6, f6⟩ := hps.res 6 _ rfl
      have cv1 := conv_bs (P := Tryd.prog) (src := 25) (dst := 9) Tryd.underlying25 Tryd.underlying5 Tryd.underlying9 hf5.bs
      have cv2 := conv_bs (P := Tryd.prog) (src := 25) (dst := 9) Tryd.underlying25 Tryd.underlying5 Tryd.underlying9 hps.bs_
      have hwq := hps.wq
      have hsm := hps.same_
      have HSM := Lib.hid hsm
      clear hps hf5 hsz hsm k0_ k1_ k2_ k3_ k4_ k5_ d5 e5 HPS HG0 HG1 HG2 HG3 HG4 HG5 HBLD
      by_cases he : eR = 0
      · subst he
        cases hq : eqB lR bs with
        | true =>
          have hlr : lR = bs := by simpa [eqB] using hq
          obtain rfl : E = 0 := by rw [HEE.out, if_pos ⟨by trivial, hlr⟩]
          obtain rfl : C = R := by rw [HC2.out, if_pos ⟨by trivial, hlr⟩]
          clear hlr
          go_wp2_with fail
          refine bodyPost_ret (v := .tuple #[.agg #[.int .i64 (at8 bs 0), .int .i64 g0, .int .i64 g2, .bool (g1 == 1), .int .i64 g3, .int .u64 g4, .int .i64 g5], .int .i64 0]) (by simp [results, Tryd.results19, go_sem, z0, z1, z2, z3, z4, z5, z6]) rfl ⟨by rw [HCELLS.out], ?_⟩
          exact same7 HSM.out _ _ _ _ _ _ _
        | false =>
          have hlr : ¬ lR = bs := by simpa [eqB] using hq
          obtain rfl : E = 11 := by rw [HEE.out, if_neg (fun h => hlr h.2)]
          obtain rfl : C = zeroC := by rw [HC2.out, if_neg (fun h => hlr h.2)]
          clear hlr
          go_wp2_with fail
          refine bodyPost_ret (v := .tuple #[.agg #[.int .i64 0, .int .i64 0, .int .i64 0, .bool false, .int .i64 0, .int .u64 0, .int .i64 0], .int .i64 11]) (by simp [results, Tryd.results19, go_sem, z0, z1, z2, z3, z4, z5, z6]) rfl ⟨rfl, ?_⟩
          exact same7 HSM.out _ _ _ _ _ _ _
      · have he' : (eR != 0) = true := by simpa using he
        obtain rfl : E = 11 := by rw [HEE.out, if_neg (fun h => he h.1)]
        obtain rfl : C = zeroC := by rw [HC2.out, if_neg (fun h => he h.1)]
        clear he
        go_wp2_with fail
        refine bodyPost_ret (v := .tuple #[.agg #[.int .i64 0, .int .i64 0, .int .i64 0, .bool false, .int .i64 0, .int .u64 0, .int .i64 0], .int .i64 11]) (by simp [results, Tryd.results19, go_sem, z0, z1, z2, z3, z4, z5, z6]) rfl ⟨rfl, ?_⟩
        exact same7 HSM.out _ _ _ _ _ _ _
  · have hE : parseE bs = 3 ∧ parseC bs = zeroC := by unfold parseE parseC; rw [if_neg h16, if_neg h16]; exact ⟨rfl, rfl⟩
    have hzc : zeroC.cells = #[.int .i64 0, .int .i64 0, .int .i64 0, .bool false, .int .i64 0, .int .u64 0, .int .i64 0] := rfl
    rw [hE.1, hE.2, hzc]
    obtain ⟨A, cap, rfl, k1, k2, _⟩ := id h
    have hne : ((bs.length : Int) != 16) = true := by simp; omega
    clear h16 hE hzc h
    go_enter Tryd.func19, Tryd.ntmps19
    go_wp2_with fail
    exact bodyPost_ret (v := .tuple #[.agg #[.int .i64 0, .int .i64 0, .int .i64 0, .bool false, .int .i64 0, .int .u64 0, .int .i64 0], .int .i64 3]) (by simp [results, Tryd.results19, go_sem]) rfl ⟨rfl, (Upd.refl _ w).alloc _⟩
end Go.Proofs.YtmaofhiapkfoaaaDoor
