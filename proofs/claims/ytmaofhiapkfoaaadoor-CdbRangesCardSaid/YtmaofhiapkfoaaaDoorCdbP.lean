/- cdb.Parse. -/
import Derived.Test.YtmaofhiapkfoaaaDoorCdbB
import Derived.Test.YtmaofhiapkfoaaaDoorEq
import Derived.Deep.RegionHeld3
import Derived.BigRegion
namespace Go.Proofs.YtmaofhiapkfoaaaDoor
open Go.RowKit
set_option linter.unusedVariables false
set_option linter.unusedSimpArgs false
set_option maxRecDepth 20000
section
variable {P : Program}
theorem run_loadVar_cellsAt (w : World) (g off : Nat) (ty : TypeId) (cs : Array Value) (d : TypeDesc) (hc : ∀ j v, cs.toList[j]? = some v → w.cell? ⟨g, off + j, none⟩ = some v)
    (hu : P.underlying ty = some d) (hd : (match d with | .struct _ | .array _ _ => true | _ => false) = true) (hi : (P.info? ty).map (·.size) = some cs.size) :
    (loadVar ty ⟨g, off, none⟩).run P w = .ok (.agg cs) w := by
  have hl : (loadCells ⟨g, off, none⟩ cs.toList.length).run P w = .ok cs.toList.toArray w :=
    run_loadCells_list (P := P) w ⟨g, off, none⟩ cs.toList (fun j v hv => by
      rw [Addr.add_lit]
      exact hc j v hv)
  cases hq : P.info? ty with
  | none => simp [hq] at hi
  | some i =>
    have hs : i.size = cs.size := by simpa [hq] using hi
    have hagg : (isAgg ty).run P w = .ok true w := by
      unfold isAgg
      rw [Sem.run_bind, run_underlying hu w]
      cases d <;> simp_all
    simp only [Array.length_toList, Array.toArray_toList] at hl
    simp [loadVar, Sem.run_bind, hagg, sizeOf, typeInfo, hq, hs, hl]
theorem wpList_load_cellsAt {ops : Array Oper} {rest : List Oper} {o : Oper} {a : Act} {w : World} {Q : Exit → Act → World → Prop} (hgd : o.guard = none) (ty : TypeId) (x : Operand) (ho : o.op = .load ty x)
    (g off : Nat) (hx : a.eval x = .pointer (some ⟨g, off, none⟩)) (cs : Array Value) (d : TypeDesc) (hc : ∀ j v, cs.toList[j]? = some v → w.cell? ⟨g, off + j, none⟩ = some v)
    (hu : P.underlying ty = some d) (hd : (match d with | .struct _ | .array _ _ => true | _ => false) = true) (hi : (P.info? ty).map (·.size) = some cs.size)
    (h : wpList P ops Q rest (a.put o.dst (.agg cs)) w) : wpList P ops Q (o :: rest) a w :=
  wpList_plain hgd fun K hK => by
    unfold Oper.wp execOp
    simp only [ho, hx, Instr.loadAt, Instr.sureAddr, Sem.run_bind, Sem.run_pure, Result.andThen_ok, run_loadVar_cellsAt w g off ty cs d hc hu hd hi]
    exact hK _ _ h
end
/-- The places of row k. -/
def plcA (k : Nat) : Array Value := #[.int .i64 (tb k 1), .int .i64 (tb k 2), .int .i64 (tb k 3), .int .i64 (tb k 4), .int .i64 (tb k 5), .int .i64 (tb k 6), .int .i64 (tb k 7), .int .i64 (tb k 8), .int .i64 (tb k 9), .int .i64 (tb k 10), .int .i64 (tb k 11), .int .i64 (tb k 12), .int .i64 (tb k 13), .int .i64 (tb k 14), .int .i64 (tb k 15), .int .i64 (tb k 16), .int .i64 (tb k 17), .int .i64 (tb k 18)]
theorem plcA_get (k j : Nat) (v : Value) (h : (plcA k).toList[j]? = some v) : j < 18 ∧ v = .int .i64 (tb k (1 + j)) := by
  match j, h with
  | 0, h => exact ⟨by omega, (Option.some.inj h).symm⟩
  | 1, h => exact ⟨by omega, (Option.some.inj h).symm⟩
  | 2, h => exact ⟨by omega, (Option.some.inj h).symm⟩
  | 3, h => exact ⟨by omega, (Option.some.inj h).symm⟩
  | 4, h => exact ⟨by omega, (Option.some.inj h).symm⟩
  | 5, h => exact ⟨by omega, (Option.some.inj h).symm⟩
  | 6, h => exact ⟨by omega, (Option.some.inj h).symm⟩
  | 7, h => exact ⟨by omega, (Option.some.inj h).symm⟩
  | 8, h => exact ⟨by omega, (Option.some.inj h).symm⟩
  | 9, h => exact ⟨by omega, (Option.some.inj h).symm⟩
  | 10, h => exact ⟨by omega, (Option.some.inj h).symm⟩
  | 11, h => exact ⟨by omega, (Option.some.inj h).symm⟩
  | 12, h => exact ⟨by omega, (Option.some.inj h).symm⟩
  | 13, h => exact ⟨by omega, (Option.some.inj h).symm⟩
  | 14, h => exact ⟨by omega, (Option.some.inj h).symm⟩
  | 15, h => exact ⟨by omega, (Option.some.inj h).symm⟩
  | 16, h => exact ⟨by omega, (Option.some.inj h).symm⟩
  | 17, h => exact ⟨by omega, (Option.some.inj h).symm⟩
  | n + 18, h => simp [plcA] at h
theorem index_plc (k : Nat) (W : World) (i : Nat) (hi : i < 6) : (Instr.index 71 (.agg (plcA k)) (.int .i64 (i : Int))).run Tryd.prog W = .ok (.agg #[.int .i64 (pAt k i), .int .i64 (pSz k i), .int .i64 (pBt k i)]) W := by
  rcases (show i = 0 ∨ i = 1 ∨ i = 2 ∨ i = 3 ∨ i = 4 ∨ i = 5 by omega) with rfl | rfl | rfl | rfl | rfl | rfl
  all_goals kernel_rfl
/-- The block of the fields that are read. -/
def VAt (w : World) (q k : Nat) (bs : List UInt8) (i : Nat) : Prop := ∀ j, j < 6 → w.cell? ⟨q, j, none⟩ = some (.int .u64 (if j < i then gN k bs j else 0)) ∧ w.frozen? ⟨q, j, none⟩ = false
theorem boxf (w : World) (t : TypeId) (C : Array Value) (w1 : World) (hs : Same (w.alloc (.cells C t)) w1) (j : Nat) : w1.frozen? ⟨w.heap.size, j, none⟩ = false := by
  rw [hs.frozen (p := ⟨w.heap.size, j, none⟩) (by simp) id]
  unfold World.frozen?
  rw [heap_alloc_new w]
  simp
theorem same7 {w w1 : World} (hs : Same w w1) (a0 a1 a2 a3 a4 a5 a6 : Value) : Same w
    (((((((w1.setCell ⟨w.heap.size, 0, none⟩ a0).setCell ⟨w.heap.size, 1, none⟩ a1).setCell ⟨w.heap.size, 2, none⟩ a2).setCell ⟨w.heap.size, 3, none⟩ a3).setCell ⟨w.heap.size, 4, none⟩ a4).setCell ⟨w.heap.size, 5, none⟩ a5).setCell ⟨w.heap.size, 6, none⟩ a6) :=
  have h : ∀ j, (⟨w.heap.size, j, none⟩ : Addr).block < w.heap.size → False := fun j h => Nat.lt_irrefl _ h
  (((((((hs.setCell (p := ⟨w.heap.size, 0, none⟩) (h 0) a0).setCell (p := ⟨w.heap.size, 1, none⟩) (h 1) a1).setCell (p := ⟨w.heap.size, 2, none⟩) (h 2) a2).setCell (p := ⟨w.heap.size, 3, none⟩) (h 3) a3).setCell (p := ⟨w.heap.size, 4, none⟩) (h 4) a4).setCell (p := ⟨w.heap.size, 5, none⟩) (h 5) a5).setCell (p := ⟨w.heap.size, 6, none⟩) (h 6) a6)
theorem and_mask (n bt : Int) (h0 : 0 ≤ n) (h1 : n ≤ 18446744073709551615) (hb : 0 < bt) (hb5 : bt ≤ 5) : bits BinOp.and IntKind.u64 n (IntKind.u64.wrap (IntKind.u64.wrap (2 ^ bt.toNat) - 1)) = n % 2 ^ bt.toNat := by
  obtain ⟨N, rfl⟩ := Int.eq_ofNat_of_zero_le h0
  have key : ∀ (m : Nat), m ≤ 5 → IntKind.u64.wrap (IntKind.u64.wrap (2 ^ m) - 1) = ((2 ^ m - 1 : Nat) : Int) ∧ (2 ^ m - 1 : Nat) < 18446744073709551616 := by
    intro m hm
    rcases (show m = 0 ∨ m = 1 ∨ m = 2 ∨ m = 3 ∨ m = 4 ∨ m = 5 by omega) with rfl | rfl | rfl | rfl | rfl | rfl <;> decide
  obtain ⟨k1, k2⟩ := key bt.toNat (by omega)
  rw [k1, u64_and_nat N _ (by omega) k2, Nat.and_two_pow_sub_one_eq_mod, Int.natCast_emod, Int.natCast_pow]
  rfl
/-- The state of Parse's loop behind i fields. -/
def PIn (w1 wr : World) (k : Nat) (bs : List UInt8) (i : Nat) : Prop :=
  Upd (fun b => b = w1.heap.size) (w1.alloc (.cells #[.int .u64 0, .int .u64 0, .int .u64 0, .int .u64 0, .int .u64 0, .int .u64 0] 67)) wr ∧ VAt wr w1.heap.size k bs i
theorem pin_start (w1 : World) (k : Nat) (bs : List UInt8) : PIn w1 (w1.alloc (.cells #[.int .u64 0, .int .u64 0, .int .u64 0, .int .u64 0, .int .u64 0, .int .u64 0] 67)) k bs 0 := by
  refine ⟨Upd.refl _ _, fun j hj => ?_⟩
  have h := heap_alloc_new w1 (.cells #[.int .u64 0, .int .u64 0, .int .u64 0, .int .u64 0, .int .u64 0, .int .u64 0] 67)
  refine ⟨?_, by unfold World.frozen?; rw [h]; simp⟩
  rw [cell_of_row _ _ j _ _ (0, 0) h]
  rcases (show j = 0 ∨ j = 1 ∨ j = 2 ∨ j = 3 ∨ j = 4 ∨ j = 5 by omega) with rfl | rfl | rfl | rfl | rfl | rfl <;> rfl
theorem pin_same {w1 wr w' : World} {k : Nat} {bs : List UInt8} {i : Nat} (h : PIn w1 wr k bs i) (hw : Same wr w') : PIn w1 w' k bs i := by
  obtain ⟨h1, h2⟩ := h
  refine ⟨Same.trans h1 hw, fun j hj => ?_⟩
  obtain ⟨a1, a2⟩ := h2 j hj
  exact ⟨hw.cell a1 id, (hw.frozen (p := ⟨w1.heap.size, j, none⟩) (cell_lt' a1) id).trans a2⟩
theorem pin_skip {w1 wr : World} {k : Nat} {bs : List UInt8} {i : Nat} (h : PIn w1 wr k bs i) (hs : pSz k i = 0) (w' : World) (hw : Same wr w') : PIn w1 w' k bs (i + 1) := by
  obtain ⟨h1, h2⟩ := h
  refine ⟨Same.trans h1 hw, fun j hj => ?_⟩
  obtain ⟨a1, a2⟩ := h2 j hj
  refine ⟨?_, (hw.frozen (p := ⟨w1.heap.size, j, none⟩) (cell_lt' a1) id).trans a2⟩
  rw [hw.cell a1 id]
  by_cases hji : j = i
  · subst hji
    rw [if_neg (by omega), if_pos (by omega)]
    unfold gN
    rw [if_pos hs]
  · by_cases h' : j < i
    · rw [if_pos h', if_pos (by omega)]
    · rw [if_neg h', if_neg (by omega)]
theorem pin_put {w1 wr : World} {k : Nat} {bs : List UInt8} {i : Nat} (h : PIn w1 wr k bs i) (hi : i < 6) (w' : World) (hw : Same wr w') : PIn w1 (w'.setCell ⟨w1.heap.size, i, none⟩ (.int .u64 (gN k bs i))) k bs (i + 1) := by
  obtain ⟨h1, h2⟩ := h
  refine ⟨(Same.trans h1 hw).setCell (p := ⟨w1.heap.size, i, none⟩) (fun _ => rfl) _, fun j hj => ?_⟩
  obtain ⟨a1, a2⟩ := h2 j hj
  have a3 := hw.cell a1 id
  refine ⟨?_, by rw [World.frozen?_setCell]; exact (hw.frozen (p := ⟨w1.heap.size, j, none⟩) (cell_lt' a1) id).trans a2⟩
  by_cases hji : j = i
  · subst hji
    rw [World.cell?_setCell_same _ _ _ a3, if_pos (by omega)]
  · rw [World.cell?_setCell_other _ _ _ _ (by intro e; injection e with _ e; omega), a3]
    by_cases h' : j < i
    · rw [if_pos h', if_pos (by omega)]
    · rw [if_neg h', if_neg (by omega)]
set_option maxHeartbeats 4000000 in
theorem parse_any (v : Value) (bs : List UInt8) (w : World) (h : Bs w v bs) (hl : bs.length ≤ 200000000000000) (hT : Tab15 w) :
    Calls Tryd.prog 13 #[v] w fun e w' => e = .returned (.tuple #[.agg (parseC bs).cells, .int .i64 (parseE bs)]) ∧ Same w w' := by
  by_cases h16 : bs.length = 16
  · have hE1 : ∀ k, findK (at8 bs 0) = some k → parseE bs = (if cE (rawC k bs) = 0 ∧ cL (rawC k bs) = bs then 0 else 11) ∧ parseC bs = (if cE (rawC k bs) = 0 ∧ cL (rawC k bs) = bs then rawC k bs else zeroC) := fun k hk => by unfold parseE parseC; rw [if_pos h16, if_pos h16, hk]; exact ⟨rfl, rfl⟩
    have hE0 : findK (at8 bs 0) = none → parseE bs = 1 ∧ parseC bs = zeroC := fun hk => by unfold parseE parseC; rw [if_pos h16, if_pos h16, hk]; exact ⟨rfl, rfl⟩
    have hzc : zeroC.cells = #[.int .i64 0, .int .i64 0, .int .i64 0, .bool false, .int .i64 0, .int .u64 0, .int .i64 0] := rfl
    have hb0 := at8_range bs 0
    have hf := fun w hT => find_any (at8 bs 0) w hT (by omega) (by omega)
    generalize parseE bs = E at hE0 hE1 ⊢
    generalize parseC bs = C at hE0 hE1 ⊢
    obtain ⟨A, cap, rfl, k1, k2, _⟩ := id h
    obtain ⟨b, off, rfl, hc0⟩ := h.at_ 0 (by omega)
    simp only [Nat.add_zero] at hc0
    have hbl : b < w.heap.size := cell_lt' hc0
    rw [h16] at h k1 ⊢
    have HF := Lib.hid hf
    have HE0 := Lib.hid hE0
    have HE1 := Lib.hid hE1
    have HT := Lib.hid hT
    have HB := Lib.hid h
    have H16 := Lib.hid h16
    clear hf hE0 hE1 hT h h16 hl
    go_enter Tryd.func13, Tryd.ntmps13
    go_wp2_with fail
    refine (HF.out _ (HT.out.same ((Upd.refl _ w).alloc _))).mono ?_
    rintro e w1 ⟨hs1, ⟨hk, rfl⟩ | ⟨p, k, hk, rfl, hrow, hp⟩⟩
    · obtain ⟨rfl, rfl⟩ := HE0.out hk
      obtain ⟨q0, q1, q2, q3, q4, q5, q6⟩ := box7 w 29 _ _ _ _ _ _ _ w1 hs1
      have hfz := boxf w 29 _ w1 hs1
      have f0 := hfz 0
      have f1 := hfz 1
      have f2 := hfz 2
      have f3 := hfz 3
      have f4 := hfz 4
      have f5 := hfz 5
      have f6 := hfz 6
      have HS1 := Lib.hid (Same.trans ((Upd.refl (fun _ => False) w).alloc _) hs1)
      clear hk HE0 HE1 hzc hs1 hfz
      go_wp2_with fail
      refine bodyPost_ret (v := .tuple #[.agg #[.int .i64 0, .int .i64 0, .int .i64 0, .bool false, .int .i64 0, .int .u64 0, .int .i64 0], .int .i64 1]) (by simp [results, Tryd.results13, go_sem, q0, q1, q2, q3, q4, q5, q6]) rfl ⟨rfl, ?_⟩
      exact same7 HS1.out _ _ _ _ _ _ _
    · obtain ⟨hk14, hko⟩ := findK_some hk
      obtain ⟨hE, hC⟩ := HE1.out k hk
      obtain ⟨q0, q1, q2, q3, q4, q5, q6⟩ := box7 w 29 _ _ _ _ _ _ _ w1 hs1
      have hfz := boxf w 29 _ w1 hs1
      have hz1 : w.heap.size < w1.heap.size := by have := hs1.size; simp at this; omega
      have hpl : p < w1.heap.size := cell_lt' (hrow 0 (by omega))
      have hpg : w.heap.size < p := by simp at hp; omega
      have hFc : ∀ (W : World), RowAt W p k → ∀ j v, (plcA k).toList[j]? = some v → W.cell? ⟨p, 1 + j, none⟩ = some v := fun W hW j v hj => by
        obtain ⟨h1, rfl⟩ := plcA_get k j v hj
        exact hW (1 + j) (by omega)
      have hFs : (Tryd.prog.info? 71).map (·.size) = some (plcA k).size := by kernel_rfl
      have hFi := fun W i hi => index_plc k W i hi
      have hrow1 := hrow.same ((Upd.refl (fun _ => False) w1).alloc (.cells #[.int .u64 0, .int .u64 0, .int .u64 0, .int .u64 0, .int .u64 0, .int .u64 0] 67))
      have hc1 := hFc _ hrow1
      generalize plcA k = F at hFc hFs hFi hc1
      have HS1 := Lib.hid hs1
      have HFC := Lib.hid hc1
      have HFS := Lib.hid hFs
      have HFI := Lib.hid hFi
      have HFZ := Lib.hid hfz
      have HROW := Lib.hid hrow
      have HE := Lib.hid hE
      have HCC := Lib.hid hC
      have HQ := Lib.hid (And.intro q0 (And.intro q1 (And.intro q2 (And.intro q3 (And.intro q4 (And.intro q5 q6))))))
      clear hk HE0 HE1 hzc hs1 hfz hrow hFc hc1 hFs hFi hE hC q0 q1 q2 q3 q4 q5 q6 hrow1 hc0
      go_wp2_with (refine wpList_load_cellsAt rfl 71 (.tmp 27) rfl p 1 rfl F _ HFC.out Tryd.underlying71 rfl HFS.out ?_)
      go_loopw [29] (fun v29 wr => ∃ (i : Nat), i ≤ 6 ∧ v29 = .int .i64 i ∧ PIn w1 wr k bs i) (fun v29 _ => 6 - (intOf v29).toNat)
      case atStart => exact ⟨0, by omega, rfl, pin_start w1 k bs⟩
      case round =>
        obtain ⟨i, hi, rfl, hin⟩ := hrel
        by_cases hlt : i < 6
        · have g0 : (i : Int) < 6 := by omega
          have ix := fun W => HFI.out W i hlt
          have hplc := place_fit k hk14 i hlt
          have hz2 : w1.heap.size < wr.heap.size := by have := hin.1.size; simp at this; omega
          by_cases hs : pSz k i = 0
          · have HN := Lib.hid (pin_skip hin hs)
            rw [hs] at ix
            clear hplc hs hin
            go_wp2_with fail
            go_roundw
            case rel => exact ⟨i + 1, by omega, by go_num, HN.out _ ((Upd.refl _ wr).alloc _)⟩
            case measure => simp [intOf]; omega
          · have hne : (pSz k i == 0) = false := by simpa using hs
            have hp' : 1 ≤ pSz k i ∧ pSz k i ≤ 8 ∧ 1 ≤ pAt k i ∧ pAt k i + pSz k i ≤ 16 ∧ 0 ≤ pBt k i ∧ pBt k i ≤ 5 := by omega
            obtain ⟨v1, v2⟩ := hin.2 i hlt
            rw [if_neg (by omega)] at v1
            have hbs : Bs wr (.slice (some ⟨b, off, none⟩) 16 cap) bs := (HB.out.same (Same.trans ((Upd.refl (fun _ => False) w).alloc _) (HS1.out.alloc (.cells #[.int .u64 0, .int .u64 0, .int .u64 0, .int .u64 0, .int .u64 0, .int .u64 0] 67)))).upd hin.1 (fun x hx => by rw [room_some _ _ _ _ (by omega)] at hx; injection hx with hx; omega)
            have hget := fun W h => get_bs (.slice (some ⟨b, off, none⟩) 16 cap) bs (pAt k i) (pSz k i) W h (by omega) (by omega) (by omega) (by omega)
            have HG := Lib.hid hget
            have HBS := Lib.hid hbs
            have HN := Lib.hid (pin_put hin hlt)
            have hgn : gN k bs i = if 0 < pBt k i then getN bs (pAt k i) (pSz k i) % 2 ^ (pBt k i).toNat else getN bs (pAt k i) (pSz k i) := by unfold gN; rw [if_neg hs]
            have hgr := getN_range bs (pAt k i) (pSz k i) hp'.1 hp'.2.1
            have hg8 := pow256_le (pSz k i) hp'.2.1
            have hgr' : 0 ≤ getN bs (pAt k i) (pSz k i) ∧ getN bs (pAt k i) (pSz k i) ≤ 18446744073709551615 := by omega
            have HGR := Lib.hid hgr'
            clear hplc hs hin hget hbs hgr hg8 hgr'
            generalize getN bs (pAt k i) (pSz k i) = n at HG HGR hgn
            have hnr := HGR.out
            by_cases hb : 0 < pBt k i
            · rw [if_pos hb] at hgn
              have HGN := Lib.hid hgn
              clear hgn
              have HB5 : pBt k i < 64 := by omega
              go_wp2_with fail
              refine (HG.out _ (HBS.out.same ((Upd.refl _ wr).alloc _))).mono ?_
              rintro e w' ⟨rfl, rfl⟩
              go_wp2_with fail
              go_roundw
              case rel => exact ⟨i + 1, by omega, by go_num, by have := HN.out wr (Upd.refl _ wr); rw [HGN.out, ← and_mask n _ hnr.1 hnr.2 hb hp'.2.2.2.2.2] at this; exact pin_same this ((Upd.refl _ _).alloc _)⟩
              case measure => simp [intOf]; omega
            · rw [if_neg hb] at hgn
              have HGN := Lib.hid hgn
              clear hgn
              go_wp2_with fail
              refine (HG.out _ (HBS.out.same ((Upd.refl _ wr).alloc _))).mono ?_
              rintro e w' ⟨rfl, rfl⟩
              go_wp2_with fail
              go_roundw
              case rel => exact ⟨i + 1, by omega, by go_num, by have := HN.out wr (Upd.refl _ wr); rw [HGN.out] at this; exact pin_same this ((Upd.refl _ _).alloc _)⟩
              case measure => simp [intOf]; omega
        · obtain rfl : i = 6 := by omega
          obtain ⟨u1, u2⟩ := hin
          have hq := HQ.out
          obtain ⟨q0, q1, q2, q3, q4, q5, q6⟩ := hq
          have hw0 : ¬ w.heap.size = w1.heap.size := by omega
          have up : ∀ {j : Nat} {u : Value}, w1.cell? ⟨w.heap.size, j, none⟩ = some u → wr.cell? ⟨w.heap.size, j, none⟩ = some u := fun h => u1.cell (((Upd.refl (fun _ => False) w1).alloc _).cell h id) hw0
          obtain ⟨c0, -⟩ := u2 0 (by omega)
          obtain ⟨c1, -⟩ := u2 1 (by omega)
          obtain ⟨c2, -⟩ := u2 2 (by omega)
          obtain ⟨c3, -⟩ := u2 3 (by omega)
          obtain ⟨c4, -⟩ := u2 4 (by omega)
          obtain ⟨c5, -⟩ := u2 5 (by omega)
          rw [if_pos (by omega)] at c0 c1 c2 c3 c4 c5
          have hop : wr.cell? ⟨p, 0, none⟩ = some (.int .i64 (at8 bs 0)) := by
            have := HROW.out 0 (by omega)
            rw [hko] at this
            exact u1.cell (((Upd.refl (fun _ => False) w1).alloc _).cell this id) (by show ¬ p = w1.heap.size; omega)
          have hraw : rawC k bs = ⟨tb k 0, gN k bs 0, gN k bs 2, gN k bs 1 == 1, gN k bs 3, gN k bs 4, gN k bs 5⟩ := rfl
          have hrok := rawC_ok k hk14 bs
          have hb0 := gN_small k hk14 bs 0 (by omega) (by omega)
          have hb2 := gN_small k hk14 bs 2 (by omega) (by omega)
          have hb3 := gN_small k hk14 bs 3 (by omega) (by omega)
          have hb5 := gN_small k hk14 bs 5 (by omega) (by omega)
          have hEE := HE.out
          have hCC := HCC.out
          generalize rawC k bs = R at hraw hrok hEE hCC
          rw [hko] at hraw
          generalize gN k bs 0 = g0 at c0 hraw hb0
          generalize gN k bs 1 = g1 at c1 hraw
          generalize gN k bs 2 = g2 at c2 hraw hb2
          generalize gN k bs 3 = g3 at c3 hraw hb3
          generalize gN k bs 4 = g4 at c4 hraw
          generalize gN k bs 5 = g5 at c5 hraw hb5
          have x0 : IntKind.i64.wrap g0 = g0 := by rw [IntKind.wrap_i64]; omega
          have x2 : IntKind.i64.wrap g2 = g2 := by rw [IntKind.wrap_i64]; omega
          have x3 : IntKind.i64.wrap g3 = g3 := by rw [IntKind.wrap_i64]; omega
          have x5 : IntKind.i64.wrap g5 = g5 := by rw [IntKind.wrap_i64]; omega
          have HRAW := Lib.hid hraw
          have HROK := Lib.hid hrok
          have HEE := Lib.hid hEE
          have HC2 := Lib.hid hCC
          have HU1 := Lib.hid u1
          have HQ2 := Lib.hid (And.intro (up q0) (And.intro (up q1) (And.intro (up q2) (And.intro (up q3) (And.intro (up q4) (And.intro (up q5) (up q6)))))))
          clear hraw hrok hEE hCC u1 u2 q0 q1 q2 q3 q4 q5 q6 hb0 hb2 hb3 hb5 HE HCC HFC HFS HFI HROW hw0 up
          go_wp2_with fail
          go_region_held3 (fun w' => w'.cell? ⟨p, 0, none⟩ = some (.int .i64 (at8 bs 0)) ∧ w'.cell? ⟨w1.heap.size, 0, none⟩ = some (.int .u64 g0) ∧ w'.cell? ⟨w1.heap.size, 1, none⟩ = some (.int .u64 g1) ∧ w'.cell? ⟨w1.heap.size, 2, none⟩ = some (.int .u64 g2) ∧ w'.cell? ⟨w1.heap.size, 3, none⟩ = some (.int .u64 g3) ∧ w'.cell? ⟨w1.heap.size, 4, none⟩ = some (.int .u64 g4) ∧ w'.cell? ⟨w1.heap.size, 5, none⟩ = some (.int .u64 g5))
            (first | assumption | exact ⟨(Upd.refl (fun _ => False) _).drew.cell hop id, (Upd.refl (fun _ => False) _).drew.cell c0 id, (Upd.refl (fun _ => False) _).drew.cell c1 id, (Upd.refl (fun _ => False) _).drew.cell c2 id, (Upd.refl (fun _ => False) _).drew.cell c3 id, (Upd.refl (fun _ => False) _).drew.cell c4 id, (Upd.refl (fun _ => False) _).drew.cell c5 id⟩ | exact ⟨((Upd.refl (fun _ => False) _).alloc _).drew.cell hop id, ((Upd.refl (fun _ => False) _).alloc _).drew.cell c0 id, ((Upd.refl (fun _ => False) _).alloc _).drew.cell c1 id, ((Upd.refl (fun _ => False) _).alloc _).drew.cell c2 id, ((Upd.refl (fun _ => False) _).alloc _).drew.cell c3 id, ((Upd.refl (fun _ => False) _).alloc _).drew.cell c4 id, ((Upd.refl (fun _ => False) _).alloc _).drew.cell c5 id⟩) (fail)
          have hcells : R.cells = #[.int .i64 (at8 bs 0), .int .i64 g0, .int .i64 g2, .bool (g1 == 1), .int .i64 g3, .int .u64 g4, .int .i64 g5] := by rw [HRAW.out]; rfl
          have hbld := fun W hT => build_any R W HROK.out hT
          have hEE := HEE.out
          have hCC := HC2.out
          generalize cE R = eR at hbld hEE hCC
          generalize cL R = lR at hbld hEE hCC
          rw [hcells] at hbld
          have HBLD := Lib.hid hbld
          have HEE2 := Lib.hid hEE
          have HCC2 := Lib.hid hCC
          have HCELLS := Lib.hid hcells
          clear hbld hEE hCC hcells HEE HC2 hop c0 c1 c2 c3 c4 c5 x0 x2 x3 x5 hko hk14
          have hw0 : ¬ w.heap.size = w1.heap.size := by omega
          have hsw : Same w wr := ⟨HU1.out.os.trans HS1.out.os, HU1.out.tape.trans HS1.out.tape, HU1.out.output.trans HS1.out.output, by have := HU1.out.size; simp at this; omega, fun x hx _ => by
            have e1 := HU1.out.block x (by simp; omega) (by omega)
            have e2 := ((Upd.refl (fun _ => False) w1).alloc (.cells #[.int .u64 0, .int .u64 0, .int .u64 0, .int .u64 0, .int .u64 0, .int .u64 0] 67)).block x (by omega) id
            have e3 := HS1.out.block x (by simp; omega) id
            have e4 := ((Upd.refl (fun _ => False) w).alloc (.cells #[.int .i64 0, .int .i64 0, .int .i64 0, .bool false, .int .i64 0, .int .u64 0, .int .i64 0] 29)).block x hx id
            exact e1.trans (e2.trans (e3.trans e4))⟩
          have hz5 : w.heap.size < wr.heap.size := by have := HU1.out.size; simp at this; omega
          have HSW := Lib.hid hsw
          clear hsw hw0
          go_wp2_with fail
          refine (HBLD.out _ (HT.out.same (Same.trans HSW.out (((Upd.refl _ wr).alloc _).drew)))).mono ?_
          rintro e w5 ⟨v5, rfl, hf5, hs5⟩
          have hs6 := Same.trans (((Upd.refl (fun _ => False) wr).alloc _).drew) hs5
          obtain ⟨y0, y1, y2, y3, y4, y5, y6⟩ := box7 wr 29 _ _ _ _ _ _ _ w5 (Same.trans ((Upd.refl (fun _ => False) _).drew) hs5)
          obtain ⟨z0, z1, z2, z3, z4, z5, z6⟩ := HQ2.out
          have fz : ∀ j, w5.frozen? ⟨w.heap.size, j, none⟩ = false := fun j => by
            rw [hs6.frozen (p := ⟨w.heap.size, j, none⟩) hz5 id, HU1.out.frozen (p := ⟨w.heap.size, j, none⟩) (by simp; omega) (by show ¬ w.heap.size = w1.heap.size; omega), ((Upd.refl (fun _ => False) w1).alloc _).frozen (p := ⟨w.heap.size, j, none⟩) hz1 id]
            exact HFZ.out j
          have f0 := fz 0
          have f1 := fz 1
          have f2 := fz 2
          have f3 := fz 3
          have f4 := fz 4
          have f5 := fz 5
          have f6 := fz 6
          replace z0 := hs6.cell z0 id
          replace z1 := hs6.cell z1 id
          replace z2 := hs6.cell z2 id
          replace z3 := hs6.cell z3 id
          replace z4 := hs6.cell z4 id
          replace z5 := hs6.cell z5 id
          replace z6 := hs6.cell z6 id
          have hz7 := hs6.size
          have HS6 := Lib.hid (Same.trans HSW.out hs6)
          have HF5 := Lib.hid hf5
          have hb6 := HB.out.same HS6.out
          have HB6 := Lib.hid hb6
          clear fz hs6 hs5 hf5 hb6 hz7
          by_cases he : eR = 0
          · subst he
            go_wp2_with fail
            refine (equal_bs v5 _ lR bs w5 HF5.out.bs HB6.out).mono ?_
            rintro e w6 ⟨rfl, m, rfl⟩
            cases hq : eqB lR bs with
            | true =>
              have hlr : lR = bs := by simpa [eqB] using hq
              obtain rfl : E = 0 := by rw [HEE2.out, if_pos ⟨by trivial, hlr⟩]
              obtain rfl : C = R := by rw [HCC2.out, if_pos ⟨by trivial, hlr⟩]
              clear hq hlr
              go_wp2_with fail
              refine bodyPost_ret (v := .tuple #[.agg #[.int .i64 (at8 bs 0), .int .i64 g0, .int .i64 g2, .bool (g1 == 1), .int .i64 g3, .int .u64 g4, .int .i64 g5], .int .i64 0]) (by simp [results, Tryd.results13, go_sem, z0, z1, z2, z3, z4, z5, z6]) rfl ⟨by rw [HCELLS.out], ?_⟩
              exact same7 (HS6.out.drewN m) _ _ _ _ _ _ _
            | false =>
              have hlr : ¬ lR = bs := by simpa [eqB] using hq
              obtain rfl : E = 11 := by rw [HEE2.out, if_neg (fun h => hlr h.2)]
              obtain rfl : C = zeroC := by rw [HCC2.out, if_neg (fun h => hlr h.2)]
              clear hq hlr
              go_wp2_with fail
              refine bodyPost_ret (v := .tuple #[.agg #[.int .i64 0, .int .i64 0, .int .i64 0, .bool false, .int .i64 0, .int .u64 0, .int .i64 0], .int .i64 11]) (by simp [results, Tryd.results13, go_sem, z0, z1, z2, z3, z4, z5, z6]) rfl ⟨rfl, ?_⟩
              exact same7 (HS6.out.drewN m) _ _ _ _ _ _ _
          · have he' : (eR != 0) = true := by simpa using he
            obtain rfl : E = 11 := by rw [HEE2.out, if_neg (fun h => he h.1)]
            obtain rfl : C = zeroC := by rw [HCC2.out, if_neg (fun h => he h.1)]
            clear he
            go_wp2_with fail
            refine bodyPost_ret (v := .tuple #[.agg #[.int .i64 0, .int .i64 0, .int .i64 0, .bool false, .int .i64 0, .int .u64 0, .int .i64 0], .int .i64 11]) (by simp [results, Tryd.results13, go_sem, z0, z1, z2, z3, z4, z5, z6]) rfl ⟨rfl, ?_⟩
            exact same7 HS6.out _ _ _ _ _ _ _
  · have hE : parseE bs = 3 ∧ parseC bs = zeroC := by unfold parseE parseC; rw [if_neg h16, if_neg h16]; exact ⟨rfl, rfl⟩
    have hzc : zeroC.cells = #[.int .i64 0, .int .i64 0, .int .i64 0, .bool false, .int .i64 0, .int .u64 0, .int .i64 0] := rfl
    rw [hE.1, hE.2, hzc]
    obtain ⟨A, cap, rfl, k1, k2, _⟩ := id h
    have hne : ((bs.length : Int) != 16) = true := by simp; omega
    clear h16 hE hzc h hT
    go_enter Tryd.func13, Tryd.ntmps13
    go_wp2_with fail
    exact bodyPost_ret (v := .tuple #[.agg #[.int .i64 0, .int .i64 0, .int .i64 0, .bool false, .int .i64 0, .int .u64 0, .int .i64 0], .int .i64 3]) (by simp [results, Tryd.results13, go_sem]) rfl ⟨rfl, (Upd.refl _ w).alloc _⟩
end Go.Proofs.YtmaofhiapkfoaaaDoor
