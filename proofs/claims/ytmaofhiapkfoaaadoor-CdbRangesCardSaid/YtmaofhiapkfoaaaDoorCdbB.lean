/- cdb.Build. -/
import Derived.Test.YtmaofhiapkfoaaaDoorCdbV
import Derived.Test.YtmaofhiapkfoaaaDoorFieldW
import Derived.Test.YtmaofhiapkfoaaaDoorFieldR
namespace Go.Proofs.YtmaofhiapkfoaaaDoor
open Go.RowKit
set_option linter.unusedVariables false
set_option linter.unusedSimpArgs false
set_option maxRecDepth 20000
theorem index_val (c : Cmd) (W : World) (i : Nat) (hi : i < 6) : (Instr.index 67 (.agg (valA c)) (.int .i64 (i : Int))).run Tryd.prog W = .ok (.int .u64 (vN c i)) W := by
  rcases (show i = 0 ∨ i = 1 ∨ i = 2 ∨ i = 3 ∨ i = 4 ∨ i = 5 by omega) with rfl | rfl | rfl | rfl | rfl | rfl
  all_goals kernel_rfl
theorem zeros_at (n j : Nat) (hj : j < n) : at8 (List.replicate n 0) j = 0 := by simp [at8, List.getD_eq_getElem?_getD, hj]
theorem cell_lt' {w : World} {a : Addr} {v : Value} (h : w.cell? a = some v) : a.block < w.heap.size := World.block_lt_of_cell? w a h
theorem box7 (w : World) (t : TypeId) (a0 a1 a2 a3 a4 a5 a6 : Value) (w1 : World) (hs : Same (w.alloc (.cells #[a0, a1, a2, a3, a4, a5, a6] t)) w1) :
    w1.cell? ⟨w.heap.size, 0, none⟩ = some a0 ∧ w1.cell? ⟨w.heap.size, 1, none⟩ = some a1 ∧ w1.cell? ⟨w.heap.size, 2, none⟩ = some a2 ∧ w1.cell? ⟨w.heap.size, 3, none⟩ = some a3 ∧ w1.cell? ⟨w.heap.size, 4, none⟩ = some a4 ∧ w1.cell? ⟨w.heap.size, 5, none⟩ = some a5 ∧ w1.cell? ⟨w.heap.size, 6, none⟩ = some a6 := by
  have h : ∀ j, (w.alloc (.cells #[a0, a1, a2, a3, a4, a5, a6] t)).cell? ⟨w.heap.size, j, none⟩ = #[a0, a1, a2, a3, a4, a5, a6][j]? := fun j => cell_of_row _ _ j _ t (0, 0) (heap_alloc_new w _)
  exact ⟨hs.cell (h 0) id, hs.cell (h 1) id, hs.cell (h 2) id, hs.cell (h 3) id, hs.cell (h 4) id, hs.cell (h 5) id, hs.cell (h 6) id⟩
/-- The state of Build's loop behind i fields. -/
def BIn (w wr : World) (k : Nat) (v : Nat → Int) (p : Nat) (v5 : Value) (i : Nat) (o : Bool) : Prop :=
  Fresh w.heap.size wr v5 (bAt k v i) ∧ RowAt wr p k ∧ Same w wr ∧ o = anyB (fun j => oddB k j (v j)) i ∧ ∀ j, j < i → tooB k j (v j) = false
theorem bin_start {w w1 w2 : World} {k : Nat} {v : Nat → Int} {p : Nat} {op : Int} {W0 : World} (hW0 : W0 = w1.alloc (.cells (madeCells #[.int .u8 0] 16) 5)) (hfr : Own w.heap.size W0 (.slice (some ⟨w1.heap.size, 0, none⟩) 16 16) 1 ((List.replicate 16 (0 : UInt8)).map B))
    (hop : tb k 0 = op) (hob : 0 ≤ op ∧ op ≤ 255) (hrow : RowAt w1 p k) (hs1 : Same w w1) (hs2 : Same (W0.setCell ⟨w1.heap.size, 0, none⟩ (.int .u8 op)) w2) : BIn w w2 k v p (.slice (some ⟨w1.heap.size, 0, none⟩) 16 16) 0 false := by
  have h1 := Fresh.set (xs := List.replicate 16 0) hfr 0 (by decide) (UInt8.ofNat op.toNat) op (at8_one op hob.1 hob.2).symm
  simp only [Nat.zero_add] at h1
  obtain ⟨hf, hu, _⟩ := h1
  have e0 : (List.replicate 16 (0 : UInt8)).set 0 (UInt8.ofNat op.toNat) = bAt k v 0 := by unfold bAt; rw [hop]; rfl
  rw [e0] at hf
  have hp : p < w1.heap.size := cell_lt' (hrow 0 (by omega))
  have hr0 : RowAt W0 p k := by rw [hW0]; exact hrow.same ((Upd.refl _ w1).alloc _)
  have hr1 : RowAt (W0.setCell ⟨w1.heap.size, 0, none⟩ (.int .u8 op)) p k := fun j hj => hu.cell (hr0 j hj) (by show ¬ p = w1.heap.size; omega)
  have hsW : Same w W0 := by rw [hW0]; exact hs1.alloc _
  have hs3 : Same w (W0.setCell ⟨w1.heap.size, 0, none⟩ (.int .u8 op)) := hsW.setCell (p := ⟨w1.heap.size, 0, none⟩) (fun h => by have := hs1.size; simp at h; omega) _
  exact ⟨hf.same hs2, hr1.same hs2, Same.trans hs3 hs2, rfl, fun j hj => by omega⟩
theorem bin_none {w wr : World} {k : Nat} {v : Nat → Int} {p : Nat} {v5 : Value} {i : Nat} {o o' : Bool} (h : BIn w wr k v p v5 i o) (hs : pSz k i = 0) (ho : o' = (o || !(v i == 0))) (w' : World) (hw : Same wr w') : BIn w w' k v p v5 (i + 1) o' := by
  obtain ⟨h1, h2, h3, h4, h5⟩ := h
  refine ⟨?_, h2.same hw, Same.trans h3 hw, ?_, ?_⟩
  · unfold bAt; rw [if_pos hs]; exact h1.same hw
  · rw [ho, h4]; simp [anyB, oddB, hs]
  · intro j hj
    rcases Nat.lt_succ_iff_lt_or_eq.1 hj with h | rfl
    · exact h5 j h
    · simp [tooB, hs]
theorem bin_put {w wr w' : World} {k : Nat} {v : Nat → Int} {p : Nat} {v5 v5' : Value} {i : Nat} {o : Bool} (h : BIn w wr k v p v5 i o) (hs : ¬ pSz k i = 0) (hb : tooB k i (v i) = false) (hw : Same wr w')
    (hf : Fresh w.heap.size w' v5' (putL (bAt k v i) (pAt k i) (pSz k i) (v i))) : BIn w w' k v p v5' (i + 1) o := by
  obtain ⟨h1, h2, h3, h4, h5⟩ := h
  refine ⟨?_, h2.same hw, Same.trans h3 hw, ?_, ?_⟩
  · unfold bAt; rw [if_neg hs]; exact hf
  · rw [h4]; simp [anyB, oddB, hs]
  · intro j hj
    rcases Nat.lt_succ_iff_lt_or_eq.1 hj with h | rfl
    · exact h5 j h
    · exact hb
theorem bin_too {k i : Nat} {v : Nat → Int} (hi : i < 6) (h : tooB k i (v i) = true) : buildK k v = 3 := by
  unfold buildK
  rw [if_pos (anyB_true (f := fun i => tooB k i (v i)) hi h)]
theorem bin_end {w wr : World} {k : Nat} {v : Nat → Int} {p : Nat} {v5 : Value} {o : Bool} (h : BIn w wr k v p v5 6 o) : buildK k v = (if o then 11 else 0) ∧ Fresh w.heap.size wr v5 (bAt k v 6) ∧ Same w wr := by
  obtain ⟨h1, h2, h3, h4, h5⟩ := h
  refine ⟨?_, h1, h3⟩
  unfold buildK
  rw [anyB_of h5, ← h4]
  simp
theorem build_any (c : Cmd) (w : World) (h : c.ok) (hT : Tab15 w) :
    Calls Tryd.prog 9 #[.agg c.cells] w fun e w' => ∃ v', e = .returned (.tuple #[v', .int .i64 (cE c)]) ∧ Fresh w.heap.size w' v' (cL c) ∧ Same w w' := by
  have hf := fun w hT => find_any c.op w hT h.1.1 h.1.2
  have hv := fun w => values_any c w
  have hx := fun W i hi => index_val c W i hi
  have hr := fun i => vN_range c h i
  have hopr := h.1
  have hE0 : findK c.op = none → cE c = 1 ∧ cL c = [] := fun hk => by unfold cE cL buildE buildL; rw [hk]; exact ⟨rfl, rfl⟩
  have hE1 : ∀ k, findK c.op = some k → cE c = buildK k (vN c) ∧ cL c = if buildK k (vN c) = 0 then bAt k (vN c) 6 else [] := fun k hk => by unfold cE cL buildE buildL; rw [hk]; exact ⟨rfl, rfl⟩
  generalize cE c = E at hE0 hE1 ⊢
  generalize cL c = L at hE0 hE1 ⊢
  generalize valA c = V at hv hx
  generalize vN c = v at hx hr hE1
  unfold Cmd.cells at hv ⊢
  clear h
  obtain ⟨op, service, page, vital, typ, lba, len⟩ := c
  simp only at hf hopr hv hE0 hE1 ⊢
  have HF := Lib.hid hf
  have HV := Lib.hid hv
  have HX := Lib.hid hx
  have HR := Lib.hid hr
  have HT := Lib.hid hT
  have HE0 := Lib.hid hE0
  have HE1 := Lib.hid hE1
  clear hf hv hx hr hT hE0 hE1
  go_enter Tryd.func9, Tryd.ntmps9
  go_wp2_with fail
  refine (HF.out _ (HT.out.same ((Upd.refl _ w).alloc _))).mono ?_
  rintro e w1 ⟨hs1, ⟨hk, rfl⟩ | ⟨p, k, hk, rfl, hrow, hp⟩⟩
  · obtain ⟨rfl, rfl⟩ := HE0.out hk
    clear hk HE0 HE1
    go_wp2_with fail
    go_ret2
    exact ⟨_, rfl, Fresh.nil _ _, Same.trans ((Upd.refl (fun _ => False) w).alloc _) hs1⟩
  · obtain ⟨hk14, hko⟩ := findK_some hk
    obtain ⟨hE, hL⟩ := HE1.out k hk
    have hob := tb_i64 k hk14 0 (by omega)
    rw [hko] at hob
    have HE := Lib.hid hE
    have HL := Lib.hid hL
    have HROW := Lib.hid hrow
    have HP := Lib.hid hp
    have HKO := Lib.hid hko
    have hz1 : w.heap.size < w1.heap.size := by have := hs1.size; simp at this; omega
    obtain ⟨q0, q1, q2, q3, q4, q5, q6⟩ := box7 w 29 _ _ _ _ _ _ _ w1 hs1
    have HS1 := Lib.hid (Same.trans ((Upd.refl (fun _ => False) w).alloc _) hs1)
    clear hE hL hk hrow hp hko HE0 HE1 hs1
    have hmk := fun W => make_bytes (P := Tryd.prog) 25 5 Tryd.underlying25 (by kernel_rfl) 16 (by decide) W
    simp only [show ((16 : Nat) : Int) = 16 from rfl] at hmk
    have hfr0 := Own.lit w1 (madeCells #[.int .u8 0] 16) 5 ((List.replicate 16 (0 : UInt8)).map B) w1.heap.size 16 16 1 w.heap.size rfl (by omega) (fun j u hj => by
      obtain ⟨hj', rfl⟩ := B_get hj
      exact made_at 16 j (by simpa using hj')) (by simp) (by omega) (by omega) (by kernel_rfl)
    obtain ⟨hc00, hc01⟩ := Fresh.at_ (xs := List.replicate 16 0) hfr0 0 (by decide)
    rw [zeros_at 16 0 (by decide)] at hc00
    simp only [Nat.zero_add] at hc00 hc01
    have HFR0 := Lib.hid hfr0
    clear hfr0
    go_wp2_with (refine (HV.out _).mono ?_; rintro e w2 ⟨rfl, hs2⟩)
    have hst : BIn w w2 k v p (.slice (some ⟨w1.heap.size, 0, none⟩) 16 16) 0 false := bin_start rfl HFR0.out HKO.out hob HROW.out HS1.out (by simpa [go_sem] using hs2)
    clear hmk hc00 hc01 hs2 q0 q1 q2 q3 q4 q5 q6 hz1 HFR0 HROW HS1 HP HKO HV HF HT
    go_loopw [5, 6, 25] (fun v5 v6 v25 wr => ∃ (i : Nat) (o : Bool), i ≤ 6 ∧ v25 = .int .i64 i ∧ v6 = .bool o ∧ BIn w wr k v p v5 i o) (fun _ _ v25 _ => 6 - (intOf v25).toNat)
    case atStart => exact ⟨0, false, by omega, rfl, rfl, hst⟩
    case round =>
      obtain ⟨i, o, hi, rfl, rfl, hin⟩ := hrel
      clear hst
      by_cases hlt : i < 6
      · have g0 : (i : Int) < 6 := by omega
        have ix := fun W => HX.out W i hlt
        have d1 : wr.cell? ⟨p, 1 + i * 3, none⟩ = some (.int .i64 (pAt k i)) := by rw [show 1 + i * 3 = 3 * i + 1 by omega]; exact hin.2.1 (3 * i + 1) (by omega)
        have d2 : wr.cell? ⟨p, 1 + i * 3 + 1, none⟩ = some (.int .i64 (pSz k i)) := by rw [show 1 + i * 3 + 1 = 3 * i + 2 by omega]; exact hin.2.1 (3 * i + 2) (by omega)
        have d3 : wr.cell? ⟨p, 1 + i * 3 + 2, none⟩ = some (.int .i64 (pBt k i)) := by rw [show 1 + i * 3 + 2 = 3 * i + 3 by omega]; exact hin.2.1 (3 * i + 3) (by omega)
        have hpl := place_fit k hk14 i hlt
        obtain ⟨r1, r2⟩ := HR.out i
        have hlen := bAt_length k hk14 v i hi hin.2.2.2.2
        have hput := fun W h => put_bs u5 (bAt k v i) (pAt k i) (pSz k i) (v i) W h (by omega) (by omega) (by omega) (by omega) (by omega) r1 r2
        rw [hlen] at hput
        have hbs := hin.1
        by_cases hs : pSz k i = 0
        · have hnone := fun o' (ho : o' = (o || !(v i == 0))) => bin_none hin hs ho
          rw [hs] at d2
          clear hput hlen
          by_cases hn : v i = 0
          · rw [hn] at ix hnone
            have HN := Lib.hid hnone
            clear hnone hn hin hbs r1 r2 hs hpl
            cases o
            · go_wp2_with fail
              go_roundw
              case rel => exact ⟨i + 1, false, by omega, by go_num, rfl, HN.out _ (by simp) _ ((Upd.refl _ wr).alloc _)⟩
              case measure => simp [intOf]; omega
            · go_wp2_with fail
              go_roundw
              case rel => exact ⟨i + 1, true, by omega, by go_num, rfl, HN.out _ (by simp) _ ((Upd.refl _ wr).alloc _)⟩
              case measure => simp [intOf]; omega
          · have hne : (v i == 0) = false := by simpa using hn
            have hne' : (v i != 0) = true := by simpa using hn
            have HN := Lib.hid hnone
            clear hnone hin hbs r1 r2 hs hpl hn
            cases o
            · go_wp2_with fail
              go_roundw
              case rel => exact ⟨i + 1, true, by omega, by go_num, rfl, HN.out _ (by simp [hne]) _ ((Upd.refl _ wr).alloc _)⟩
              case measure => simp [intOf]; omega
            · go_wp2_with fail
              go_roundw
              case rel => exact ⟨i + 1, true, by omega, by go_num, rfl, HN.out _ (by simp) _ ((Upd.refl _ wr).alloc _)⟩
              case measure => simp [intOf]; omega
        · have hne : (pSz k i == 0) = false := by simpa using hs
          have hp : 1 ≤ pSz k i ∧ pSz k i ≤ 8 ∧ 1 ≤ pAt k i ∧ pAt k i + pSz k i ≤ 16 ∧ 0 ≤ pBt k i ∧ pBt k i ≤ 5 := by omega
          have hth : thereB 16 (pAt k i) (pSz k i) = true := by unfold thereB; simp; omega
          have hpe : putE 16 (pAt k i) (pSz k i) (v i) = if fitsB (v i) (pSz k i) then 0 else 3 := by unfold putE; rw [hth]; rfl
          rw [hpe] at hput
          have hpp := fun w' v5' => bin_put (w' := w') (v5' := v5') hin hs
          have hbase : w.heap.size ≤ wr.heap.size := hin.2.2.1.size
          have htoo : tooB k i (v i) = ((decide (0 < pBt k i) && !(v i / 2 ^ (pBt k i).toNat == 0)) || !fitsB (v i) (pSz k i)) := by unfold tooB; rw [hne]; simp
          have h3 : tooB k i (v i) = true → buildK k v = 3 := bin_too hlt
          have hsame := hin.2.2.1
          have hbsb := hbs.bs
          have HSM := Lib.hid hsame
          have HBS := Lib.hid hbsb
          have HBASE := Lib.hid hbase
          clear hin hbs hs hpl hth hpe hne hlen hsame hbsb hbase
          by_cases hb : 0 < pBt k i
          · have t1 : decide (0 < pBt k i) = true := by simpa using hb
            rw [t1, Bool.true_and] at htoo
            have HB5 : pBt k i < 64 := by omega
            by_cases hq : v i / 2 ^ (pBt k i).toNat = 0
            · have q1 : (v i / 2 ^ (pBt k i).toNat != 0) = false := by simpa using hq
              have q2 : (v i / 2 ^ (pBt k i).toNat == 0) = true := by simpa using hq
              rw [q2] at htoo
              cases hf : fitsB (v i) (pSz k i) with
              | true =>
                rw [hf] at htoo hput
                simp only [if_true] at hput
                have HPP := Lib.hid (fun w' v5' => hpp w' v5' (by rw [htoo]; rfl))
                have HPUT := Lib.hid hput
                clear hpp hput htoo h3 hf q2 r1 r2
                go_wp2_with fail
                refine (HPUT.out _ (HBS.out.same ((Upd.refl _ wr).alloc _))).mono ?_
                rintro e w3 ⟨v3, rfl, hf3, hs3⟩
                have hs4 := Same.trans ((Upd.refl (fun _ => False) wr).alloc _) hs3
                have hf4 := HPP.out w3 v3 hs4 (hf3.mono (by have := HBASE.out; simp; omega))
                have H4 := Lib.hid hf4
                clear hf3 hs3 hs4 hf4
                go_wp2_with fail
                go_roundw
                case rel => exact ⟨i + 1, o, by omega, by go_num, rfl, H4.out⟩
                case measure => simp [intOf]; omega
              | false =>
                rw [hf] at htoo hput
                simp only [Bool.false_eq_true, if_false] at hput
                have hB3 := h3 (by rw [htoo]; rfl)
                have HB3 := Lib.hid hB3
                have HPUT := Lib.hid hput
                clear hpp hput htoo h3 hf q2 r1 r2 hB3
                go_wp2_with fail
                refine (HPUT.out _ (HBS.out.same ((Upd.refl _ wr).alloc _))).mono ?_
                rintro e w3 ⟨v3, rfl, hf3, hs3⟩
                have hs4 := Same.trans ((Upd.refl (fun _ => False) wr).alloc _) hs3
                have H4 := Lib.hid hs4
                clear hf3 hs3 hs4
                have hE := HE.out
                have hL := HL.out
                rw [HB3.out] at hE hL
                simp only [show ((3 : Int) = 0) = False by simp, if_false] at hL
                subst hE hL
                clear HE HL
                go_wp2_with fail
                go_ret2
                exact ⟨_, rfl, Fresh.nil _ _, Same.trans HSM.out H4.out⟩
            · have q1 : (v i / 2 ^ (pBt k i).toNat != 0) = true := by simpa using hq
              have q2 : (v i / 2 ^ (pBt k i).toNat == 0) = false := by simpa using hq
              rw [q2] at htoo
              have hB3 := h3 (by rw [htoo]; rfl)
              have hE := HE.out
              have hL := HL.out
              rw [hB3] at hE hL
              simp only [show ((3 : Int) = 0) = False by simp, if_false] at hL
              subst hE hL
              clear hpp hput htoo h3 q2 r1 r2 hB3 hq HE HL
              go_wp2_with fail
              go_ret2
              exact ⟨_, rfl, Fresh.nil _ _, HSM.out.alloc _⟩
          · have t1 : decide (0 < pBt k i) = false := by simpa using hb
            rw [t1, Bool.false_and, Bool.false_or] at htoo
            cases hf : fitsB (v i) (pSz k i) with
            | true =>
              rw [hf] at htoo hput
              simp only [if_true] at hput
              have HPP := Lib.hid (fun w' v5' => hpp w' v5' (by rw [htoo]; rfl))
              have HPUT := Lib.hid hput
              clear hpp hput htoo h3 hf r1 r2
              go_wp2_with fail
              refine (HPUT.out _ (HBS.out.same ((Upd.refl _ wr).alloc _))).mono ?_
              rintro e w3 ⟨v3, rfl, hf3, hs3⟩
              have hs4 := Same.trans ((Upd.refl (fun _ => False) wr).alloc _) hs3
              have hf4 := HPP.out w3 v3 hs4 (hf3.mono (by have := HBASE.out; simp; omega))
              have H4 := Lib.hid hf4
              clear hf3 hs3 hs4 hf4
              go_wp2_with fail
              go_roundw
              case rel => exact ⟨i + 1, o, by omega, by go_num, rfl, H4.out⟩
              case measure => simp [intOf]; omega
            | false =>
              rw [hf] at htoo hput
              simp only [Bool.false_eq_true, if_false] at hput
              have hB3 := h3 (by rw [htoo]; rfl)
              have HB3 := Lib.hid hB3
              have HPUT := Lib.hid hput
              clear hpp hput htoo h3 hf r1 r2 hB3
              go_wp2_with fail
              refine (HPUT.out _ (HBS.out.same ((Upd.refl _ wr).alloc _))).mono ?_
              rintro e w3 ⟨v3, rfl, hf3, hs3⟩
              have hs4 := Same.trans ((Upd.refl (fun _ => False) wr).alloc _) hs3
              have H4 := Lib.hid hs4
              clear hf3 hs3 hs4
              have hE := HE.out
              have hL := HL.out
              rw [HB3.out] at hE hL
              simp only [show ((3 : Int) = 0) = False by simp, if_false] at hL
              subst hE hL
              clear HE HL
              go_wp2_with fail
              go_ret2
              exact ⟨_, rfl, Fresh.nil _ _, Same.trans HSM.out H4.out⟩
      · obtain rfl : i = 6 := by omega
        obtain ⟨b1, b2, b3⟩ := bin_end hin
        have hE := HE.out
        have hL := HL.out
        clear HE HL hin
        cases o
        · rw [b1] at hE hL
          simp only [Bool.false_eq_true, if_false, if_true] at hE hL
          subst hE hL
          clear b1
          go_wp2_with fail
          go_ret2
          exact ⟨_, rfl, b2, b3⟩
        · rw [b1] at hE hL
          simp only [if_true, show ((11 : Int) = 0) = False by simp, if_false] at hE hL
          subst hE hL
          clear b1
          go_wp2_with fail
          go_ret2
          exact ⟨_, rfl, Fresh.nil _ _, b3⟩
end Go.Proofs.YtmaofhiapkfoaaaDoor
