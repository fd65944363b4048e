/- The walks of PutRanges. -/
import Derived.Test.YtmaofhiapkfoaaaDoorCdbT
namespace Go.Proofs.YtmaofhiapkfoaaaDoor
open Go.RowKit
set_option linter.unusedVariables false
set_option linter.unusedSimpArgs false
set_option maxRecDepth 20000
set_option maxHeartbeats 2000000
theorem wrL_len (bs : List UInt8) (e size n : Int) (h0 : 0 ≤ size) (h8 : size ≤ 8) : (wrL bs e size n).length ≤ bs.length + 8 := by
  unfold wrL
  split
  · rw [List.length_append, numB_length]; omega
  · omega
theorem putRanges_any (v : Value) (l : List Rg) (w : World) (h : Rdr w v 2 (l.flatMap rgC)) (hl : l.length ≤ 8796093022208) (hok : ∀ r ∈ l, Rg.ok r) :
    Calls Tryd.prog 28 #[v] w fun e w' => ∃ v', e = .returned (.tuple #[v', .int .i64 (prE l)]) ∧ Fresh w.heap.size w' v' (prL l) ∧ Same w w' := by
  obtain ⟨A, cap, rfl, k1, k2, hcells⟩ := rdr_rg h
  clear h
  have hmul : IntKind.i64.wrap (16 * (l.length : Int)) = 16 * (l.length : Int) := by rw [IntKind.wrap_i64]; omega
  by_cases h32 : 32 < l.length
  · have hE : prE l = 3 := by unfold prE; rw [if_pos h32]
    have hL : prL l = [] := by unfold prL; rw [hE]; rfl
    rw [hE, hL]
    have g0 : (32 : Int) < (l.length : Int) := by omega
    clear hE hL
    go_enter Tryd.func28, Tryd.ntmps28
    go_wp2_with fail
    go_ret2
    exact ⟨_, rfl, Fresh.nil _ _, Upd.refl _ w⟩
  · have g0 : ¬ ((32 : Int) < (l.length : Int)) := by omega
    have hpn := fun i hi h => pr_neg l i hi h
    have hpe := fun wr bs e (h : PR w wr l l.length bs e) => pr_end h h32
    generalize prE l = E at hpn hpe ⊢
    generalize prL l = L at hpn hpe ⊢
    have hw6 : IntKind.i64.wrap (16 * (l.length : Int) + 6) = 16 * (l.length : Int) + 6 := by rw [IntKind.wrap_i64]; omega
    have HC := Lib.hid hcells
    have HPN := Lib.hid hpn
    have HPE := Lib.hid hpe
    have HOK := Lib.hid hok
    have HN2 := Lib.hid (fun p v bs W (h : WObj w.heap.size W p v bs 0) hb hl2 => wnum_any p v bs 0 2 (16 * (l.length : Int) + 6) W h hb hl2 (by omega) (by omega))
    have HN3 := Lib.hid (fun p v bs W (h : WObj w.heap.size W p v bs 0) hb hl2 => wnum_any p v bs 0 2 (16 * (l.length : Int)) W h hb hl2 (by omega) (by omega))
    have HN4 := Lib.hid (fun p v bs e W (h : WObj w.heap.size W p v bs e) hb hl2 => wnum_any p v bs e 4 0 W h hb hl2 (by decide) (by decide))
    have H32 := Lib.hid h32
    clear hcells hpn hpe hok h32
    go_enter Tryd.func28, Tryd.ntmps28
    go_wp2_with fail
    refine (newWriter_any w).mono ?_
    rintro e w1 ⟨rfl, ho1, hs1⟩
    have HO1 := Lib.hid ho1
    have HS1 := Lib.hid hs1
    clear ho1 hs1
    go_wp2_with fail
    refine (HN2.out _ _ _ _ HO1.out HS1.out.size (by simp)).mono ?_
    rintro e w2 ⟨rfl, v2, ho2, u2, _⟩
    rw [(wr2 [] (16 * (l.length : Int) + 6) (by omega) (by have := H32.out; omega)).1, (wr2 [] (16 * (l.length : Int) + 6) (by omega) (by have := H32.out; omega)).2] at ho2
    have HO2 := Lib.hid ho2
    have HS2 := Lib.hid (Same.into HS1.out u2 (fun k hk => (HO1.out.foot k hk).1))
    clear ho2 u2
    go_wp2_with fail
    refine (HN3.out _ _ _ _ HO2.out HS2.out.size (by simp [numB_length])).mono ?_
    rintro e w3 ⟨rfl, v3, ho3, u3, _⟩
    rw [(wr2 [] (16 * (l.length : Int)) (by omega) (by have := H32.out; omega)).1, (wr2 _ (16 * (l.length : Int)) (by omega) (by have := H32.out; omega)).2] at ho3
    have HO3 := Lib.hid ho3
    have HS3 := Lib.hid (Same.into HS2.out u3 (fun k hk => (HO2.out.foot k hk).1))
    clear ho3 u3
    go_wp2_with fail
    refine (HN4.out _ _ _ _ _ HO3.out HS3.out.size (by simp [numB_length])).mono ?_
    rintro e w4 ⟨rfl, v4, ho4, u4, _⟩
    rw [(wr4z []).1, (wr4z _).2] at ho4
    have hpr : PR w w4 l 0 (headB l.length) 0 := ⟨⟨v4, ho4⟩, Same.into HS3.out u4 (fun k hk => (HO3.out.foot k hk).1), by rw [headB_length]; omega, rfl, fun _ => by simp, fun j hj h0 => by omega⟩
    have HPR := Lib.hid hpr
    clear ho4 u4 hpr HO1 HO2 HO3 HS1 HS2 HS3 HN2 HN3 hmul hw6
    go_wp2_with fail
    go_loopw [26] (fun v26 wr => ∃ (i : Nat) (bs : List UInt8) (e : Int), i ≤ l.length ∧ v26 = .int .i64 i ∧ PR w wr l i bs e) (fun v26 _ => l.length - (intOf v26).toNat)
    case atStart => exact ⟨0, _, 0, by omega, rfl, HPR.out⟩
    case round =>
      obtain ⟨i, bs, e, hi, rfl, hpr⟩ := hrel
      by_cases hlt : i < l.length
      · have gi : (i : Int) < (l.length : Int) := by omega
        obtain ⟨b, off, rfl, c1, c2⟩ := HC.out i hlt
        have ho := HOK.out l[i] (List.getElem_mem hlt)
        obtain ⟨o1, o2⟩ := ho
        have hsame := hpr.2.1
        replace c1 := hsame.cell c1 id
        replace c2 := hsame.cell c2 id
        have HPI := Lib.hid hpr
        have HNL := Lib.hid (fun p v bs e W (h : WObj w.heap.size W p v bs e) hb hl2 => wnum_any p v bs e 8 (i64w l[i].1) W h hb hl2 (i64w_range _).1 (i64w_range _).2)
        have HNN := Lib.hid (fun p v bs e W (h : WObj w.heap.size W p v bs e) hb hl2 => wnum_any p v bs e 4 l[i].2 W h hb hl2 o2.1 o2.2)
        have HSTEP := Lib.hid (fun w' v (hN : 0 ≤ l[i].2) => pr_step (w' := w') (v := v) hpr hlt hN)
        have HNEG := Lib.hid (fun h => HPN.out i hlt (.inl h))
        have h32 := H32.out
        generalize l[i].1 = lba at c1 HNL HSTEP o1
        generalize l[i].2 = N at c2 HNN HSTEP HNEG o2
        clear hpr hsame
        by_cases hN : N < 0
        · obtain ⟨rfl, rfl⟩ := HNEG.out hN
          clear HNEG HSTEP h32
          go_wp2_with fail
          go_ret2
          exact ⟨_, rfl, Fresh.nil _ _, HPI.out.2.1.alloc _⟩
        · have hN0 : 0 ≤ N := by omega
          have hN1 : decide (N < 0) = false := by simp; omega
          obtain ⟨⟨v0, ho0⟩, hs0, hl0, hrest⟩ := HPI.out
          clear hrest
          have HO0 := Lib.hid (ho0.upd ((Upd.refl (fun _ => False) wr).alloc (.cells #[.int .u64 lba, .int .i64 N] 101)) (fun _ _ h => h))
          have HS0 := Lib.hid (hs0.alloc (.cells #[.int .u64 lba, .int .i64 N] 101))
          have HL0 := Lib.hid hl0
          have HRM0 := Lib.hid (fun k (hk : room v0 = some k) => (ho0.2.2.1.ge k hk).2)
          have i32 : i < 32 := by omega
          clear ho0 hs0 hl0 hN
          go_wp2_with fail
          refine (HNL.out _ _ _ _ _ HO0.out HS0.out.size (by have := HL0.out; omega)).mono ?_
          rintro e1 w5 ⟨rfl, v5, ho5, u5, _⟩
          have HO5 := Lib.hid ho5
          have HS5 := Lib.hid (Same.into HS0.out u5 (fun k hk => (HO0.out.foot k hk).1))
          have hnf : ¬ foot w.heap.size v0 wr.heap.size := fun hk => by
            obtain ⟨⟨v9, h9⟩, _⟩ := HPI.out
            rcases hk with hk | hk
            · have := h9.2.1.lt; omega
            · have := (HO0.out.2.2.1.ge _ hk).2
              have := HRM0.out _ hk
              omega
          have cN : w5.cell? ⟨wr.heap.size, 1, none⟩ = some (.int .i64 N) := u5.cell (by rw [cell_of_row _ _ 1 _ _ (0, 0) (heap_alloc_new wr _)]; rfl) hnf
          have HL5 := Lib.hid (wrL_len bs e 8 (i64w lba) (by omega) (by omega))
          clear ho5 u5 hnf
          go_wp2_with fail
          refine (HNN.out _ _ _ _ _ HO5.out HS5.out.size (by have := HL0.out; have := HL5.out; omega)).mono ?_
          rintro e2 w6 ⟨rfl, v6, ho6, u6, _⟩
          have HO6 := Lib.hid ho6
          have HS6 := Lib.hid (Same.into HS5.out u6 (fun k hk => (HO5.out.foot k hk).1))
          have HL6 := Lib.hid (wrL_len (wrL bs e 8 (i64w lba)) (wrE e 8 (i64w lba)) 4 N (by omega) (by omega))
          clear ho6 u6 cN
          go_wp2_with fail
          refine (HN4.out _ _ _ _ _ HO6.out HS6.out.size (by have := HL0.out; have := HL5.out; have := HL6.out; omega)).mono ?_
          rintro e3 w7 ⟨rfl, v7, ho7, u7, _⟩
          obtain ⟨bs', e', hpr'⟩ := HSTEP.out w7 v7 hN0 ho7 (Same.into HS6.out u7 (fun k hk => (HO6.out.foot k hk).1))
          have HPR' := Lib.hid hpr'
          clear ho7 u7 hpr' HSTEP HNEG HO0 HO5 HO6 HS0 HS5 HS6
          go_wp2_with fail
          go_roundw
          case rel => exact ⟨i + 1, bs', e', by omega, by go_num, HPR'.out⟩
          case measure => simp [intOf]; omega
      · obtain rfl : i = l.length := by omega
        obtain ⟨hE, hL⟩ := HPE.out wr bs e hpr
        obtain ⟨⟨v0, ho0⟩, hs0, hl0, hrest⟩ := hpr
        clear hrest
        have HO0 := Lib.hid ho0
        have HS0 := Lib.hid hs0
        have h32 := H32.out
        subst hE
        have HLL := Lib.hid hL
        clear ho0 hs0 hL HPE HPN
        go_wp2_with fail
        refine (wend_any _ _ _ _ _ HO0.out HS0.out.size (by omega)).mono ?_
        rintro e5 w5 ⟨v5, rfl, hf5, hs5⟩
        rw [HLL.out] at hf5
        have HF5 := Lib.hid (hf5.mono HS0.out.size)
        have HS5 := Lib.hid (Same.trans HS0.out hs5)
        clear hf5 hs5
        go_wp2_with fail
        go_ret2
        exact ⟨_, rfl, HF5.out, HS5.out⟩
theorem rputRanges_any (v : Value) (l : List Rg) (w : World) (h : Rdr w v 2 (l.flatMap rgC)) (hl : l.length ≤ 8796093022208) (hok : ∀ r ∈ l, Rg.ok r) :
    Calls Tryd.prog 30 #[v] w fun e w' => ∃ v', e = .returned (.tuple #[v', .int .i64 (prE l)]) ∧ Fresh w.heap.size w' v' (prL l) ∧ Same w w' := by
  obtain ⟨A, cap, rfl, k1, k2, hcells⟩ := rdr_rg h
  clear h
  by_cases h32 : 32 < l.length
  · have hE : prE l = 3 := by unfold prE; rw [if_pos h32]
    have hL : prL l = [] := by unfold prL; rw [hE]; rfl
    rw [hE, hL]
    have g0 : (32 : Int) < (l.length : Int) := by omega
    clear hE hL
    go_enter Tryd.func30, Tryd.ntmps30
    go_wp2_with fail
    go_ret2
    exact ⟨_, rfl, Fresh.nil _ _, Upd.refl _ w⟩
  · have g0 : ¬ ((32 : Int) < (l.length : Int)) := by omega
    have hpn := fun i hi h => pr_neg l i hi h
    have hpe := fun wr bs e (h : PR w wr l l.length bs e) => pr_end h h32
    generalize prE l = E at hpn hpe ⊢
    generalize prL l = L at hpn hpe ⊢
    have hmul : IntKind.i64.wrap (16 * (l.length : Int)) = 16 * (l.length : Int) := by rw [IntKind.wrap_i64]; omega
    have hw6 : IntKind.i64.wrap (6 + 16 * (l.length : Int)) = 6 + 16 * (l.length : Int) := by rw [IntKind.wrap_i64]; omega
    have HC := Lib.hid hcells
    have HPN := Lib.hid hpn
    have HPE := Lib.hid hpe
    have HOK := Lib.hid hok
    have HN2 := Lib.hid (fun p v bs W (h : WObj w.heap.size W p v bs 0) hb hl2 => rwnum_any p v bs 0 2 (6 + 16 * (l.length : Int)) W h hb hl2 (by omega) (by omega))
    have HN3 := Lib.hid (fun p v bs W (h : WObj w.heap.size W p v bs 0) hb hl2 => rwnum_any p v bs 0 2 (16 * (l.length : Int)) W h hb hl2 (by omega) (by omega))
    have HN4 := Lib.hid (fun p v bs e W (h : WObj w.heap.size W p v bs e) hb hl2 => rwnum_any p v bs e 4 0 W h hb hl2 (by decide) (by decide))
    have H32 := Lib.hid h32
    have HO1 : Hid (WObj w.heap.size (w.alloc (.cells #[.slice none 0 0, .int .i64 0] 99)) w.heap.size (.slice none 0 0) [] 0) := ⟨Nat.le_refl _, Cell2.new w _ _ _ _ rfl, Fresh.nil _ _, by simp [room]⟩
    have HS1 := Lib.hid ((Upd.refl (fun _ => False) w).alloc (.cells #[.slice none 0 0, .int .i64 0] 99))
    clear hcells hpn hpe hok h32
    go_enter Tryd.func30, Tryd.ntmps30
    go_wp2_with fail
    refine (HN2.out _ _ _ _ HO1.out (by simp) (by simp)).mono ?_
    rintro e w2 ⟨rfl, v2, ho2, u2, _⟩
    rw [show (6 + 16 * (l.length : Int)) = 16 * (l.length : Int) + 6 by omega, (wr2 [] (16 * (l.length : Int) + 6) (by omega) (by have := H32.out; omega)).1, (wr2 [] (16 * (l.length : Int) + 6) (by omega) (by have := H32.out; omega)).2] at ho2
    have HO2 := Lib.hid ho2
    have HS2 := Lib.hid (Same.into HS1.out u2 (fun k hk => (HO1.out.foot k hk).1))
    clear ho2 u2
    go_wp2_with fail
    refine (HN3.out _ _ _ _ HO2.out HS2.out.size (by simp [numB_length])).mono ?_
    rintro e w3 ⟨rfl, v3, ho3, u3, _⟩
    rw [(wr2 [] (16 * (l.length : Int)) (by omega) (by have := H32.out; omega)).1, (wr2 _ (16 * (l.length : Int)) (by omega) (by have := H32.out; omega)).2] at ho3
    have HO3 := Lib.hid ho3
    have HS3 := Lib.hid (Same.into HS2.out u3 (fun k hk => (HO2.out.foot k hk).1))
    clear ho3 u3
    go_wp2_with fail
    refine (HN4.out _ _ _ _ _ HO3.out HS3.out.size (by simp [numB_length])).mono ?_
    rintro e w4 ⟨rfl, v4, ho4, u4, _⟩
    rw [(wr4z []).1, (wr4z _).2] at ho4
    have hpr : PR w w4 l 0 (headB l.length) 0 := ⟨⟨v4, ho4⟩, Same.into HS3.out u4 (fun k hk => (HO3.out.foot k hk).1), by rw [headB_length]; omega, rfl, fun _ => by simp, fun j hj h0 => by omega⟩
    have HPR := Lib.hid hpr
    clear ho4 u4 hpr HO1 HO2 HO3 HS1 HS2 HS3 HN2 HN3 hmul hw6
    go_wp2_with fail
    go_loopw [5] (fun v5 wr => ∃ (i : Nat) (bs : List UInt8) (e : Int), i ≤ l.length ∧ v5 = .int .i64 i ∧ PR w wr l i bs e) (fun v5 _ => l.length - (intOf v5).toNat)
    case atStart => exact ⟨0, _, 0, by omega, rfl, HPR.out⟩
    case round =>
      obtain ⟨i, bs, e, hi, rfl, hpr⟩ := hrel
      by_cases hlt : i < l.length
      · have gi : (i : Int) < (l.length : Int) := by omega
        obtain ⟨b, off, rfl, c1w, c2w⟩ := HC.out i hlt
        obtain ⟨o1, o2⟩ := HOK.out l[i] (List.getElem_mem hlt)
        have hsame := hpr.2.1
        have c2 := hsame.cell c2w id
        have HPI := Lib.hid hpr
        have HNL := Lib.hid (fun p v bs e W (h : WObj w.heap.size W p v bs e) hb hl2 => rwnum_any p v bs e 8 (i64w l[i].1) W h hb hl2 (i64w_range _).1 (i64w_range _).2)
        have HNN := Lib.hid (fun p v bs e W (h : WObj w.heap.size W p v bs e) hb hl2 => rwnum_any p v bs e 4 l[i].2 W h hb hl2 o2.1 o2.2)
        have HSTEP := Lib.hid (fun w' v (hN : 0 ≤ l[i].2) => pr_step (w' := w') (v := v) hpr hlt hN)
        have HNEG := Lib.hid (fun h => HPN.out i hlt h)
        have h32 := H32.out
        generalize l[i].1 = lba at c1w HNL HSTEP o1
        generalize l[i].2 = N at c2 c2w HNN HSTEP HNEG o2
        have HC1 := Lib.hid c1w
        have HC2 := Lib.hid c2w
        clear hpr c1w c2w
        by_cases hN : N < 0
        · obtain ⟨rfl, rfl⟩ := HNEG.out (.inl hN)
          have hS := Lib.hid hsame
          clear HNEG HSTEP h32 hsame
          go_wp2_with fail
          go_ret2
          exact ⟨_, rfl, Fresh.nil _ _, hS.out⟩
        · by_cases hN4 : 4294967296 ≤ N
          · obtain ⟨rfl, rfl⟩ := HNEG.out (.inr hN4)
            have hS := Lib.hid hsame
            have hN1 : decide (N < 0) = false := by simp; omega
            have hN2 : decide (4294967296 ≤ N) = true := by simp; omega
            clear HNEG HSTEP h32 hsame
            go_wp2_with fail
            go_ret2
            exact ⟨_, rfl, Fresh.nil _ _, hS.out⟩
          · have hN0 : 0 ≤ N := by omega
            have hN1 : decide (N < 0) = false := by simp; omega
            have hN2 : decide (4294967296 ≤ N) = false := by simp; omega
            have c1 := hsame.cell HC1.out id
            obtain ⟨⟨v0, ho0⟩, hs0, hl0, hrest⟩ := HPI.out
            clear hrest
            have HO0 := Lib.hid ho0
            have HS0 := Lib.hid hs0
            have HL0 := Lib.hid hl0
            have i32 : i < 32 := by omega
            clear ho0 hs0 hl0 hN hN4 hsame
            go_wp2_with fail
            refine (HNL.out _ _ _ _ _ HO0.out HS0.out.size (by have := HL0.out; omega)).mono ?_
            rintro e1 w5 ⟨rfl, v5, ho5, u5, _⟩
            have HO5 := Lib.hid ho5
            have HS5 := Lib.hid (Same.into HS0.out u5 (fun k hk => (HO0.out.foot k hk).1))
            have HL5 := Lib.hid (wrL_len bs e 8 (i64w lba) (by omega) (by omega))
            replace c2 := HS5.out.cell HC2.out id
            clear ho5 u5 c1
            go_wp2_with fail
            refine (HNN.out _ _ _ _ _ HO5.out HS5.out.size (by have := HL0.out; have := HL5.out; omega)).mono ?_
            rintro e2 w6 ⟨rfl, v6, ho6, u6, _⟩
            have HO6 := Lib.hid ho6
            have HS6 := Lib.hid (Same.into HS5.out u6 (fun k hk => (HO5.out.foot k hk).1))
            have HL6 := Lib.hid (wrL_len (wrL bs e 8 (i64w lba)) (wrE e 8 (i64w lba)) 4 N (by omega) (by omega))
            clear ho6 u6 c2
            go_wp2_with fail
            refine (HN4.out _ _ _ _ _ HO6.out HS6.out.size (by have := HL0.out; have := HL5.out; have := HL6.out; omega)).mono ?_
            rintro e3 w7 ⟨rfl, v7, ho7, u7, _⟩
            obtain ⟨bs', e', hpr'⟩ := HSTEP.out w7 v7 hN0 ho7 (Same.into HS6.out u7 (fun k hk => (HO6.out.foot k hk).1))
            have HPR' := Lib.hid hpr'
            clear ho7 u7 hpr' HSTEP HNEG HO0 HO5 HO6 HS0 HS5 HS6
            go_wp2_with fail
            go_roundw
            case rel => exact ⟨i + 1, bs', e', by omega, by go_num, HPR'.out⟩
            case measure => simp [intOf]; omega
      · obtain rfl : i = l.length := by omega
        obtain ⟨hE, hL⟩ := HPE.out wr bs e hpr
        obtain ⟨⟨v0, ho0⟩, hs0, hl0, hrest⟩ := hpr
        clear hrest
        have HO0 := Lib.hid ho0
        have HS0 := Lib.hid hs0
        have h32 := H32.out
        subst hE
        have HLL := Lib.hid hL
        clear ho0 hs0 hL HPE HPN
        go_wp2_with fail
        refine (rwend_any _ _ _ _ _ HO0.out HS0.out.size (by omega)).mono ?_
        rintro e5 w5 ⟨v5, rfl, hf5, hs5⟩
        rw [HLL.out] at hf5
        have HF5 := Lib.hid (hf5.mono HS0.out.size)
        have HS5 := Lib.hid (Same.trans HS0.out hs5)
        clear hf5 hs5
        go_wp2_with fail
        go_ret2
        exact ⟨_, rfl, HF5.out, HS5.out⟩
end Go.Proofs.YtmaofhiapkfoaaaDoor
