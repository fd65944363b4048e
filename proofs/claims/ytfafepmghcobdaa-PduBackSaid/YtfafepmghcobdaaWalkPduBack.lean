/- The walk of PduBack. -/
import Derived.Test.YtfafepmghcobdaaPduJ
import Derived.Test.YtfafepmghcobdaaPduI
import Derived.Test.YtfafepmghcobdaaGb
import Derived.Test.YtfafepmghcobdaaPduV
import Derived.Test.YtfafepmghcobdaaPduF0
import Derived.Test.YtfafepmghcobdaaOrdT
import Derived.Test.YtfafepmghcobdaaPduE
import Derived.Test.YtfafepmghcobdaaOpenPds
import Derived.Test.YtfafepmghcobdaaOpenN
import Derived.Test.YtfafepmghcobdaaOpenPd
import Derived.Deep.CutRange
import Derived.Deep.CutBlock
import Derived.Deep.Cut
import Derived.Deep.DeepCutAuto
import Derived.Deep.DrawnRows
namespace Go.Proofs.Ytfafepmghcobdaa
open Go.RowKit
set_option linter.unusedVariables false
set_option linter.unusedSimpArgs false
set_option maxRecDepth 100000
set_option maxHeartbeats 8000000
attribute [local go_sem ↓] Go.wp_at_zero Go.wp_at_succ
theorem hinfo_pdu : (Try.prog.info? 42).map (fun i => (i.zero, i.size, i.bytes)) = some (some (.agg #[.int .i64 0, .bool false, .int .i64 0, .int .i64 0, .int .i64 0, .int .u64 0, .int .u32 0, .int .u32 0, .int .u32 0, .int .u32 0, .int .u32 0, .int .u32 0, .int .u32 0, .int .u32 0, .slice none 0 0]), 15, 104) := by kernel_rfl
theorem pduBack_walk (w : World) (v : Value) (ls : List Pd) (hv : PdsAt w v ls) (o : Ag) (u : Value) (cuts : List Int) (hc : NumsAt w u cuts) :
    Calls Try.prog 3 #[v, agA o, u] w fun e w' => e = .returned (.bool true) ∧ Same w w' := by
  obtain ⟨A, cap, rfl, hlc, hcm, hels⟩ := hv
  have HKN := Lib.hid (fun W => known17_any W)
  have HOP := Lib.hid (fun W => opts_any o W)
  have HEL := Lib.hid hels
  have HCU := Lib.hid hc
  obtain ⟨Cu, ccap, rfl, hclc, hccm, hcels⟩ := hc
  have HCE := Lib.hid hcels
  have hb0 : BoxC (w.alloc (.cells #[.bool o.hs, .bool o.ds, .int .i64 o.most] 24)) w.heap.size (agC o) := BoxC.newAt w (agC o) 24 w.heap.size rfl
  have hs0 : Same w (w.alloc (.cells #[.bool o.hs, .bool o.ds, .int .i64 o.most] 24)) := (Upd.refl _ w).alloc _
  clear hels hcels
  unfold agA
  go_enter Try.func3, Try.ntmps3
  go_upto_region 1 with (fail)
  generalize w.alloc (.cells #[.bool o.hs, .bool o.ds, .int .i64 o.most] 24) = w0 at hb0 hs0 ⊢
  have c0 := hb0.1 0 _ rfl
  have c1 := hb0.1 1 _ rfl
  have c2 := hb0.1 2 _ rfl
  have HB0 := Lib.hid hb0
  have HS0 := Lib.hid hs0
  clear hb0 hs0
  go_wp2_with fail
  refine (HOP.out w0).mono ?_
  rintro e w1 ⟨rfl, hs1⟩
  have HS1 := Lib.hid (Same.trans HS0.out hs1)
  have HB1 := Lib.hid (HB0.out.upd (by simp [agC]) hs1 id)
  clear hs1 c0 c1 c2
  unfold agA
  go_wp2_with fail
  by_cases ho : o.right = true
  · refine (new_rd o ho (w.heap.size + 1) w1 (HB1.out.lt (by simp [agC]))).mono ?_
    rintro e w2 ⟨b1, rfl, hlb, hrd, hs2⟩
    have hbs : BS w w2 o b1 (.slice none 0 0) (.slice none 0 0) [] [] ⟨o, [], false⟩ := ⟨Same.trans HS1.out hs2, HB1.out.upd (by simp [agC]) hs2 id, ⟨_, hrd, fun k hk => ⟨by simp [room], by simp [room]⟩⟩, Fresh.nil _ _, Own.nil _ _ _, fun k hk => by simp [room] at hk, fun x hx => by simp at hx⟩
    have HBS := Lib.hid hbs
    clear hlb hrd hs2 hbs ho
    go_upto_block 0 with (fail)
    go_cut [9, 10, 11, 12, 13] from 46 to 86 (fun v9 v10 v11 v12 v13 wx => ∃ (qs : List (Pd × Value)) (Aa Aw : Option Addr) (na ca nw cw : Nat), v9 = .slice Aa na ca ∧ v10 = .slice Aw nw cw ∧ Hid (BS w wx o b1 (.slice Aa na ca) (.slice Aw nw cw) qs (encL o (qs.map (·.1))) ⟨o, [], false⟩ ∧ (encL o (qs.map (·.1))).length ≤ 131072 ∧ qs.length ≤ 8))
    case first =>
      go_wp2_with fail
      go_loopw [9, 10, 11] (fun v9 v10 v11 wr => ∃ (i : Nat) (qs : List (Pd × Value)) (Aa Aw : Option Addr) (na ca nw cw : Nat), i ≤ ls.length ∧ i ≤ 8 ∧ v11 = .int .i64 i ∧ v9 = .slice Aa na ca ∧ v10 = .slice Aw nw cw ∧ Hid (BS w wr o b1 (.slice Aa na ca) (.slice Aw nw cw) qs (encL o (qs.map (·.1))) ⟨o, [], false⟩ ∧ (encL o (qs.map (·.1))).length ≤ 131072 ∧ qs.length ≤ i)) (fun _ _ v11 _ => 8 - (intOf v11).toNat)
      case atStart => exact ⟨0, [], none, none, 0, 0, 0, 0, by omega, by omega, rfl, rfl, rfl, HBS.out, by simp [encL], Nat.le_refl _⟩
      case round =>
        obtain ⟨i, qs, Aa, Aw, na, ca, nw, cw, hi, hi8, rfl, rfl, rfl, hin⟩ := hrel
        by_cases hlt : i < ls.length ∧ i < 8
        · have g1 : (i : Int) < (ls.length : Int) := by omega
          have g2 : (i : Int) < 8 := by omega
          obtain ⟨lb, lo_, rfl, hac⟩ := HEL.out i hlt.1
          generalize ls[i]'hlt.1 = p at hac
          obtain ⟨Ap, np, cp, hcells, hok, hbp, hlp⟩ := hac
          have hnp := hbp.capL.1
          subst hnp
          have hlbs : lb < w.heap.size := World.block_lt_of_cell? w _ (hcells 0 _ rfl)
          have HCL := Lib.hid hcells
          have HOK := Lib.hid hok
          have HBP := Lib.hid hbp
          have hii : i < ls.length := hlt.1
          clear hcells hok hbp
          go_upto_region 9 with (fail)
          have HBS := Lib.hid hin.out.1
          have HLE := Lib.hid hin.out.2
          clear hin
          go_cut [12, 13] from 46 to 86 (fun v12 v13 wx => ∃ A5 n5 c5, v12 = .slice A5 n5 c5 ∧ v13 = .int .i64 (pduE p o) ∧ Fresh wr.heap.size wx (.slice A5 n5 c5) (pduL p o) ∧ Same wr wx)
          case first => as_aux_lemma =>
            have hS0 : (∀ j u, (pdC p (.slice Ap p.data.length cp))[j]? = some u → wr.drew.cell? ⟨lb, lo_ + i * 15 + j, none⟩ = some u) ∧ (∀ j u, (agC o)[j]? = some u → wr.drew.cell? ⟨w.heap.size, j, none⟩ = some u) := ⟨fun j u hj => HBS.out.same.drew.cell (HCL.out j u hj) id, fun j u hj => ((Upd.refl (fun _ => False) wr).drew).cell (HBS.out.opt.1 j u hj) id⟩
            have HW0 := Lib.hid HBS.out.same.drew
            refine wp_region_noPanic ?_
            refine wp_region_need (fun w' => (∀ j u, (pdC p (.slice Ap p.data.length cp))[j]? = some u → w'.cell? ⟨lb, lo_ + i * 15 + j, none⟩ = some u) ∧ (∀ j u, (agC o)[j]? = some u → w'.cell? ⟨w.heap.size, j, none⟩ = some u)) (fun _ => true) (by kernel_rfl) (fun hcl => ?_)
            refine wpAnyN_take (i := 0) (v := ?_) rfl (by as_aux_lemma => kernel_rfl) (by as_aux_lemma => kernel_rfl) (by as_aux_lemma => kernel_rfl) (by as_aux_lemma => kernel_rfl) (fun _ _ _ h => h) (by assumption) hS0 (Or.inl ⟨by rfl, ?_⟩) (fun hcl0 => ?_)
            rotate_left
            · (intro wS hSw; (obtain ⟨hSa, hSb⟩ := hSw); (have q0 := hSb 0 _ rfl); (have q1 := hSb 1 _ rfl); (have q2 := hSb 2 _ rfl); go_simp; (try with_reducible rfl))
            clear hcl
            try simp only [Act.put, List.getElem_toArray, List.getElem_cons_succ, List.getElem_cons_zero, List.setIfInBounds_toArray, List.set_cons_zero, List.set_cons_succ]
            refine wpAnyN_take (i := 1) (v := ?_) rfl (by as_aux_lemma => kernel_rfl) (by as_aux_lemma => kernel_rfl) (by as_aux_lemma => kernel_rfl) (by as_aux_lemma => kernel_rfl) (fun _ _ _ h => h) (by assumption) hS0 (Or.inl ⟨by rfl, ?_⟩) (fun hcl1 => ?_)
            rotate_left
            · (intro wS hSw; (obtain ⟨hSa, hSb⟩ := hSw); (have q0 := hSb 0 _ rfl); (have q1 := hSb 1 _ rfl); (have q2 := hSb 2 _ rfl); go_simp; (try with_reducible rfl))
            clear hcl0
            try simp only [Act.put, List.getElem_toArray, List.getElem_cons_succ, List.getElem_cons_zero, List.setIfInBounds_toArray, List.set_cons_zero, List.set_cons_succ]
            refine wpAnyN_take (i := 2) (v := ?_) rfl (by as_aux_lemma => kernel_rfl) (by as_aux_lemma => kernel_rfl) (by as_aux_lemma => kernel_rfl) (by as_aux_lemma => kernel_rfl) (fun _ _ _ h => h) (by assumption) hS0 (Or.inl ⟨by rfl, ?_⟩) (fun hcl2 => ?_)
            rotate_left
            · (intro wS hSw; (obtain ⟨hSa, hSb⟩ := hSw); (have q0 := hSb 0 _ rfl); (have q1 := hSb 1 _ rfl); (have q2 := hSb 2 _ rfl); go_simp; (try with_reducible rfl))
            clear hcl1
            try simp only [Act.put, List.getElem_toArray, List.getElem_cons_succ, List.getElem_cons_zero, List.setIfInBounds_toArray, List.set_cons_zero, List.set_cons_succ]
            refine wpAnyN_take (i := 3) (v := ?_) rfl (by as_aux_lemma => kernel_rfl) (by as_aux_lemma => kernel_rfl) (by as_aux_lemma => kernel_rfl) (by as_aux_lemma => kernel_rfl) (fun _ _ _ h => h) (by assumption) hS0 (Or.inl ⟨by rfl, ?_⟩) (fun hcl3 => ?_)
            rotate_left
            · (intro wS hSw; (obtain ⟨hSa, hSb⟩ := hSw); (have k0 := hSa 0 _ rfl); (have k1 := hSa 1 _ rfl); (have k2 := hSa 2 _ rfl); (have k3 := hSa 3 _ rfl); (have k4 := hSa 4 _ rfl); (have k5 := hSa 5 _ rfl); (have k6 := hSa 6 _ rfl); (have k7 := hSa 7 _ rfl); (have k8 := hSa 8 _ rfl); (have k9 := hSa 9 _ rfl); (have k10 := hSa 10 _ rfl); (have k11 := hSa 11 _ rfl); (have k12 := hSa 12 _ rfl); (have k13 := hSa 13 _ rfl); (have k14 := hSa 14 _ rfl); (try simp only [Nat.add_zero] at k0); (have q0 := hSb 0 _ rfl); (have q1 := hSb 1 _ rfl); (have q2 := hSb 2 _ rfl); go_simp; (try with_reducible rfl))
            clear hcl2
            try simp only [Act.put, List.getElem_toArray, List.getElem_cons_succ, List.getElem_cons_zero, List.setIfInBounds_toArray, List.set_cons_zero, List.set_cons_succ]
            refine wpAnyN_take (i := 5) (v := ?_) rfl (by as_aux_lemma => kernel_rfl) (by as_aux_lemma => kernel_rfl) (by as_aux_lemma => kernel_rfl) (by as_aux_lemma => kernel_rfl) (fun _ _ _ h => h) (by assumption) hS0 (Or.inl ⟨by rfl, ?_⟩) (fun hcl5 => ?_)
            rotate_left
            · (intro wS hSw; (obtain ⟨hSa, hSb⟩ := hSw); (have q0 := hSb 0 _ rfl); (have q1 := hSb 1 _ rfl); (have q2 := hSb 2 _ rfl); go_simp; (try with_reducible rfl))
            clear hcl3
            try simp only [Act.put, List.getElem_toArray, List.getElem_cons_succ, List.getElem_cons_zero, List.setIfInBounds_toArray, List.set_cons_zero, List.set_cons_succ]
            refine wpAnyN_oneC (i := 4) (by as_aux_lemma => kernel_rfl) rfl (by assumption) (fun hcl4 K' hK' => ?_)
            clear hcl5
            go_simp
            go_at_call 13
            refine (given_any p Ap p.data.length cp _ (HBP.out.same HW0.out) hlp).mono ?_
            rintro e wg ⟨A1, n1, cp1, rfl, hfg, hsg⟩
            have HW1 := Lib.hid (Same.trans HW0.out hsg)
            have HR1 := Lib.hid (Same.trans ((Upd.refl (fun _ => False) wr).drew) hsg)
            have HFG := Lib.hid hfg
            have hS1 : (∀ j u, (pdC p (.slice Ap p.data.length cp))[j]? = some u → wg.cell? ⟨lb, lo_ + i * 15 + j, none⟩ = some u) ∧ (∀ j u, (agC o)[j]? = some u → wg.cell? ⟨w.heap.size, j, none⟩ = some u) := ⟨fun j u hj => hsg.cell (hS0.1 j u hj) id, fun j u hj => hsg.cell (hS0.2 j u hj) id⟩
            clear hfg hsg
            refine hK'.out _ _ (fun _ => hS1) ?_
            clear hK' K'
            try simp only [Act.put, List.getElem_toArray, List.getElem_cons_succ, List.getElem_cons_zero, List.setIfInBounds_toArray, List.set_cons_zero, List.set_cons_succ]
            refine wpAnyN_oneC (i := 6) (by as_aux_lemma => kernel_rfl) rfl (by assumption) (fun hcl6 K' hK' => ?_)
            clear hcl4
            go_simp
            go_at_call 10
            refine (opts_any o _).mono ?_
            rintro e wg2 ⟨rfl, hso⟩
            have HR2 := Lib.hid (Same.trans HR1.out hso)
            have HFG2 := Lib.hid (HFG.out.same hso)
            have hS2 : (∀ j u, (pdC p (.slice Ap p.data.length cp))[j]? = some u → wg2.cell? ⟨lb, lo_ + i * 15 + j, none⟩ = some u) ∧ (∀ j u, (agC o)[j]? = some u → wg2.cell? ⟨w.heap.size, j, none⟩ = some u) := ⟨fun j u hj => hso.cell (hS1.1 j u hj) id, fun j u hj => hso.cell (hS1.2 j u hj) id⟩
            clear hso
            refine hK'.out _ _ (fun _ => hS2) ?_
            clear hK' K'
            try simp only [Act.put, List.getElem_toArray, List.getElem_cons_succ, List.getElem_cons_zero, List.setIfInBounds_toArray, List.set_cons_zero, List.set_cons_succ]
            refine wpAnyN_oneC (i := 7) (by as_aux_lemma => kernel_rfl) rfl (by assumption) (fun hcl7 K' hK' => ?_)
            clear hcl6
            go_simp
            go_at_call 12
            refine (put_any p o A1 n1 cp1 HOK.out _ HFG2.out.bs).mono ?_
            rintro e wp ⟨v', rfl, hfp, hsp⟩
            have HR3 := Lib.hid (Same.trans HR2.out hsp)
            have HFP := Lib.hid (Fresh.mono hfp HR2.out.size)
            obtain ⟨A5, n5, cp5, rfl⟩ := Fresh.shape hfp
            have hS3 : (∀ j u, (pdC p (.slice Ap p.data.length cp))[j]? = some u → wp.cell? ⟨lb, lo_ + i * 15 + j, none⟩ = some u) ∧ (∀ j u, (agC o)[j]? = some u → wp.cell? ⟨w.heap.size, j, none⟩ = some u) := ⟨fun j u hj => hsp.cell (hS2.1 j u hj) id, fun j u hj => hsp.cell (hS2.2 j u hj) id⟩
            clear hfp hsp
            refine hK'.out _ _ (fun _ => hS3) ?_
            clear hK' K'
            try simp only [Act.put, List.getElem_toArray, List.getElem_cons_succ, List.getElem_cons_zero, List.setIfInBounds_toArray, List.set_cons_zero, List.set_cons_succ]
            refine wpAnyN_take (i := 8) (v := ?_) rfl (by as_aux_lemma => kernel_rfl) (by as_aux_lemma => kernel_rfl) (by as_aux_lemma => kernel_rfl) (by as_aux_lemma => kernel_rfl) (fun _ _ _ h => h) (by assumption) hS3 (Or.inl ⟨by rfl, ?_⟩) (fun hcl8 => ?_)
            rotate_left
            · (intro wS hSw; (obtain ⟨hSa, hSb⟩ := hSw); (have q0 := hSb 0 _ rfl); (have q1 := hSb 1 _ rfl); (have q2 := hSb 2 _ rfl); go_simp; (try with_reducible rfl))
            clear hcl7
            try simp only [Act.put, List.getElem_toArray, List.getElem_cons_succ, List.getElem_cons_zero, List.setIfInBounds_toArray, List.set_cons_zero, List.set_cons_succ]
            refine wpAnyN_take (i := 9) (v := ?_) rfl (by as_aux_lemma => kernel_rfl) (by as_aux_lemma => kernel_rfl) (by as_aux_lemma => kernel_rfl) (by as_aux_lemma => kernel_rfl) (fun _ _ _ h => h) (by assumption) hS3 (Or.inl ⟨by rfl, ?_⟩) (fun hcl9 => ?_)
            rotate_left
            · (intro wS hSw; (obtain ⟨hSa, hSb⟩ := hSw); (have q0 := hSb 0 _ rfl); (have q1 := hSb 1 _ rfl); (have q2 := hSb 2 _ rfl); go_simp; (try with_reducible rfl))
            clear hcl8
            try simp only [Act.put, List.getElem_toArray, List.getElem_cons_succ, List.getElem_cons_zero, List.setIfInBounds_toArray, List.set_cons_zero, List.set_cons_succ]
            refine wpAnyN_take (i := 10) (v := ?_) rfl (by as_aux_lemma => kernel_rfl) (by as_aux_lemma => kernel_rfl) (by as_aux_lemma => kernel_rfl) (by as_aux_lemma => kernel_rfl) (fun _ _ _ h => h) (by assumption) hS3 (Or.inl ⟨by rfl, ?_⟩) (fun hcl10 => ?_)
            rotate_left
            · (intro wS hSw; (obtain ⟨hSa, hSb⟩ := hSw); (have q0 := hSb 0 _ rfl); (have q1 := hSb 1 _ rfl); (have q2 := hSb 2 _ rfl); go_simp; (try with_reducible rfl))
            clear hcl9
            try simp only [Act.put, List.getElem_toArray, List.getElem_cons_succ, List.getElem_cons_zero, List.setIfInBounds_toArray, List.set_cons_zero, List.set_cons_succ]
            refine wpAnyN_take (i := 11) (v := ?_) rfl (by as_aux_lemma => kernel_rfl) (by as_aux_lemma => kernel_rfl) (by as_aux_lemma => kernel_rfl) (by as_aux_lemma => kernel_rfl) (fun _ _ _ h => h) (by assumption) hS3 (Or.inl ⟨by rfl, ?_⟩) (fun hcl11 => ?_)
            rotate_left
            · (intro wS hSw; (obtain ⟨hSa, hSb⟩ := hSw); (have q0 := hSb 0 _ rfl); (have q1 := hSb 1 _ rfl); (have q2 := hSb 2 _ rfl); go_simp; (try with_reducible rfl))
            clear hcl10
            try simp only [Act.put, List.getElem_toArray, List.getElem_cons_succ, List.getElem_cons_zero, List.setIfInBounds_toArray, List.set_cons_zero, List.set_cons_succ]
            refine wpAnyN_take (i := 12) (v := ?_) rfl (by as_aux_lemma => kernel_rfl) (by as_aux_lemma => kernel_rfl) (by as_aux_lemma => kernel_rfl) (by as_aux_lemma => kernel_rfl) (fun _ _ _ h => h) (by assumption) hS3 (Or.inl ⟨by rfl, ?_⟩) (fun hcl12 => ?_)
            rotate_left
            · (intro wS hSw; (obtain ⟨hSa, hSb⟩ := hSw); (have q0 := hSb 0 _ rfl); (have q1 := hSb 1 _ rfl); (have q2 := hSb 2 _ rfl); go_simp; (try with_reducible rfl))
            clear hcl11
            try simp only [Act.put, List.getElem_toArray, List.getElem_cons_succ, List.getElem_cons_zero, List.setIfInBounds_toArray, List.set_cons_zero, List.set_cons_succ]
            refine wpAnyN_done (by as_aux_lemma => kernel_rfl) ?_ _
            refine NoPanic.normal ?_
            go_wp2_with fail
            go_meet
            exact ⟨_, _, _, rfl, rfl, HFP.out, HR3.out⟩
          case rest =>
          obtain ⟨A5, n5, c5, rfl, rfl, hf5, hs5⟩ := hcut
          have HF5 := Lib.hid hf5
          have HB5 := Lib.hid (HBS.out.same' hs5)
          have hna := HBS.out.all.len'
          subst hna
          have hn5 := hf5.len'
          subst hn5
          clear hf5 hs5
          have hLl := HLE.out.1
          by_cases hE : pduE p o = 0
          · have hL : pduL p o = rawL p o := by unfold pduL; rw [if_pos hE]
            have HE := Lib.hid hE
            rw [hE]
            rw [hL] at HF5 ⊢
            clear hE hL
            by_cases hfit : (encL o (qs.map (·.1))).length + (rawL p o).length ≤ 131072
            · have hfi : ((encL o (qs.map (·.1))).length : Int) + ((rawL p o).length : Int) ≤ 131072 := by omega
              have hsn : encL o (qs.map (·.1)) ++ rawL p o = encL o ((qs ++ [(p, Value.slice Ap p.data.length cp)]).map (·.1)) := by rw [List.map_append, List.map_cons, List.map_nil, encL_snoc]
              have HSN := Lib.hid hsn
              have HFIT := Lib.hid hfit
              clear hsn hfit
              go_upto_region 11 with (fail)
              go_upto_region 12 with (at_builtin; refine wpl_append_bytes rfl (.tmp 77) (.tmp 78) 33 rfl Try.underlying33 li5 (w.heap.size + 1) (.slice Aa (encL o (qs.map (·.1))).length ca) (.slice A5 (rawL p o).length c5) (encL o (qs.map (·.1))) (rawL p o) (encL o (qs.map (·.1)) ++ rawL p o) rfl rfl rfl HB5.out.all HF5.out.bs HB5.out.size (by omega) ?_; intro v6 w6 hf6 hu6 hr6; obtain ⟨A6, n6, c6, rfl⟩ := Fresh.shape hf6; have hb6 := HB5.out.app hf6 hu6 hr6; have HB6 := Lib.hid hb6; clear hf6 hu6 hr6 hb6)
              have k0 := HB6.out.same.cell (HCL.out 0 _ rfl) id
              simp only [Nat.add_zero] at k0
              have k1 := HB6.out.same.cell (HCL.out 1 _ rfl) id
              have k2 := HB6.out.same.cell (HCL.out 2 _ rfl) id
              have k3 := HB6.out.same.cell (HCL.out 3 _ rfl) id
              have k4 := HB6.out.same.cell (HCL.out 4 _ rfl) id
              have k5 := HB6.out.same.cell (HCL.out 5 _ rfl) id
              have k6 := HB6.out.same.cell (HCL.out 6 _ rfl) id
              have k7 := HB6.out.same.cell (HCL.out 7 _ rfl) id
              have k8 := HB6.out.same.cell (HCL.out 8 _ rfl) id
              have k9 := HB6.out.same.cell (HCL.out 9 _ rfl) id
              have k10 := HB6.out.same.cell (HCL.out 10 _ rfl) id
              have k11 := HB6.out.same.cell (HCL.out 11 _ rfl) id
              have k12 := HB6.out.same.cell (HCL.out 12 _ rfl) id
              have k13 := HB6.out.same.cell (HCL.out 13 _ rfl) id
              have k14 := HB6.out.same.cell (HCL.out 14 _ rfl) id
              have hwl := flat_pdC qs
              obtain ⟨_, _, _, hwe, hwn, -⟩ := HB6.out.want
              have hnw : nw = qs.length := by injection hwe with _ e2 _; subst e2; omega
              have HQL := Lib.hid HLE.out.2
              have hq8 : qs.length ≤ 8 := by have := HQL.out; omega
              clear hwe hwn
              go_wp2_with (at_builtin; refine wpl_append_own rfl (.tmp 80) (.tmp 85) 22 rfl Try.underlying22 hinfo_pdu rfl (by decide) (.slice Aw nw cw) (.slice (some ⟨w6.heap.size, 0, none⟩) 1 1) rfl rfl (HB6.out.want.same ((Upd.refl _ _).alloc _)) (Rdr.box w6 (pdC p (.slice Ap p.data.length cp)) _ _ _ rfl 15 rfl) (pdC_one _ _ _ _) (by have := HB6.out.size; simp; omega) qs.length 1 hwl rfl (by omega) (by omega) ?_; intro v7 w7 hf7 hu7 hr7; obtain ⟨A7, n7, c7, rfl, -⟩ := Own.open_ hf7; have HF7 := Lib.hid (And.intro hf7 (And.intro hu7 hr7)); clear hf7 hu7 hr7)
              have hq7 : ∀ x ∈ qs ++ [(p, Value.slice Ap p.data.length cp)], QOk w o x := fun x hx => by
                rcases List.mem_append.1 hx with hx | hx
                · exact HB6.out.oks x hx
                · obtain rfl := List.mem_singleton.1 hx
                  exact ⟨HOK.out, HE.out, ⟨_, _, _, rfl⟩, HBP.out⟩
              have hb7 := (HB6.out.same' ((Upd.refl (fun _ => False) w6).alloc _)).wapp (qs' := qs ++ [(p, Value.slice Ap p.data.length cp)]) (by have h9 := HF7.out.1; rw [List.flatMap_append]; simpa using h9) HF7.out.2.1 HF7.out.2.2 hq7
              rw [HSN.out] at hb7
              have HB7 := Lib.hid hb7
              clear hb7 hq7
              go_roundw
              case rel => exact ⟨i + 1, qs ++ [(p, Value.slice Ap p.data.length cp)], A6, A7, n6, c6, n7, c7, by omega, by omega, by go_num, rfl, rfl, HB7.out, by rw [← HSN.out, List.length_append]; exact HFIT.out, by simp; exact HQL.out⟩
              case measure => simp [intOf]; omega
            · obtain ⟨LA, hLA⟩ : ∃ LA, LA = (encL o (qs.map (·.1))).length := ⟨_, rfl⟩
              obtain ⟨LB, hLB⟩ : ∃ LB, LB = (rawL p o).length := ⟨_, rfl⟩
              rw [← hLA] at HB5 hfit hLl ⊢
              rw [← hLB] at HF5 hfit ⊢
              have HLA := Lib.hid hLA
              have HL := Lib.hid hLl
              have hfi : ¬ (LA : Int) + (LB : Int) ≤ 131072 := by omega
              have hLB2 : LB ≤ 9000000 := by rw [hLB, rawL_length HOK.out.2.2.1]; have := (pduE_zero HE.out).2.2.1; have := padN_lt p.data.length; split <;> split <;> omega
              clear hfit hLA hLB
              go_wp2_with fail
              go_roundw
              case rel => exact ⟨i + 1, qs, _, _, _, _, _, _, by omega, by omega, by go_num, rfl, rfl, HB5.out, by rw [← HLA.out]; exact HL.out, by have := HLE.out.2; omega⟩
              case measure => simp [intOf]; omega
          · have hE2 : (pduE p o == 0) = false := by simpa using hE
            generalize pduE p o = E at hE hE2 ⊢
            clear hE
            go_wp2_with fail
            go_roundw
            case rel => exact ⟨i + 1, qs, _, _, _, _, _, _, by omega, by omega, by go_num, rfl, rfl, HB5.out, hLl, by have := HLE.out.2; omega⟩
            case measure => simp [intOf]; omega
        · have g : ¬ ((i : Int) < (ls.length : Int) ∧ (i : Int) < 8) := by omega
          have HIN := Lib.hid hin.out
          clear hin
          go_wp2_with fail
          all_goals go_meet
          all_goals exact ⟨qs, _, _, _, _, _, _, rfl, rfl, HIN.out.1, HIN.out.2.1, by have := HIN.out.2.2; omega⟩
    case rest =>
      obtain ⟨qs, Aa, Aw, na, ca, nw, cw, rfl, rfl, hin⟩ := hcut
      have hst := BR.start hin.out.1 hin.out.2.1 hin.out.2.2
      have hna := hin.out.1.all.len'
      have hwl := flat_pdC qs
      obtain ⟨_, _, _, hwe, hwn, -⟩ := hin.out.1.want
      have hnw : nw = qs.length := by injection hwe with _ e2 _; subst e2; omega
      have hq8 : qs.length ≤ 8 := hin.out.2.2
      subst hnw
      clear hwe hwn hwl
      generalize encL o (qs.map (·.1)) = rest0 at hst hna
      subst hna
      have HST := Lib.hid hst
      clear hin hst HBS
      go_wp2_with fail
      go_loopw [9, 14, 15] (fun v9 v14 v15 wr => ∃ (i n : Nat) (b rest : List UInt8) (Aa : Option Addr) (ca : Nat), i ≤ 40 ∧ v9 = .slice Aa rest.length ca ∧ v14 = .int .i64 n ∧ v15 = .int .i64 i ∧ Hid (BR w wr o b1 (.slice Aa rest.length ca) (.slice Aw qs.length cw) qs n b rest ∧ BDone qs n b rest ∧ (31 ≤ i → rest = []))) (fun _ _ v15 _ => 40 - (intOf v15).toNat)
      case atStart => exact ⟨0, 0, [], rest0, Aa, ca, by omega, rfl, rfl, rfl, HST.out.1, HST.out.2, fun h => absurd h (by omega)⟩
      case round =>
        clear HST
        obtain ⟨i, n, b, rest, Aa, ca, hi, rfl, rfl, rfl, hin⟩ := hrel
        by_cases hlt : i < 40 ∧ 0 < rest.length
        · have g1 : (i : Int) < 40 := by omega
          have g2 : (0 : Int) < (rest.length : Int) := by omega
          have g3 : 0 < rest.length := hlt.2
          have HBR := Lib.hid hin.out.1
          have hlate : i ≤ 30 := by
            by_cases h : 31 ≤ i
            · have := hin.out.2.2 h
              rw [this] at g3
              simp at g3
            · omega
          clear hin hlt
          obtain ⟨F, hF⟩ : ∃ F, F = decide (i < cuts.length ∧ i < 30) := ⟨_, rfl⟩
          have HF := Lib.hid hF
          clear hF
          go_upto_region 18 with (fail)
          go_cut [105] from 87 to 179 (fun v105 wx => v105 = .bool F ∧ wr = wx)
          case first => as_aux_lemma =>
            by_cases h1 : i < cuts.length
            · by_cases h2 : i < 30
              · have g4 : (i : Int) < (cuts.length : Int) := by omega
                have g5 : (i : Int) < 30 := by omega
                have HG := Lib.hid (show Value.bool true = Value.bool F from by rw [HF.out, decide_eq_true ⟨h1, h2⟩])
                clear h1 h2
                go_wp2_with fail
                go_meet
                exact ⟨HG.out, rfl⟩
              · have g4 : (i : Int) < (cuts.length : Int) := by omega
                have g5 : ¬ (i : Int) < 30 := by omega
                have HG := Lib.hid (show Value.bool false = Value.bool F from by rw [HF.out, decide_eq_false (fun h => h2 h.2)])
                clear h1 h2
                go_wp2_with fail
                go_meet
                exact ⟨HG.out, rfl⟩
            · have g4 : ¬ (i : Int) < (cuts.length : Int) := by omega
              have HG := Lib.hid (show Value.bool false = Value.bool F from by rw [HF.out, decide_eq_false (fun h => h1 h.1)])
              clear h1
              go_wp2_with fail
              go_meet
              exact ⟨HG.out, rfl⟩
          case rest =>
          obtain ⟨rfl, rfl⟩ := hcut
          go_upto_if 105 with (fail)
          go_cut [16] from 87 to 179 (fun v16 wx => ∃ k : Nat, k ≤ rest.length ∧ (30 ≤ i → k = rest.length) ∧ v16 = .int .i64 k ∧ wr = wx)
          case first => as_aux_lemma =>
            cases F
            · go_wp2_with fail
              go_meet
              exact ⟨rest.length, Nat.le_refl _, fun _ => rfl, rfl, rfl⟩
            · have hc := of_decide_eq_true HF.out.symm
              have g4 : (i : Int) < (cuts.length : Int) := by omega
              have g5 : (i : Int) < 30 := by omega
              obtain ⟨bc, oc, rfl, hcc, hcr⟩ := HCE.out i hc.1
              have cc := HBR.out.bs.same.cell hcc id
              have hlen : rest.length ≤ 131072 := by have := HBR.out.len; omega
              generalize cuts.getD i 0 = z at cc hcr hcc
              have HCR := Lib.hid hcr
              clear hcc hcr
              go_wp2_with fail
              refine (count_any z ((rest.length : Int) + 1) _ (by omega) (by omega) HCR.out.1 HCR.out.2).mono ?_
              rintro e w' ⟨rfl, rfl⟩
              go_wp2_with fail
              go_meet
              have h1 := Int.emod_nonneg z (show ((rest.length : Int) + 1) ≠ 0 by omega)
              have h2 := Int.emod_lt_of_pos z (show (0 : Int) < (rest.length : Int) + 1 by omega)
              exact ⟨(z % ((rest.length : Int) + 1)).toNat, by omega, fun h => absurd hc.2 (by omega), by rw [Int.toNat_of_nonneg h1], rfl⟩
          case rest =>
          obtain ⟨k, hk, hk30, rfl, rfl⟩ := hcut
          have HK30 := Lib.hid hk30
          have hkc : k ≤ ca := by have := HBR.out.bs.all.cap; omega
          have hki : (k : Int) ≤ (rest.length : Int) := by omega
          have hki2 : (k : Int) ≤ (ca : Int) := by omega
          clear hk30
          go_wp2_with fail
          refine (HBR.out.feed k hk).mono ?_
          rintro e w3 ⟨rfl, hb3⟩
          have HB3 := Lib.hid hb3
          have hcap := hb3.all.cap
          clear hb3
          go_upto_region 22 with (fail)
          go_cut [9] from 87 to 179 (fun v9 wx => ∃ A' c', v9 = .slice A' (rest.drop k).length c' ∧ Hid (BR w wx o b1 (.slice A' (rest.drop k).length c') (.slice Aw qs.length cw) qs n (b ++ rest.take k) (rest.drop k)))
          case first => as_aux_lemma =>
            have HFB := Lib.hid (Fresh.dropB HB3.out.all k hk)
            have HRM := Lib.hid (room_back Aa rest.length (rest.length - k) ca k 1)
            simp only [Nat.mul_one] at HRM
            have HL := Lib.hid (List.length_drop (i := k) (l := rest))
            by_cases hca : ca = k
            · subst hca
              have hfb := HFB.out
              have hrm := HRM.out
              rw [if_pos rfl] at hfb
              simp only [if_true] at hrm
              have hst := HBR.out.cut ca HB3.out hfb hrm
              rw [Nat.sub_self, show rest.length - ca = 0 from by omega] at hst
              have HST := Lib.hid hst
              clear hst hfb hrm HFB HRM
              go_wp2_with fail
              go_meet
              exact ⟨_, 0, by rw [HL.out, show rest.length - ca = 0 from by omega], by rw [HL.out, show rest.length - ca = 0 from by omega]; exact HST.out⟩
            · have hfb := HFB.out
              have hrm := HRM.out
              rw [if_neg hca] at hfb
              simp only [if_neg hca] at hrm
              have hst := HBR.out.cut k HB3.out hfb hrm
              have HST := Lib.hid hst
              clear hst hfb hrm HFB HRM
              go_wp2_with fail
              go_meet
              exact ⟨_, _, by rw [HL.out], by rw [HL.out]; exact HST.out⟩
          case rest =>
          obtain ⟨A', c', rfl, hb4⟩ := hcut
          have hl30 : 30 ≤ i → rest.drop k = [] := fun h => by rw [HK30.out h]; exact List.drop_length
          have HL30 := Lib.hid hl30
          clear hl30 HK30 HB3 HBR hcap hki hki2 hkc hk g2 g3
          generalize b ++ rest.take k = b2 at hb4
          generalize rest.drop k = rest2 at hb4 HL30 ⊢
          have HB4 := Lib.hid hb4.out
          clear hb4
          go_wp2_with fail
          go_loopw [14, 17] (fun v14 v17 wr => ∃ (n j : Nat) (b : List UInt8), j ≤ n ∧ j ≤ 10 ∧ v14 = .int .i64 n ∧ v17 = .int .i64 j ∧ Hid (BR w wr o b1 (.slice A' rest2.length c') (.slice Aw qs.length cw) qs n b rest2)) (fun _ v17 _ => 10 - (intOf v17).toNat)
          case atStart => exact ⟨n, 0, b2, by omega, by omega, rfl, rfl, HB4.out⟩
          case round =>
            clear HB4
            obtain ⟨n, j, b, hjn, hj10, rfl, rfl, hin⟩ := hrel
            have hn8 : n ≤ 8 := by have := hin.out.nle; omega
            have g6 : (j : Int) < 10 := by omega
            go_wp2_with fail
            refine hin.out.next.mono ?_
            rintro e w4 (⟨A4, m4, c4, rfl, hb5, hd5⟩ | ⟨p, A6, m6, c6, A4, m4, c4, b6, hx, rfl, hbs4, hb5⟩)
            · have HB5 := Lib.hid hb5
              have HD5 := Lib.hid hd5
              clear hb5 hd5 hin
              unfold pdA
              go_wp2_with fail
              go_roundw
              case rel => exact ⟨i + 1, n, b, rest2, A', c', by omega, rfl, rfl, by go_num, HB5.out.same' ((Upd.refl _ _).alloc _), HD5.out, fun h => HL30.out (by omega)⟩
              case measure => simp [intOf]; omega
            · unfold pdA
              go_upto_region 28 with (fail)
              have hbx := BoxC.newAt w4 (pdC p (.slice A4 m4 c4)) 40 w4.heap.size rfl
              have hsx : Same w4 (w4.alloc (.cells #[.int .i64 p.op, .bool p.now, .int .i64 p.flags, .int .i64 p.b2, .int .i64 p.b3, .int .u64 p.lun, .int .u32 p.task, .int .u32 (wd p 0), .int .u32 (wd p 1), .int .u32 (wd p 2), .int .u32 (wd p 3), .int .u32 (wd p 4), .int .u32 (wd p 5), .int .u32 (wd p 6), .slice A4 m4 c4] 40)) := (Upd.refl _ _).alloc _
              simp only [pdC, List.toArray] at hbx
              generalize w4.alloc (.cells #[.int .i64 p.op, .bool p.now, .int .i64 p.flags, .int .i64 p.b2, .int .i64 p.b3, .int .u64 p.lun, .int .u32 p.task, .int .u32 (wd p 0), .int .u32 (wd p 1), .int .u32 (wd p 2), .int .u32 (wd p 3), .int .u32 (wd p 4), .int .u32 (wd p 5), .int .u32 (wd p 6), .slice A4 m4 c4] 40) = w5 at hbx hsx ⊢
              have hB5 : BoxAt w5 w4.heap.size p (.slice A4 m4 c4) := hbx.1
              generalize w4.heap.size = B5 at hB5 ⊢
              have hlt : n < qs.length := (List.getElem?_eq_some_iff.1 hx).1
              have hb6 := hb5.same' hsx
              obtain ⟨bw, ow, rfl, hcw⟩ := hb6.at_ hx
              obtain ⟨hok, hpe, -, hbd⟩ := hb6.bs.oks _ (List.mem_of_getElem? hx)
              dsimp only at hok hpe hbd
              have HB6 := Lib.hid hb6
              have HOK := Lib.hid hok
              have HPE := Lib.hid hpe
              have HBD := Lib.hid (hbd.same hb6.bs.same)
              have HB4 := Lib.hid (hbs4.same hsx)
              have HNS := Lib.hid (show NS3 w5 B5 p (.slice A4 m4 c4) bw (ow + n * 15) (.slice A6 m6 c6) w.heap.size o from ⟨hB5, hcw, hb6.bs.opt.1⟩)
              have g7 : (n : Int) < (qs.length : Int) := by omega
              have g8 : ¬ (qs.length : Int) ≤ (n : Int) := by omega
              clear hbx hsx hB5 hb6 hcw hok hpe hbd hbs4 hb5 hin hx
              go_cut [152] from 123 to 179 (fun v152 wx => v152 = .bool false ∧ Same w5 wx)
              case first => as_aux_lemma =>
                have hS0 := HNS.out.same (Upd.refl (fun _ => False) w5).drew
                refine wp_region_noPanic ?_
                refine wp_region_need (fun w' => NS3 w' B5 p (.slice A4 m4 c4) bw (ow + n * 15) (.slice A6 m6 c6) w.heap.size o) (fun _ => true) (by kernel_rfl) (fun hcl => ?_)
                refine wpAnyN_take (i := 0) (v := ?_) rfl (by as_aux_lemma => kernel_rfl) (by as_aux_lemma => kernel_rfl) (by as_aux_lemma => kernel_rfl) (by as_aux_lemma => kernel_rfl) (fun _ _ _ h => h) (by assumption) hS0 (Or.inl ⟨by rfl, ?_⟩) (fun hcl0 => ?_)
                rotate_left
                · (intro wS hSw; (try dsimp only at hSw); go_simp; (try with_reducible rfl))
                clear hcl
                try simp only [Act.put, List.getElem_toArray, List.getElem_cons_succ, List.getElem_cons_zero, List.setIfInBounds_toArray, List.set_cons_zero, List.set_cons_succ]
                refine wpAnyN_take (i := 1) (v := ?_) rfl (by as_aux_lemma => kernel_rfl) (by as_aux_lemma => kernel_rfl) (by as_aux_lemma => kernel_rfl) (by as_aux_lemma => kernel_rfl) (fun _ _ _ h => h) (by assumption) hS0 (Or.inl ⟨by rfl, ?_⟩) (fun hcl1 => ?_)
                rotate_left
                · (intro wS hSw; (try dsimp only at hSw); go_simp; (try with_reducible rfl))
                clear hcl0
                try simp only [Act.put, List.getElem_toArray, List.getElem_cons_succ, List.getElem_cons_zero, List.setIfInBounds_toArray, List.set_cons_zero, List.set_cons_succ]
                refine wpAnyN_take (i := 2) (v := ?_) rfl (by as_aux_lemma => kernel_rfl) (by as_aux_lemma => kernel_rfl) (by as_aux_lemma => kernel_rfl) (by as_aux_lemma => kernel_rfl) (fun _ _ _ h => h) (by assumption) hS0 (Or.inl ⟨by rfl, ?_⟩) (fun hcl2 => ?_)
                rotate_left
                · (intro wS hSw; (try dsimp only at hSw); go_simp; (try with_reducible rfl))
                clear hcl1
                try simp only [Act.put, List.getElem_toArray, List.getElem_cons_succ, List.getElem_cons_zero, List.setIfInBounds_toArray, List.set_cons_zero, List.set_cons_succ]
                refine wpAnyN_take (i := 3) (v := ?_) rfl (by as_aux_lemma => kernel_rfl) (by as_aux_lemma => kernel_rfl) (by as_aux_lemma => kernel_rfl) (by as_aux_lemma => kernel_rfl) (fun _ _ _ h => h) (by assumption) hS0 (Or.inl ⟨by rfl, ?_⟩) (fun hcl3 => ?_)
                rotate_left
                · (intro wS hSw; (try dsimp only at hSw); go_simp; (try with_reducible rfl))
                clear hcl2
                try simp only [Act.put, List.getElem_toArray, List.getElem_cons_succ, List.getElem_cons_zero, List.setIfInBounds_toArray, List.set_cons_zero, List.set_cons_succ]
                refine wpAnyN_take (i := 4) (v := ?_) rfl (by as_aux_lemma => kernel_rfl) (by as_aux_lemma => kernel_rfl) (by as_aux_lemma => kernel_rfl) (by as_aux_lemma => kernel_rfl) (fun _ _ _ h => h) (by assumption) hS0 (Or.inl ⟨by rfl, ?_⟩) (fun hcl4 => ?_)
                rotate_left
                · (intro wS hSw; (try dsimp only at hSw); go_simp; (try with_reducible rfl))
                clear hcl3
                try simp only [Act.put, List.getElem_toArray, List.getElem_cons_succ, List.getElem_cons_zero, List.setIfInBounds_toArray, List.set_cons_zero, List.set_cons_succ]
                refine wpAnyN_take (i := 5) (v := ?_) rfl (by as_aux_lemma => kernel_rfl) (by as_aux_lemma => kernel_rfl) (by as_aux_lemma => kernel_rfl) (by as_aux_lemma => kernel_rfl) (fun _ _ _ h => h) (by assumption) hS0 (Or.inl ⟨by rfl, ?_⟩) (fun hcl5 => ?_)
                rotate_left
                · (intro wS hSw; (try dsimp only at hSw); go_simp; (try with_reducible rfl))
                clear hcl4
                try simp only [Act.put, List.getElem_toArray, List.getElem_cons_succ, List.getElem_cons_zero, List.setIfInBounds_toArray, List.set_cons_zero, List.set_cons_succ]
                refine wpAnyN_take (i := 6) (v := ?_) rfl (by as_aux_lemma => kernel_rfl) (by as_aux_lemma => kernel_rfl) (by as_aux_lemma => kernel_rfl) (by as_aux_lemma => kernel_rfl) (fun _ _ _ h => h) (by assumption) hS0 (Or.inl ⟨by rfl, ?_⟩) (fun hcl6 => ?_)
                rotate_left
                · (intro wS hSw; (try dsimp only at hSw); go_simp; (try with_reducible rfl))
                clear hcl5
                try simp only [Act.put, List.getElem_toArray, List.getElem_cons_succ, List.getElem_cons_zero, List.setIfInBounds_toArray, List.set_cons_zero, List.set_cons_succ]
                refine wpAnyN_take (i := 7) (v := ?_) rfl (by as_aux_lemma => kernel_rfl) (by as_aux_lemma => kernel_rfl) (by as_aux_lemma => kernel_rfl) (by as_aux_lemma => kernel_rfl) (fun _ _ _ h => h) (by assumption) hS0 (Or.inl ⟨by rfl, ?_⟩) (fun hcl7 => ?_)
                rotate_left
                · (intro wS hSw; (try dsimp only at hSw); go_simp; (try with_reducible rfl))
                clear hcl6
                try simp only [Act.put, List.getElem_toArray, List.getElem_cons_succ, List.getElem_cons_zero, List.setIfInBounds_toArray, List.set_cons_zero, List.set_cons_succ]
                refine wpAnyN_take (i := 8) (v := ?_) rfl (by as_aux_lemma => kernel_rfl) (by as_aux_lemma => kernel_rfl) (by as_aux_lemma => kernel_rfl) (by as_aux_lemma => kernel_rfl) (fun _ _ _ h => h) (by assumption) hS0 (Or.inl ⟨by rfl, ?_⟩) (fun hcl8 => ?_)
                rotate_left
                · (intro wS hSw; (try dsimp only at hSw); go_simp; (try with_reducible rfl))
                clear hcl7
                try simp only [Act.put, List.getElem_toArray, List.getElem_cons_succ, List.getElem_cons_zero, List.setIfInBounds_toArray, List.set_cons_zero, List.set_cons_succ]
                refine wpAnyN_take (i := 9) (v := ?_) rfl (by as_aux_lemma => kernel_rfl) (by as_aux_lemma => kernel_rfl) (by as_aux_lemma => kernel_rfl) (by as_aux_lemma => kernel_rfl) (fun _ _ _ h => h) (by assumption) hS0 (Or.inl ⟨by rfl, ?_⟩) (fun hcl9 => ?_)
                rotate_left
                · (intro wS hSw; (obtain ⟨hSa, hSb, hSc⟩ := hSw); (have k0 := hSa 0 _ rfl); (have k1 := hSa 1 _ rfl); (have k2 := hSa 2 _ rfl); (have k3 := hSa 3 _ rfl); (have k4 := hSa 4 _ rfl); (have k5 := hSa 5 _ rfl); (have k6 := hSa 6 _ rfl); (have k7 := hSa 7 _ rfl); (have k8 := hSa 8 _ rfl); (have k9 := hSa 9 _ rfl); (have k10 := hSa 10 _ rfl); (have k11 := hSa 11 _ rfl); (have k12 := hSa 12 _ rfl); (have k13 := hSa 13 _ rfl); (have k14 := hSa 14 _ rfl); go_simp; (try with_reducible rfl))
                clear hcl8
                try simp only [Act.put, List.getElem_toArray, List.getElem_cons_succ, List.getElem_cons_zero, List.setIfInBounds_toArray, List.set_cons_zero, List.set_cons_succ]
                refine wpAnyN_take (i := 11) (v := ?_) rfl (by as_aux_lemma => kernel_rfl) (by as_aux_lemma => kernel_rfl) (by as_aux_lemma => kernel_rfl) (by as_aux_lemma => kernel_rfl) (fun _ _ _ h => h) (by assumption) hS0 (Or.inl ⟨by rfl, ?_⟩) (fun hcl11 => ?_)
                rotate_left
                · (intro wS hSw; (try dsimp only at hSw); go_simp; (try with_reducible rfl))
                clear hcl9
                try simp only [Act.put, List.getElem_toArray, List.getElem_cons_succ, List.getElem_cons_zero, List.setIfInBounds_toArray, List.set_cons_zero, List.set_cons_succ]
                refine wpAnyN_take (i := 12) (v := ?_) rfl (by as_aux_lemma => kernel_rfl) (by as_aux_lemma => kernel_rfl) (by as_aux_lemma => kernel_rfl) (by as_aux_lemma => kernel_rfl) (fun _ _ _ h => h) (by assumption) hS0 (Or.inl ⟨by rfl, ?_⟩) (fun hcl12 => ?_)
                rotate_left
                · (intro wS hSw; (try dsimp only at hSw); go_simp; (try with_reducible rfl))
                clear hcl11
                try simp only [Act.put, List.getElem_toArray, List.getElem_cons_succ, List.getElem_cons_zero, List.setIfInBounds_toArray, List.set_cons_zero, List.set_cons_succ]
                refine wpAnyN_take (i := 13) (v := ?_) rfl (by as_aux_lemma => kernel_rfl) (by as_aux_lemma => kernel_rfl) (by as_aux_lemma => kernel_rfl) (by as_aux_lemma => kernel_rfl) (fun _ _ _ h => h) (by assumption) hS0 (Or.inl ⟨by rfl, ?_⟩) (fun hcl13 => ?_)
                rotate_left
                · (intro wS hSw; (try dsimp only at hSw); go_simp; (try with_reducible rfl))
                clear hcl12
                try simp only [Act.put, List.getElem_toArray, List.getElem_cons_succ, List.getElem_cons_zero, List.setIfInBounds_toArray, List.set_cons_zero, List.set_cons_succ]
                refine wpAnyN_take (i := 14) (v := ?_) rfl (by as_aux_lemma => kernel_rfl) (by as_aux_lemma => kernel_rfl) (by as_aux_lemma => kernel_rfl) (by as_aux_lemma => kernel_rfl) (fun _ _ _ h => h) (by assumption) hS0 (Or.inl ⟨by rfl, ?_⟩) (fun hcl14 => ?_)
                rotate_left
                · (intro wS hSw; (obtain ⟨hSa, hSb, hSc⟩ := hSw); (have k0 := hSb 0 _ rfl); (have k1 := hSb 1 _ rfl); (have k2 := hSb 2 _ rfl); (have k3 := hSb 3 _ rfl); (have k4 := hSb 4 _ rfl); (have k5 := hSb 5 _ rfl); (have k6 := hSb 6 _ rfl); (have k7 := hSb 7 _ rfl); (have k8 := hSb 8 _ rfl); (have k9 := hSb 9 _ rfl); (have k10 := hSb 10 _ rfl); (have k11 := hSb 11 _ rfl); (have k12 := hSb 12 _ rfl); (have k13 := hSb 13 _ rfl); (have k14 := hSb 14 _ rfl); (try simp only [Nat.add_zero] at k0); go_simp; (try with_reducible rfl))
                clear hcl13
                try simp only [Act.put, List.getElem_toArray, List.getElem_cons_succ, List.getElem_cons_zero, List.setIfInBounds_toArray, List.set_cons_zero, List.set_cons_succ]
                refine wpAnyN_oneC (i := 10) (by as_aux_lemma => kernel_rfl) rfl (by assumption) (fun hcl10 K' hK' => ?_)
                clear hcl14
                go_simp
                go_at_call 18
                refine (taken_any p A4 m4 c4 _).mono ?_
                rintro e wt ⟨rfl, hst⟩
                have hS1 := hS0.same hst
                have HT1 := Lib.hid (Same.trans (Upd.refl (fun _ => False) w5).drew hst)
                clear hst
                unfold pdA
                refine hK'.out _ _ (fun _ => hS1) ?_
                clear hK' K'
                try simp only [Act.put, List.getElem_toArray, List.getElem_cons_succ, List.getElem_cons_zero, List.setIfInBounds_toArray, List.set_cons_zero, List.set_cons_succ]
                refine wpAnyN_oneC (i := 15) (by as_aux_lemma => kernel_rfl) rfl (by assumption) (fun hcl15 K' hK' => ?_)
                clear hcl10
                go_simp
                go_at_call 17
                refine (same_any p A4 A6 m4 m6 c4 c6 _ (HB4.out.same HT1.out) (HBD.out.same HT1.out)).mono ?_
                rintro e wt2 ⟨rfl, hst⟩
                have hS2 := hS1.same hst
                have HT2 := Lib.hid (Same.trans HT1.out hst)
                clear hst
                refine hK'.out _ _ (fun _ => hS2) ?_
                clear hK' K'
                try simp only [Act.put, List.getElem_toArray, List.getElem_cons_succ, List.getElem_cons_zero, List.setIfInBounds_toArray, List.set_cons_zero, List.set_cons_succ]
                refine wpAnyN_take (i := 16) (v := ?_) rfl (by as_aux_lemma => kernel_rfl) (by as_aux_lemma => kernel_rfl) (by as_aux_lemma => kernel_rfl) (by as_aux_lemma => kernel_rfl) (fun _ _ _ h => h) (by assumption) hS2 (Or.inl ⟨by rfl, ?_⟩) (fun hcl16 => ?_)
                rotate_left
                · (intro wS hSw; (try dsimp only at hSw); go_simp; (try with_reducible rfl))
                clear hcl15
                try simp only [Act.put, List.getElem_toArray, List.getElem_cons_succ, List.getElem_cons_zero, List.setIfInBounds_toArray, List.set_cons_zero, List.set_cons_succ]
                refine wpAnyN_take (i := 17) (v := ?_) rfl (by as_aux_lemma => kernel_rfl) (by as_aux_lemma => kernel_rfl) (by as_aux_lemma => kernel_rfl) (by as_aux_lemma => kernel_rfl) (fun _ _ _ h => h) (by assumption) hS2 (Or.inl ⟨by rfl, ?_⟩) (fun hcl17 => ?_)
                rotate_left
                · (intro wS hSw; (try dsimp only at hSw); go_simp; (try with_reducible rfl))
                clear hcl16
                try simp only [Act.put, List.getElem_toArray, List.getElem_cons_succ, List.getElem_cons_zero, List.setIfInBounds_toArray, List.set_cons_zero, List.set_cons_succ]
                refine wpAnyN_done (by as_aux_lemma => kernel_rfl) ?_ _
                refine NoPanic.normal ?_
                go_wp2_with fail
                go_meet
                exact ⟨rfl, HT2.out⟩
              case rest =>
              obtain ⟨rfl, hs7⟩ := hcut
              have HN7 := Lib.hid (HNS.out.same hs7)
              have HS7 := Lib.hid hs7
              clear hs7
              go_upto_region 30 with (fail)
              go_cut [21, 22] from 123 to 179 (fun v21 v22 wx => ∃ A n c, v21 = .slice A n c ∧ v22 = .int .i64 0 ∧ Bs wx (.slice A n c) (rawL p o) ∧ Same w5 wx)
              case first => as_aux_lemma =>
                have hS0 := HN7.out.same (Upd.refl (fun _ => False) wc).drew
                have HT0 := Lib.hid (Same.trans HS7.out (Upd.refl (fun _ => False) wc).drew)
                refine wp_region_noPanic ?_
                refine wp_region_need (fun w' => NS3 w' B5 p (.slice A4 m4 c4) bw (ow + n * 15) (.slice A6 m6 c6) w.heap.size o) (fun _ => true) (by kernel_rfl) (fun hcl => ?_)
                refine wpAnyN_take (i := 0) (v := ?_) rfl (by as_aux_lemma => kernel_rfl) (by as_aux_lemma => kernel_rfl) (by as_aux_lemma => kernel_rfl) (by as_aux_lemma => kernel_rfl) (fun _ _ _ h => h) (by assumption) hS0 (Or.inl ⟨by rfl, ?_⟩) (fun hcl0 => ?_)
                rotate_left
                · (intro wS hSw; (obtain ⟨hSa, hSb, hSc⟩ := hSw); (have k0 := hSa 0 _ rfl); (have k1 := hSa 1 _ rfl); (have k2 := hSa 2 _ rfl); (have k3 := hSa 3 _ rfl); (have k4 := hSa 4 _ rfl); (have k5 := hSa 5 _ rfl); (have k6 := hSa 6 _ rfl); (have k7 := hSa 7 _ rfl); (have k8 := hSa 8 _ rfl); (have k9 := hSa 9 _ rfl); (have k10 := hSa 10 _ rfl); (have k11 := hSa 11 _ rfl); (have k12 := hSa 12 _ rfl); (have k13 := hSa 13 _ rfl); (have k14 := hSa 14 _ rfl); go_simp; (try with_reducible rfl))
                clear hcl
                try simp only [Act.put, List.getElem_toArray, List.getElem_cons_succ, List.getElem_cons_zero, List.setIfInBounds_toArray, List.set_cons_zero, List.set_cons_succ]
                refine wpAnyN_take (i := 1) (v := ?_) rfl (by as_aux_lemma => kernel_rfl) (by as_aux_lemma => kernel_rfl) (by as_aux_lemma => kernel_rfl) (by as_aux_lemma => kernel_rfl) (fun _ _ _ h => h) (by assumption) hS0 (Or.inl ⟨by rfl, ?_⟩) (fun hcl1 => ?_)
                rotate_left
                · (intro wS hSw; (obtain ⟨hSa, hSb, hSc⟩ := hSw); (have q0 := hSc 0 _ rfl); (have q1 := hSc 1 _ rfl); (have q2 := hSc 2 _ rfl); go_simp; (try with_reducible rfl))
                clear hcl0
                try simp only [Act.put, List.getElem_toArray, List.getElem_cons_succ, List.getElem_cons_zero, List.setIfInBounds_toArray, List.set_cons_zero, List.set_cons_succ]
                refine wpAnyN_oneC (i := 2) (by as_aux_lemma => kernel_rfl) rfl (by assumption) (fun hcl2 K' hK' => ?_)
                clear hcl1
                go_simp
                go_at_call 10
                refine (opts_any o _).mono ?_
                rintro e wt ⟨rfl, hst⟩
                have hS1 := hS0.same hst
                have HT1 := Lib.hid (Same.trans HT0.out hst)
                clear hst
                refine hK'.out _ _ (fun _ => hS1) ?_
                clear hK' K'
                try simp only [Act.put, List.getElem_toArray, List.getElem_cons_succ, List.getElem_cons_zero, List.setIfInBounds_toArray, List.set_cons_zero, List.set_cons_succ]
                refine wpAnyN_oneC (i := 3) (by as_aux_lemma => kernel_rfl) rfl (by assumption) (fun hcl3 K' hK' => ?_)
                clear hcl2
                go_simp
                go_at_call 12
                refine (put_any p o A4 m4 c4 HOK.out _ (HB4.out.same HT1.out)).mono ?_
                rw [HPE.out, show pduL p o = rawL p o from by unfold pduL; rw [if_pos HPE.out]]
                rintro e wt2 ⟨v7, rfl, hf7, hst⟩
                obtain ⟨A7, n7, c7, rfl⟩ := Fresh.shape hf7
                have hS2 := hS1.same hst
                have HT2 := Lib.hid (Same.trans HT1.out hst)
                have HF7 := Lib.hid hf7.bs
                clear hst hf7
                refine hK'.out _ _ (fun _ => hS2) ?_
                clear hK' K'
                try simp only [Act.put, List.getElem_toArray, List.getElem_cons_succ, List.getElem_cons_zero, List.setIfInBounds_toArray, List.set_cons_zero, List.set_cons_succ]
                refine wpAnyN_take (i := 4) (v := ?_) rfl (by as_aux_lemma => kernel_rfl) (by as_aux_lemma => kernel_rfl) (by as_aux_lemma => kernel_rfl) (by as_aux_lemma => kernel_rfl) (fun _ _ _ h => h) (by assumption) hS2 (Or.inl ⟨by rfl, ?_⟩) (fun hcl4 => ?_)
                rotate_left
                · (intro wS hSw; (try dsimp only at hSw); go_simp; (try with_reducible rfl))
                clear hcl3
                try simp only [Act.put, List.getElem_toArray, List.getElem_cons_succ, List.getElem_cons_zero, List.setIfInBounds_toArray, List.set_cons_zero, List.set_cons_succ]
                refine wpAnyN_take (i := 5) (v := ?_) rfl (by as_aux_lemma => kernel_rfl) (by as_aux_lemma => kernel_rfl) (by as_aux_lemma => kernel_rfl) (by as_aux_lemma => kernel_rfl) (fun _ _ _ h => h) (by assumption) hS2 (Or.inl ⟨by rfl, ?_⟩) (fun hcl5 => ?_)
                rotate_left
                · (intro wS hSw; (try dsimp only at hSw); go_simp; (try with_reducible rfl))
                clear hcl4
                try simp only [Act.put, List.getElem_toArray, List.getElem_cons_succ, List.getElem_cons_zero, List.setIfInBounds_toArray, List.set_cons_zero, List.set_cons_succ]
                refine wpAnyN_take (i := 6) (v := ?_) rfl (by as_aux_lemma => kernel_rfl) (by as_aux_lemma => kernel_rfl) (by as_aux_lemma => kernel_rfl) (by as_aux_lemma => kernel_rfl) (fun _ _ _ h => h) (by assumption) hS2 (Or.inl ⟨by rfl, ?_⟩) (fun hcl6 => ?_)
                rotate_left
                · (intro wS hSw; (try dsimp only at hSw); go_simp; (try with_reducible rfl))
                clear hcl5
                try simp only [Act.put, List.getElem_toArray, List.getElem_cons_succ, List.getElem_cons_zero, List.setIfInBounds_toArray, List.set_cons_zero, List.set_cons_succ]
                refine wpAnyN_take (i := 7) (v := ?_) rfl (by as_aux_lemma => kernel_rfl) (by as_aux_lemma => kernel_rfl) (by as_aux_lemma => kernel_rfl) (by as_aux_lemma => kernel_rfl) (fun _ _ _ h => h) (by assumption) hS2 (Or.inl ⟨by rfl, ?_⟩) (fun hcl7 => ?_)
                rotate_left
                · (intro wS hSw; (try dsimp only at hSw); go_simp; (try with_reducible rfl))
                clear hcl6
                try simp only [Act.put, List.getElem_toArray, List.getElem_cons_succ, List.getElem_cons_zero, List.setIfInBounds_toArray, List.set_cons_zero, List.set_cons_succ]
                refine wpAnyN_take (i := 8) (v := ?_) rfl (by as_aux_lemma => kernel_rfl) (by as_aux_lemma => kernel_rfl) (by as_aux_lemma => kernel_rfl) (by as_aux_lemma => kernel_rfl) (fun _ _ _ h => h) (by assumption) hS2 (Or.inl ⟨by rfl, ?_⟩) (fun hcl8 => ?_)
                rotate_left
                · (intro wS hSw; (try dsimp only at hSw); go_simp; (try with_reducible rfl))
                clear hcl7
                try simp only [Act.put, List.getElem_toArray, List.getElem_cons_succ, List.getElem_cons_zero, List.setIfInBounds_toArray, List.set_cons_zero, List.set_cons_succ]
                refine wpAnyN_done (by as_aux_lemma => kernel_rfl) ?_ _
                refine NoPanic.normal ?_
                go_wp2_with fail
                go_meet
                exact ⟨_, _, _, rfl, rfl, HF7.out, HT2.out⟩
              case rest =>
              obtain ⟨A7, n7, c7, rfl, rfl, hf7, hs8⟩ := hcut
              have HF7 := Lib.hid hf7
              have HS8 := Lib.hid hs8
              have HN8 := Lib.hid (HNS.out.same hs8)
              clear hf7 hs8 HN7 HS7
              go_upto_region 31 with (fail)
              go_cut [23, 24] from 123 to 179 (fun v23 v24 wx => ∃ A n c, v23 = .slice A n c ∧ v24 = .int .i64 0 ∧ Bs wx (.slice A n c) (rawL p o) ∧ Same wc wx)
              case first => as_aux_lemma =>
                have hS0 := HN8.out.same (Upd.refl (fun _ => False) wc).drew
                have HT0 := Lib.hid (Same.trans HS8.out (Upd.refl (fun _ => False) wc).drew)
                refine wp_region_noPanic ?_
                refine wp_region_need (fun w' => NS3 w' B5 p (.slice A4 m4 c4) bw (ow + n * 15) (.slice A6 m6 c6) w.heap.size o) (fun _ => true) (by kernel_rfl) (fun hcl => ?_)
                refine wpAnyN_take (i := 0) (v := ?_) rfl (by as_aux_lemma => kernel_rfl) (by as_aux_lemma => kernel_rfl) (by as_aux_lemma => kernel_rfl) (by as_aux_lemma => kernel_rfl) (fun _ _ _ h => h) (by assumption) hS0 (Or.inl ⟨by rfl, ?_⟩) (fun hcl0 => ?_)
                rotate_left
                · (intro wS hSw; (try dsimp only at hSw); go_simp; (try with_reducible rfl))
                clear hcl
                try simp only [Act.put, List.getElem_toArray, List.getElem_cons_succ, List.getElem_cons_zero, List.setIfInBounds_toArray, List.set_cons_zero, List.set_cons_succ]
                refine wpAnyN_take (i := 1) (v := ?_) rfl (by as_aux_lemma => kernel_rfl) (by as_aux_lemma => kernel_rfl) (by as_aux_lemma => kernel_rfl) (by as_aux_lemma => kernel_rfl) (fun _ _ _ h => h) (by assumption) hS0 (Or.inl ⟨by rfl, ?_⟩) (fun hcl1 => ?_)
                rotate_left
                · (intro wS hSw; (try dsimp only at hSw); go_simp; (try with_reducible rfl))
                clear hcl0
                try simp only [Act.put, List.getElem_toArray, List.getElem_cons_succ, List.getElem_cons_zero, List.setIfInBounds_toArray, List.set_cons_zero, List.set_cons_succ]
                refine wpAnyN_take (i := 2) (v := ?_) rfl (by as_aux_lemma => kernel_rfl) (by as_aux_lemma => kernel_rfl) (by as_aux_lemma => kernel_rfl) (by as_aux_lemma => kernel_rfl) (fun _ _ _ h => h) (by assumption) hS0 (Or.inl ⟨by rfl, ?_⟩) (fun hcl2 => ?_)
                rotate_left
                · (intro wS hSw; (try dsimp only at hSw); go_simp; (try with_reducible rfl))
                clear hcl1
                try simp only [Act.put, List.getElem_toArray, List.getElem_cons_succ, List.getElem_cons_zero, List.setIfInBounds_toArray, List.set_cons_zero, List.set_cons_succ]
                refine wpAnyN_take (i := 3) (v := ?_) rfl (by as_aux_lemma => kernel_rfl) (by as_aux_lemma => kernel_rfl) (by as_aux_lemma => kernel_rfl) (by as_aux_lemma => kernel_rfl) (fun _ _ _ h => h) (by assumption) hS0 (Or.inl ⟨by rfl, ?_⟩) (fun hcl3 => ?_)
                rotate_left
                · (intro wS hSw; (obtain ⟨hSa, hSb, hSc⟩ := hSw); (have k0 := hSb 0 _ rfl); (have k1 := hSb 1 _ rfl); (have k2 := hSb 2 _ rfl); (have k3 := hSb 3 _ rfl); (have k4 := hSb 4 _ rfl); (have k5 := hSb 5 _ rfl); (have k6 := hSb 6 _ rfl); (have k7 := hSb 7 _ rfl); (have k8 := hSb 8 _ rfl); (have k9 := hSb 9 _ rfl); (have k10 := hSb 10 _ rfl); (have k11 := hSb 11 _ rfl); (have k12 := hSb 12 _ rfl); (have k13 := hSb 13 _ rfl); (have k14 := hSb 14 _ rfl); (try simp only [Nat.add_zero] at k0); go_simp; (try with_reducible rfl))
                clear hcl2
                try simp only [Act.put, List.getElem_toArray, List.getElem_cons_succ, List.getElem_cons_zero, List.setIfInBounds_toArray, List.set_cons_zero, List.set_cons_succ]
                refine wpAnyN_take (i := 4) (v := ?_) rfl (by as_aux_lemma => kernel_rfl) (by as_aux_lemma => kernel_rfl) (by as_aux_lemma => kernel_rfl) (by as_aux_lemma => kernel_rfl) (fun _ _ _ h => h) (by assumption) hS0 (Or.inl ⟨by rfl, ?_⟩) (fun hcl4 => ?_)
                rotate_left
                · (intro wS hSw; (obtain ⟨hSa, hSb, hSc⟩ := hSw); (have q0 := hSc 0 _ rfl); (have q1 := hSc 1 _ rfl); (have q2 := hSc 2 _ rfl); go_simp; (try with_reducible rfl))
                clear hcl3
                try simp only [Act.put, List.getElem_toArray, List.getElem_cons_succ, List.getElem_cons_zero, List.setIfInBounds_toArray, List.set_cons_zero, List.set_cons_succ]
                refine wpAnyN_oneC (i := 5) (by as_aux_lemma => kernel_rfl) rfl (by assumption) (fun hcl5 K' hK' => ?_)
                clear hcl4
                go_simp
                go_at_call 19
                refine (rput_any p o A6 m6 c6 HOK.out _ (HBD.out.same HT0.out)).mono ?_
                rw [HPE.out, show pduL p o = rawL p o from by unfold pduL; rw [if_pos HPE.out]]
                rintro e wt2 ⟨v7, rfl, hf8, hst⟩
                obtain ⟨A8, n8, c8, rfl⟩ := Fresh.shape hf8
                have hS1 := hS0.same hst
                have HT1 := Lib.hid (Same.trans (Upd.refl (fun _ => False) wc).drew hst)
                have HF8 := Lib.hid hf8.bs
                clear hst hf8
                refine hK'.out _ _ (fun _ => hS1) ?_
                clear hK' K'
                try simp only [Act.put, List.getElem_toArray, List.getElem_cons_succ, List.getElem_cons_zero, List.setIfInBounds_toArray, List.set_cons_zero, List.set_cons_succ]
                refine wpAnyN_take (i := 6) (v := ?_) rfl (by as_aux_lemma => kernel_rfl) (by as_aux_lemma => kernel_rfl) (by as_aux_lemma => kernel_rfl) (by as_aux_lemma => kernel_rfl) (fun _ _ _ h => h) (by assumption) hS1 (Or.inl ⟨by rfl, ?_⟩) (fun hcl6 => ?_)
                rotate_left
                · (intro wS hSw; (try dsimp only at hSw); go_simp; (try with_reducible rfl))
                clear hcl5
                try simp only [Act.put, List.getElem_toArray, List.getElem_cons_succ, List.getElem_cons_zero, List.setIfInBounds_toArray, List.set_cons_zero, List.set_cons_succ]
                refine wpAnyN_take (i := 7) (v := ?_) rfl (by as_aux_lemma => kernel_rfl) (by as_aux_lemma => kernel_rfl) (by as_aux_lemma => kernel_rfl) (by as_aux_lemma => kernel_rfl) (fun _ _ _ h => h) (by assumption) hS1 (Or.inl ⟨by rfl, ?_⟩) (fun hcl7 => ?_)
                rotate_left
                · (intro wS hSw; (try dsimp only at hSw); go_simp; (try with_reducible rfl))
                clear hcl6
                try simp only [Act.put, List.getElem_toArray, List.getElem_cons_succ, List.getElem_cons_zero, List.setIfInBounds_toArray, List.set_cons_zero, List.set_cons_succ]
                refine wpAnyN_take (i := 8) (v := ?_) rfl (by as_aux_lemma => kernel_rfl) (by as_aux_lemma => kernel_rfl) (by as_aux_lemma => kernel_rfl) (by as_aux_lemma => kernel_rfl) (fun _ _ _ h => h) (by assumption) hS1 (Or.inl ⟨by rfl, ?_⟩) (fun hcl8 => ?_)
                rotate_left
                · (intro wS hSw; (try dsimp only at hSw); go_simp; (try with_reducible rfl))
                clear hcl7
                try simp only [Act.put, List.getElem_toArray, List.getElem_cons_succ, List.getElem_cons_zero, List.setIfInBounds_toArray, List.set_cons_zero, List.set_cons_succ]
                refine wpAnyN_take (i := 9) (v := ?_) rfl (by as_aux_lemma => kernel_rfl) (by as_aux_lemma => kernel_rfl) (by as_aux_lemma => kernel_rfl) (by as_aux_lemma => kernel_rfl) (fun _ _ _ h => h) (by assumption) hS1 (Or.inl ⟨by rfl, ?_⟩) (fun hcl9 => ?_)
                rotate_left
                · (intro wS hSw; (try dsimp only at hSw); go_simp; (try with_reducible rfl))
                clear hcl8
                try simp only [Act.put, List.getElem_toArray, List.getElem_cons_succ, List.getElem_cons_zero, List.setIfInBounds_toArray, List.set_cons_zero, List.set_cons_succ]
                refine wpAnyN_take (i := 10) (v := ?_) rfl (by as_aux_lemma => kernel_rfl) (by as_aux_lemma => kernel_rfl) (by as_aux_lemma => kernel_rfl) (by as_aux_lemma => kernel_rfl) (fun _ _ _ h => h) (by assumption) hS1 (Or.inl ⟨by rfl, ?_⟩) (fun hcl10 => ?_)
                rotate_left
                · (intro wS hSw; (try dsimp only at hSw); go_simp; (try with_reducible rfl))
                clear hcl9
                try simp only [Act.put, List.getElem_toArray, List.getElem_cons_succ, List.getElem_cons_zero, List.setIfInBounds_toArray, List.set_cons_zero, List.set_cons_succ]
                refine wpAnyN_done (by as_aux_lemma => kernel_rfl) ?_ _
                refine NoPanic.normal ?_
                go_wp2_with fail
                go_meet
                exact ⟨_, _, _, rfl, rfl, HF8.out, HT1.out⟩
              case rest =>
              obtain ⟨A8, n8, c8, rfl, rfl, hf8, hs9⟩ := hcut
              have cv1 := conv_bs (P := Try.prog) (src := 33) (dst := 9) Try.underlying33 Try.underlying5 Try.underlying9 (HF7.out.same hs9)
              have cv2 := conv_bs (P := Try.prog) (src := 33) (dst := 9) Try.underlying33 Try.underlying5 Try.underlying9 hf8
              have HB9 := Lib.hid ((HB6.out.same' HS8.out).same' hs9)
              clear hf8 hs9 HN8 HS8 HB6
              go_wp2_with fail
              go_roundw
              case rel => exact ⟨n + 1, j + 1, b6, by omega, by omega, by go_num, by go_num, HB9.out⟩
              case measure => simp [intOf]; omega
        · have g : ¬ ((i : Int) < 40 ∧ (0 : Int) < (rest.length : Int)) := by omega
          have hr0 : rest = [] := by
            by_cases h : rest.length = 0
            · exact List.length_eq_zero_iff.1 h
            · exact hin.out.2.2 (by omega)
          obtain ⟨hn0, hb0⟩ := hin.out.2.1 hr0
          subst hb0
          subst hn0
          have HB := Lib.hid hin.out.1
          obtain ⟨v, hrd, -⟩ := HB.out.bs.rd
          obtain ⟨Ar, nr, cr, rfl⟩ := Fresh.shape hrd.2.2.2.1
          have hnr := hrd.2.2.2.1.len'
          simp only [List.length_nil] at hnr
          subst hnr
          have HLF := Lib.hid (left_any b1 o Ar 0 cr false wr hrd.2.1)
          have HSM := Lib.hid HB.out.bs.same
          clear hin hr0 hrd hlt
          go_wp2_with fail
          all_goals
            refine HLF.out.mono ?_
            rintro e wk ⟨rfl, rfl⟩
            go_wp2_with fail
            refine (HKN.out _).mono ?_
            rintro e wk ⟨rfl, hsk⟩
            have HSK := Lib.hid (Same.trans HSM.out hsk)
            clear hsk
            go_wp2_with fail
            go_ret
            exact ⟨rfl, HSK.out⟩
  · rw [Bool.not_eq_true] at ho
    refine (new_bad o ho w1).mono ?_
    rintro e w2 ⟨rfl, hs2⟩
    have HS2 := Lib.hid (Same.trans HS1.out hs2)
    clear hs2 ho
    go_wp2_with fail
    refine (HKN.out _).mono ?_
    rintro e wk ⟨rfl, hsk⟩
    have HSK := Lib.hid (Same.trans HS2.out hsk)
    clear hsk
    go_wp2_with fail
    go_ret
    exact ⟨rfl, HSK.out⟩
theorem pduBack_walk2 (w : World) (v : Value) (ls : List Pd) (hv : PdsAt w v ls) (u : Value) (o : Ag) (ho : u = agA o ∧ True) (x : Value) (cuts : List Int) (hc : NumsAt w x cuts) :
    Calls Try.prog 3 #[v, u, x] w fun e w' => e = .returned (.bool true) ∧ Same w w' := by
  obtain ⟨rfl, -⟩ := ho
  exact pduBack_walk w v ls hv o x cuts hc
end Go.Proofs.Ytfafepmghcobdaa
