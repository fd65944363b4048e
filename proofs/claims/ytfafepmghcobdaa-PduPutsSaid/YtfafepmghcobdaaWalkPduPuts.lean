/- The walk of PduPuts. -/
import Derived.Test.YtfafepmghcobdaaPduJ
import Derived.Test.YtfafepmghcobdaaPduI
import Derived.Test.YtfafepmghcobdaaGb
import Derived.Test.YtfafepmghcobdaaPduV
import Derived.Test.YtfafepmghcobdaaPduF0
import Derived.Test.YtfafepmghcobdaaOrdT
import Derived.Test.YtfafepmghcobdaaOpenPd
import Derived.Deep.CutRange
import Derived.Deep.CutBlock
import Derived.Deep.Cut
import Derived.Deep.DeepCutAuto
import Derived.Deep.DrawnRows
namespace Go.Proofs.Ytfafepmghcobdaa
open Go.RowKit
set_option linter.unusedVariables false
set_option linter.unusedSimpArgs false
set_option maxRecDepth 100000
set_option maxHeartbeats 8000000
attribute [local go_sem ↓] Go.wp_at_zero Go.wp_at_succ
theorem pduL_le2 (p : Pd) (o : Ag) (hok : p.ok) : (pduL p o).length ≤ 140737488351232 := by
  unfold pduL
  split
  · rename_i h
    have h1 := rawL_length (o := o) hok.2.2.1
    have h2 := (pduE_zero h).2.2.1
    have h3 := padN_lt p.data.length
    rw [h1]
    split <;> split <;> omega
  · simp
theorem pduPuts_walk (w : World) (p : Pd) (A : Option Addr) (n cap : Nat) (o : Ag) (op : Int) (hok : p.ok) (h : Bs w (.slice A n cap) p.data) (hl : p.data.length ≤ 140737488351232) :
    Calls Try.prog 8 #[pdA p (.slice A n cap), agA o, .int .i64 op] w fun e w' => e = .returned (.bool true) ∧ Same w w' := by
  have hn : n = p.data.length := h.capL.1
  subst hn
  have HB := Lib.hid h
  have HOK := Lib.hid hok
  have HKN := Lib.hid (fun W => known17_any W)
  have hka := fun W => known_op op W
  have hkr := fun W => rknown_any op W
  generalize (askedB op || toldB op) = k1 at hka hkr
  generalize askedB op = k2 at hka hkr
  have HKA := Lib.hid hka
  have HKR := Lib.hid hkr
  clear hka hkr
  have hpb := PB.init w p (.slice A p.data.length cap) o 42 24
  clear h hok
  unfold pdA agA
  go_enter Try.func8, Try.ntmps8
  go_upto_region 1 with (fail)
  simp only [pdC, agC, List.toArray] at hpb
  generalize (w.alloc (.cells #[.int .i64 p.op, .bool p.now, .int .i64 p.flags, .int .i64 p.b2, .int .i64 p.b3, .int .u64 p.lun, .int .u32 p.task, .int .u32 (wd p 0), .int .u32 (wd p 1), .int .u32 (wd p 2), .int .u32 (wd p 3), .int .u32 (wd p 4), .int .u32 (wd p 5), .int .u32 (wd p 6), .slice A p.data.length cap] 42)).alloc (.cells #[.bool o.hs, .bool o.ds, .int .i64 o.most] 24) = w0 at hpb ⊢
  have HPB := Lib.hid hpb
  clear hpb
  have c0 := HPB.out.2.1 0 _ rfl
  have c1 := HPB.out.2.1 1 _ rfl
  have c2 := HPB.out.2.1 2 _ rfl
  have c3 := HPB.out.2.1 3 _ rfl
  have c4 := HPB.out.2.1 4 _ rfl
  have c5 := HPB.out.2.1 5 _ rfl
  have c6 := HPB.out.2.1 6 _ rfl
  have c7 := HPB.out.2.1 7 _ rfl
  have c8 := HPB.out.2.1 8 _ rfl
  have c9 := HPB.out.2.1 9 _ rfl
  have c10 := HPB.out.2.1 10 _ rfl
  have c11 := HPB.out.2.1 11 _ rfl
  have c12 := HPB.out.2.1 12 _ rfl
  have c13 := HPB.out.2.1 13 _ rfl
  have c14 := HPB.out.2.1 14 _ rfl
  go_wp2_with fail
  refine (given_any p A p.data.length cap w0 (HB.out.same HPB.out.1) hl).mono ?_
  rintro e w1 ⟨A1, n1, cp1, rfl, hf1, hs1⟩
  unfold pdA
  have hx := BoxC.newAt w1 (pdC p (.slice A1 n1 cp1)) 40 w1.heap.size rfl
  have hs2 : Same w1 (w1.alloc (.cells #[.int .i64 p.op, .bool p.now, .int .i64 p.flags, .int .i64 p.b2, .int .i64 p.b3, .int .u64 p.lun, .int .u32 p.task, .int .u32 (wd p 0), .int .u32 (wd p 1), .int .u32 (wd p 2), .int .u32 (wd p 3), .int .u32 (wd p 4), .int .u32 (wd p 5), .int .u32 (wd p 6), .slice A1 n1 cp1] 40)) := (Upd.refl _ _).alloc _
  have hz2 : w1.heap.size < (w1.alloc (.cells #[.int .i64 p.op, .bool p.now, .int .i64 p.flags, .int .i64 p.b2, .int .i64 p.b3, .int .u64 p.lun, .int .u32 p.task, .int .u32 (wd p 0), .int .u32 (wd p 1), .int .u32 (wd p 2), .int .u32 (wd p 3), .int .u32 (wd p 4), .int .u32 (wd p 5), .int .u32 (wd p 6), .slice A1 n1 cp1] 40)).heap.size := by simp
  have hb2 := hf1.bs.same hs2
  have hfg2 := hf1.same hs2
  have hp2 := (HPB.out.same hs1).same hs2
  simp only [pdC, List.toArray] at hx
  clear c0 c1 c2 c3 c4 c5 c6 c7 c8 c9 c10 c11 c12 c13 c14
  go_upto_region 2 with (fail)
  generalize w1.alloc (.cells #[.int .i64 p.op, .bool p.now, .int .i64 p.flags, .int .i64 p.b2, .int .i64 p.b3, .int .u64 p.lun, .int .u32 p.task, .int .u32 (wd p 0), .int .u32 (wd p 1), .int .u32 (wd p 2), .int .u32 (wd p 3), .int .u32 (wd p 4), .int .u32 (wd p 5), .int .u32 (wd p 6), .slice A1 n1 cp1] 40) = w2 at hx hs2 hz2 hb2 hfg2 hp2 ⊢
  have hBX : BoxAt w2 w1.heap.size p (.slice A1 n1 cp1) := hx.1
  have hB7 : w.heap.size + 2 ≤ w1.heap.size := (HPB.out.same hs1).2.2.2
  generalize w1.heap.size = B7 at hBX hz2 hB7 ⊢
  have HX := Lib.hid hBX
  have HZ := Lib.hid hz2
  have HB1 := Lib.hid hb2
  have HFG := Lib.hid hfg2
  have HP := Lib.hid hp2
  clear hx hs2 hz2 hb2 hfg2 hp2 hf1 hs1 HPB hBX
  go_cut [8, 9] from 16 (fun v8 v9 wx => ∃ A' n' cap', v8 = .slice A' n' cap' ∧ v9 = .int .i64 (pduE p o) ∧ Fresh w2.heap.size wx (.slice A' n' cap') (pduL p o) ∧ Same w2 wx)
  case first =>
    have hS0 : BoxAt w2.drew B7 p (.slice A1 n1 cp1) ∧ (∀ j u, (agC o)[j]? = some u → w2.drew.cell? ⟨w.heap.size + 1, j, none⟩ = some u) := ⟨HX.out.same (Upd.refl _ _).drew, (HP.out.same (Upd.refl _ _).drew).2.2.1⟩
    refine wp_region_noPanic ?_
    refine wp_region_need (fun w' => BoxAt w' B7 p (.slice A1 n1 cp1) ∧ (∀ j u, (agC o)[j]? = some u → w'.cell? ⟨w.heap.size + 1, j, none⟩ = some u)) (fun _ => true) (by kernel_rfl) (fun hcl => ?_)
    refine wpAnyN_take (i := 0) (v := ?_) rfl (by as_aux_lemma => kernel_rfl) (by as_aux_lemma => kernel_rfl) (by as_aux_lemma => kernel_rfl) (by as_aux_lemma => kernel_rfl) (fun _ _ _ h => h) (by assumption) hS0 (Or.inl ⟨by rfl, ?_⟩) (fun hcl0 => ?_)
    rotate_left
    · (intro wS hSw; (obtain ⟨hSa, hSb⟩ := hSw); (have k0 := hSa 0 _ rfl); (have k1 := hSa 1 _ rfl); (have k2 := hSa 2 _ rfl); (have k3 := hSa 3 _ rfl); (have k4 := hSa 4 _ rfl); (have k5 := hSa 5 _ rfl); (have k6 := hSa 6 _ rfl); (have k7 := hSa 7 _ rfl); (have k8 := hSa 8 _ rfl); (have k9 := hSa 9 _ rfl); (have k10 := hSa 10 _ rfl); (have k11 := hSa 11 _ rfl); (have k12 := hSa 12 _ rfl); (have k13 := hSa 13 _ rfl); (have k14 := hSa 14 _ rfl); (have q0 := hSb 0 _ rfl); (have q1 := hSb 1 _ rfl); (have q2 := hSb 2 _ rfl); go_simp; (try with_reducible rfl))
    clear hcl
    try simp only [Act.put, List.getElem_toArray, List.getElem_cons_succ, List.getElem_cons_zero, List.setIfInBounds_toArray, List.set_cons_zero, List.set_cons_succ]
    refine wpAnyN_take (i := 1) (v := ?_) rfl (by as_aux_lemma => kernel_rfl) (by as_aux_lemma => kernel_rfl) (by as_aux_lemma => kernel_rfl) (by as_aux_lemma => kernel_rfl) (fun _ _ _ h => h) (by assumption) hS0 (Or.inl ⟨by rfl, ?_⟩) (fun hcl1 => ?_)
    rotate_left
    · (intro wS hSw; (obtain ⟨hSa, hSb⟩ := hSw); (have k0 := hSa 0 _ rfl); (have k1 := hSa 1 _ rfl); (have k2 := hSa 2 _ rfl); (have k3 := hSa 3 _ rfl); (have k4 := hSa 4 _ rfl); (have k5 := hSa 5 _ rfl); (have k6 := hSa 6 _ rfl); (have k7 := hSa 7 _ rfl); (have k8 := hSa 8 _ rfl); (have k9 := hSa 9 _ rfl); (have k10 := hSa 10 _ rfl); (have k11 := hSa 11 _ rfl); (have k12 := hSa 12 _ rfl); (have k13 := hSa 13 _ rfl); (have k14 := hSa 14 _ rfl); (have q0 := hSb 0 _ rfl); (have q1 := hSb 1 _ rfl); (have q2 := hSb 2 _ rfl); go_simp; (try with_reducible rfl))
    clear hcl0
    try simp only [Act.put, List.getElem_toArray, List.getElem_cons_succ, List.getElem_cons_zero, List.setIfInBounds_toArray, List.set_cons_zero, List.set_cons_succ]
    refine wpAnyN_oneC (i := 2) (by as_aux_lemma => kernel_rfl) rfl (by assumption) (fun hcl2 K' hK' => ?_)
    clear hcl1
    go_simp
    go_at_call 10
    refine (opts_any o _).mono ?_
    rintro e wg ⟨rfl, hso⟩
    have HS1 := Lib.hid (Same.trans (Upd.refl (fun _ => False) w2).drew hso)
    have hS1 : BoxAt wg B7 p (.slice A1 n1 cp1) ∧ (∀ j u, (agC o)[j]? = some u → wg.cell? ⟨w.heap.size + 1, j, none⟩ = some u) := ⟨HX.out.same HS1.out, (HP.out.same HS1.out).2.2.1⟩
    clear hso
    refine hK'.out _ _ (fun _ => hS1) ?_
    clear hK' K'
    try simp only [Act.put, List.getElem_toArray, List.getElem_cons_succ, List.getElem_cons_zero, List.setIfInBounds_toArray, List.set_cons_zero, List.set_cons_succ]
    refine wpAnyN_oneC (i := 3) (by as_aux_lemma => kernel_rfl) rfl (by assumption) (fun hcl3 K' hK' => ?_)
    clear hcl2
    go_simp
    go_at_call 12
    refine (put_any p o A1 n1 cp1 HOK.out _ (HB1.out.same HS1.out)).mono ?_
    rintro e wp ⟨v9, rfl, hfp, hsp⟩
    have HS2 := Lib.hid (Same.trans HS1.out hsp)
    have HFP := Lib.hid (Fresh.mono hfp HS1.out.size)
    obtain ⟨A5, n5, cp5, rfl⟩ := Fresh.shape hfp
    have hS2 : BoxAt wp B7 p (.slice A1 n1 cp1) ∧ (∀ j u, (agC o)[j]? = some u → wp.cell? ⟨w.heap.size + 1, j, none⟩ = some u) := ⟨HX.out.same HS2.out, (HP.out.same HS2.out).2.2.1⟩
    clear hfp hsp
    refine hK'.out _ _ (fun _ => hS2) ?_
    clear hK' K'
    try simp only [Act.put, List.getElem_toArray, List.getElem_cons_succ, List.getElem_cons_zero, List.setIfInBounds_toArray, List.set_cons_zero, List.set_cons_succ]
    refine wpAnyN_take (i := 4) (v := ?_) rfl (by as_aux_lemma => kernel_rfl) (by as_aux_lemma => kernel_rfl) (by as_aux_lemma => kernel_rfl) (by as_aux_lemma => kernel_rfl) (fun _ _ _ h => h) (by assumption) hS2 (Or.inl ⟨by rfl, ?_⟩) (fun hcl4 => ?_)
    rotate_left
    · (intro wS hSw; (obtain ⟨hSa, hSb⟩ := hSw); (have k0 := hSa 0 _ rfl); (have k1 := hSa 1 _ rfl); (have k2 := hSa 2 _ rfl); (have k3 := hSa 3 _ rfl); (have k4 := hSa 4 _ rfl); (have k5 := hSa 5 _ rfl); (have k6 := hSa 6 _ rfl); (have k7 := hSa 7 _ rfl); (have k8 := hSa 8 _ rfl); (have k9 := hSa 9 _ rfl); (have k10 := hSa 10 _ rfl); (have k11 := hSa 11 _ rfl); (have k12 := hSa 12 _ rfl); (have k13 := hSa 13 _ rfl); (have k14 := hSa 14 _ rfl); (have q0 := hSb 0 _ rfl); (have q1 := hSb 1 _ rfl); (have q2 := hSb 2 _ rfl); go_simp; (try with_reducible rfl))
    clear hcl3
    try simp only [Act.put, List.getElem_toArray, List.getElem_cons_succ, List.getElem_cons_zero, List.setIfInBounds_toArray, List.set_cons_zero, List.set_cons_succ]
    refine wpAnyN_take (i := 5) (v := ?_) rfl (by as_aux_lemma => kernel_rfl) (by as_aux_lemma => kernel_rfl) (by as_aux_lemma => kernel_rfl) (by as_aux_lemma => kernel_rfl) (fun _ _ _ h => h) (by assumption) hS2 (Or.inl ⟨by rfl, ?_⟩) (fun hcl5 => ?_)
    rotate_left
    · (intro wS hSw; (obtain ⟨hSa, hSb⟩ := hSw); (have k0 := hSa 0 _ rfl); (have k1 := hSa 1 _ rfl); (have k2 := hSa 2 _ rfl); (have k3 := hSa 3 _ rfl); (have k4 := hSa 4 _ rfl); (have k5 := hSa 5 _ rfl); (have k6 := hSa 6 _ rfl); (have k7 := hSa 7 _ rfl); (have k8 := hSa 8 _ rfl); (have k9 := hSa 9 _ rfl); (have k10 := hSa 10 _ rfl); (have k11 := hSa 11 _ rfl); (have k12 := hSa 12 _ rfl); (have k13 := hSa 13 _ rfl); (have k14 := hSa 14 _ rfl); (have q0 := hSb 0 _ rfl); (have q1 := hSb 1 _ rfl); (have q2 := hSb 2 _ rfl); go_simp; (try with_reducible rfl))
    clear hcl4
    try simp only [Act.put, List.getElem_toArray, List.getElem_cons_succ, List.getElem_cons_zero, List.setIfInBounds_toArray, List.set_cons_zero, List.set_cons_succ]
    refine wpAnyN_take (i := 6) (v := ?_) rfl (by as_aux_lemma => kernel_rfl) (by as_aux_lemma => kernel_rfl) (by as_aux_lemma => kernel_rfl) (by as_aux_lemma => kernel_rfl) (fun _ _ _ h => h) (by assumption) hS2 (Or.inl ⟨by rfl, ?_⟩) (fun hcl6 => ?_)
    rotate_left
    · (intro wS hSw; (obtain ⟨hSa, hSb⟩ := hSw); (have k0 := hSa 0 _ rfl); (have k1 := hSa 1 _ rfl); (have k2 := hSa 2 _ rfl); (have k3 := hSa 3 _ rfl); (have k4 := hSa 4 _ rfl); (have k5 := hSa 5 _ rfl); (have k6 := hSa 6 _ rfl); (have k7 := hSa 7 _ rfl); (have k8 := hSa 8 _ rfl); (have k9 := hSa 9 _ rfl); (have k10 := hSa 10 _ rfl); (have k11 := hSa 11 _ rfl); (have k12 := hSa 12 _ rfl); (have k13 := hSa 13 _ rfl); (have k14 := hSa 14 _ rfl); (have q0 := hSb 0 _ rfl); (have q1 := hSb 1 _ rfl); (have q2 := hSb 2 _ rfl); go_simp; (try with_reducible rfl))
    clear hcl5
    try simp only [Act.put, List.getElem_toArray, List.getElem_cons_succ, List.getElem_cons_zero, List.setIfInBounds_toArray, List.set_cons_zero, List.set_cons_succ]
    refine wpAnyN_take (i := 7) (v := ?_) rfl (by as_aux_lemma => kernel_rfl) (by as_aux_lemma => kernel_rfl) (by as_aux_lemma => kernel_rfl) (by as_aux_lemma => kernel_rfl) (fun _ _ _ h => h) (by assumption) hS2 (Or.inl ⟨by rfl, ?_⟩) (fun hcl7 => ?_)
    rotate_left
    · (intro wS hSw; (obtain ⟨hSa, hSb⟩ := hSw); (have k0 := hSa 0 _ rfl); (have k1 := hSa 1 _ rfl); (have k2 := hSa 2 _ rfl); (have k3 := hSa 3 _ rfl); (have k4 := hSa 4 _ rfl); (have k5 := hSa 5 _ rfl); (have k6 := hSa 6 _ rfl); (have k7 := hSa 7 _ rfl); (have k8 := hSa 8 _ rfl); (have k9 := hSa 9 _ rfl); (have k10 := hSa 10 _ rfl); (have k11 := hSa 11 _ rfl); (have k12 := hSa 12 _ rfl); (have k13 := hSa 13 _ rfl); (have k14 := hSa 14 _ rfl); (have q0 := hSb 0 _ rfl); (have q1 := hSb 1 _ rfl); (have q2 := hSb 2 _ rfl); go_simp; (try with_reducible rfl))
    clear hcl6
    try simp only [Act.put, List.getElem_toArray, List.getElem_cons_succ, List.getElem_cons_zero, List.setIfInBounds_toArray, List.set_cons_zero, List.set_cons_succ]
    refine wpAnyN_take (i := 8) (v := ?_) rfl (by as_aux_lemma => kernel_rfl) (by as_aux_lemma => kernel_rfl) (by as_aux_lemma => kernel_rfl) (by as_aux_lemma => kernel_rfl) (fun _ _ _ h => h) (by assumption) hS2 (Or.inl ⟨by rfl, ?_⟩) (fun hcl8 => ?_)
    rotate_left
    · (intro wS hSw; (obtain ⟨hSa, hSb⟩ := hSw); (have k0 := hSa 0 _ rfl); (have k1 := hSa 1 _ rfl); (have k2 := hSa 2 _ rfl); (have k3 := hSa 3 _ rfl); (have k4 := hSa 4 _ rfl); (have k5 := hSa 5 _ rfl); (have k6 := hSa 6 _ rfl); (have k7 := hSa 7 _ rfl); (have k8 := hSa 8 _ rfl); (have k9 := hSa 9 _ rfl); (have k10 := hSa 10 _ rfl); (have k11 := hSa 11 _ rfl); (have k12 := hSa 12 _ rfl); (have k13 := hSa 13 _ rfl); (have k14 := hSa 14 _ rfl); (have q0 := hSb 0 _ rfl); (have q1 := hSb 1 _ rfl); (have q2 := hSb 2 _ rfl); go_simp; (try with_reducible rfl))
    clear hcl7
    try simp only [Act.put, List.getElem_toArray, List.getElem_cons_succ, List.getElem_cons_zero, List.setIfInBounds_toArray, List.set_cons_zero, List.set_cons_succ]
    refine wpAnyN_done (by as_aux_lemma => kernel_rfl) ?_ _
    refine NoPanic.normal ?_
    go_wp2_with fail
    go_meet
    exact ⟨_, _, _, rfl, rfl, HFP.out, HS2.out⟩
  case rest =>
  obtain ⟨A5, n5, cp5, rfl, rfl, hf5, hs5⟩ := hcut
  have HF5 := Lib.hid hf5
  have HS5 := Lib.hid hs5
  have hp5 := HP.out.same hs5
  have HP5 := Lib.hid hp5
  have q0 := hp5.2.2.1 0 _ rfl
  have q1 := hp5.2.2.1 1 _ rfl
  have q2 := hp5.2.2.1 2 _ rfl
  clear hf5 hs5
  have c0 := hp5.2.1 0 _ rfl
  have c1 := hp5.2.1 1 _ rfl
  have c2 := hp5.2.1 2 _ rfl
  have c3 := hp5.2.1 3 _ rfl
  have c4 := hp5.2.1 4 _ rfl
  have c5 := hp5.2.1 5 _ rfl
  have c6 := hp5.2.1 6 _ rfl
  have c7 := hp5.2.1 7 _ rfl
  have c8 := hp5.2.1 8 _ rfl
  have c9 := hp5.2.1 9 _ rfl
  have c10 := hp5.2.1 10 _ rfl
  have c11 := hp5.2.1 11 _ rfl
  have c12 := hp5.2.1 12 _ rfl
  have c13 := hp5.2.1 13 _ rfl
  have c14 := hp5.2.1 14 _ rfl
  clear hp5
  go_wp2_with fail
  refine (rput_any p o A p.data.length cap HOK.out wc (HB.out.same HP5.out.1)).mono ?_
  rintro e w6 ⟨v6, rfl, hf6, hs6⟩
  obtain ⟨A6, n6, cp6, rfl⟩ := Fresh.shape hf6
  have HF6 := Lib.hid hf6
  have HS6 := Lib.hid (Same.trans HS5.out hs6)
  have HX5 := Lib.hid (HF5.out.same hs6)
  clear hf6 hs6 q0 q1 q2 c0 c1 c2 c3 c4 c5 c6 c7 c8 c9 c10 c11 c12 c13 c14
  go_wp2_with fail
  refine (HKA.out w6).mono ?_
  rintro e w7 ⟨rfl, hs7⟩
  have HS7 := Lib.hid (Same.trans HS6.out hs7)
  have HX7 := Lib.hid (HX5.out.same hs7)
  have HY7 := Lib.hid (HF6.out.same hs7)
  clear hs7
  go_wp2_with fail
  refine (HKR.out w7).mono ?_
  rintro e w8 ⟨rfl, rfl⟩
  go_upto_region 6 with (fail)
  have hE1 : (pduE p o != pduE p o) = false := by simp
  have hk1 : (k1 != k1) = false := by simp
  have hk2 : (k2 != k2) = false := by simp
  generalize pduE p o = E at hE1 ⊢
  have hll := pduL_le2 p o HOK.out
  generalize pduL p o = L at HX7 HY7 hll
  go_cut [67] from 16 (fun v67 wx => v67 = .bool false ∧ Same w7 wx)
  case first =>
    have hS0 : BoxAt w7.drew B7 p (.slice A1 n1 cp1) ∧ BoxAt w7.drew w.heap.size p (.slice A p.data.length cap) ∧ Bs w7.drew (.slice A5 n5 cp5) L ∧ Bs w7.drew (.slice A6 n6 cp6) L := ⟨(HX.out.same HS7.out).same (Upd.refl _ _).drew, ((HP.out.same HS7.out).same (Upd.refl _ _).drew).2.1, HX7.out.bs.same (Upd.refl _ _).drew, HY7.out.bs.same (Upd.refl _ _).drew⟩
    have CV := Lib.hid (fun (w : World) (v : Value) (bs : List UInt8) (h : Bs w v bs) => conv_bs (P := Try.prog) (src := 33) (dst := 9) Try.underlying33 Try.underlying5 Try.underlying9 h)
    refine wp_region_noPanic ?_
    refine wp_region_need (fun w' => BoxAt w' B7 p (.slice A1 n1 cp1) ∧ BoxAt w' w.heap.size p (.slice A p.data.length cap) ∧ Bs w' (.slice A5 n5 cp5) L ∧ Bs w' (.slice A6 n6 cp6) L) (fun _ => true) (by kernel_rfl) (fun hcl => ?_)
    refine wpAnyN_take (i := 0) (v := ?_) rfl (by as_aux_lemma => kernel_rfl) (by as_aux_lemma => kernel_rfl) (by as_aux_lemma => kernel_rfl) (by as_aux_lemma => kernel_rfl) (fun _ _ _ h => h) (by assumption) hS0 (Or.inl ⟨by rfl, ?_⟩) (fun hcl0 => ?_)
    rotate_left
    · (intro wS hSw; (obtain ⟨hSa, hSb, hSc, hSd⟩ := hSw); (have cv1 := CV.out wS _ _ hSc); (have cv2 := CV.out wS _ _ hSd); go_simp; (try with_reducible rfl))
    clear hcl
    try simp only [Act.put, List.getElem_toArray, List.getElem_cons_succ, List.getElem_cons_zero, List.setIfInBounds_toArray, List.set_cons_zero, List.set_cons_succ]
    refine wpAnyN_take (i := 1) (v := ?_) rfl (by as_aux_lemma => kernel_rfl) (by as_aux_lemma => kernel_rfl) (by as_aux_lemma => kernel_rfl) (by as_aux_lemma => kernel_rfl) (fun _ _ _ h => h) (by assumption) hS0 (Or.inl ⟨by rfl, ?_⟩) (fun hcl1 => ?_)
    rotate_left
    · (intro wS hSw; (obtain ⟨hSa, hSb, hSc, hSd⟩ := hSw); (have cv1 := CV.out wS _ _ hSc); (have cv2 := CV.out wS _ _ hSd); go_simp; (try with_reducible rfl))
    clear hcl0
    try simp only [Act.put, List.getElem_toArray, List.getElem_cons_succ, List.getElem_cons_zero, List.setIfInBounds_toArray, List.set_cons_zero, List.set_cons_succ]
    refine wpAnyN_take (i := 2) (v := ?_) rfl (by as_aux_lemma => kernel_rfl) (by as_aux_lemma => kernel_rfl) (by as_aux_lemma => kernel_rfl) (by as_aux_lemma => kernel_rfl) (fun _ _ _ h => h) (by assumption) hS0 (Or.inl ⟨by rfl, ?_⟩) (fun hcl2 => ?_)
    rotate_left
    · (intro wS hSw; (obtain ⟨hSa, hSb, hSc, hSd⟩ := hSw); (have cv1 := CV.out wS _ _ hSc); (have cv2 := CV.out wS _ _ hSd); go_simp; (try with_reducible rfl))
    clear hcl1
    try simp only [Act.put, List.getElem_toArray, List.getElem_cons_succ, List.getElem_cons_zero, List.setIfInBounds_toArray, List.set_cons_zero, List.set_cons_succ]
    refine wpAnyN_take (i := 3) (v := ?_) rfl (by as_aux_lemma => kernel_rfl) (by as_aux_lemma => kernel_rfl) (by as_aux_lemma => kernel_rfl) (by as_aux_lemma => kernel_rfl) (fun _ _ _ h => h) (by assumption) hS0 (Or.inl ⟨by rfl, ?_⟩) (fun hcl3 => ?_)
    rotate_left
    · (intro wS hSw; (obtain ⟨hSa, hSb, hSc, hSd⟩ := hSw); (have cv1 := CV.out wS _ _ hSc); (have cv2 := CV.out wS _ _ hSd); go_simp; (try with_reducible rfl))
    clear hcl2
    try simp only [Act.put, List.getElem_toArray, List.getElem_cons_succ, List.getElem_cons_zero, List.setIfInBounds_toArray, List.set_cons_zero, List.set_cons_succ]
    refine wpAnyN_take (i := 4) (v := ?_) rfl (by as_aux_lemma => kernel_rfl) (by as_aux_lemma => kernel_rfl) (by as_aux_lemma => kernel_rfl) (by as_aux_lemma => kernel_rfl) (fun _ _ _ h => h) (by assumption) hS0 (Or.inl ⟨by rfl, ?_⟩) (fun hcl4 => ?_)
    rotate_left
    · (intro wS hSw; (obtain ⟨hSa, hSb, hSc, hSd⟩ := hSw); (have cv1 := CV.out wS _ _ hSc); (have cv2 := CV.out wS _ _ hSd); go_simp; (try with_reducible rfl))
    clear hcl3
    try simp only [Act.put, List.getElem_toArray, List.getElem_cons_succ, List.getElem_cons_zero, List.setIfInBounds_toArray, List.set_cons_zero, List.set_cons_succ]
    refine wpAnyN_take (i := 5) (v := ?_) rfl (by as_aux_lemma => kernel_rfl) (by as_aux_lemma => kernel_rfl) (by as_aux_lemma => kernel_rfl) (by as_aux_lemma => kernel_rfl) (fun _ _ _ h => h) (by assumption) hS0 (Or.inl ⟨by rfl, ?_⟩) (fun hcl5 => ?_)
    rotate_left
    · (intro wS hSw; (obtain ⟨hSa, hSb, hSc, hSd⟩ := hSw); (have cv1 := CV.out wS _ _ hSc); (have cv2 := CV.out wS _ _ hSd); go_simp; (try with_reducible rfl))
    clear hcl4
    try simp only [Act.put, List.getElem_toArray, List.getElem_cons_succ, List.getElem_cons_zero, List.setIfInBounds_toArray, List.set_cons_zero, List.set_cons_succ]
    refine wpAnyN_take (i := 6) (v := ?_) rfl (by as_aux_lemma => kernel_rfl) (by as_aux_lemma => kernel_rfl) (by as_aux_lemma => kernel_rfl) (by as_aux_lemma => kernel_rfl) (fun _ _ _ h => h) (by assumption) hS0 (Or.inl ⟨by rfl, ?_⟩) (fun hcl6 => ?_)
    rotate_left
    · (intro wS hSw; (obtain ⟨hSa, hSb, hSc, hSd⟩ := hSw); (have cv1 := CV.out wS _ _ hSc); (have cv2 := CV.out wS _ _ hSd); go_simp; (try with_reducible rfl))
    clear hcl5
    try simp only [Act.put, List.getElem_toArray, List.getElem_cons_succ, List.getElem_cons_zero, List.setIfInBounds_toArray, List.set_cons_zero, List.set_cons_succ]
    refine wpAnyN_take (i := 7) (v := ?_) rfl (by as_aux_lemma => kernel_rfl) (by as_aux_lemma => kernel_rfl) (by as_aux_lemma => kernel_rfl) (by as_aux_lemma => kernel_rfl) (fun _ _ _ h => h) (by assumption) hS0 (Or.inl ⟨by rfl, ?_⟩) (fun hcl7 => ?_)
    rotate_left
    · (intro wS hSw; (obtain ⟨hSa, hSb, hSc, hSd⟩ := hSw); (have cv1 := CV.out wS _ _ hSc); (have cv2 := CV.out wS _ _ hSd); go_simp; (try with_reducible rfl))
    clear hcl6
    try simp only [Act.put, List.getElem_toArray, List.getElem_cons_succ, List.getElem_cons_zero, List.setIfInBounds_toArray, List.set_cons_zero, List.set_cons_succ]
    refine wpAnyN_take (i := 8) (v := ?_) rfl (by as_aux_lemma => kernel_rfl) (by as_aux_lemma => kernel_rfl) (by as_aux_lemma => kernel_rfl) (by as_aux_lemma => kernel_rfl) (fun _ _ _ h => h) (by assumption) hS0 (Or.inl ⟨by rfl, ?_⟩) (fun hcl8 => ?_)
    rotate_left
    · (intro wS hSw; (obtain ⟨hSa, hSb, hSc, hSd⟩ := hSw); (have cv1 := CV.out wS _ _ hSc); (have cv2 := CV.out wS _ _ hSd); go_simp; (try with_reducible rfl))
    clear hcl7
    try simp only [Act.put, List.getElem_toArray, List.getElem_cons_succ, List.getElem_cons_zero, List.setIfInBounds_toArray, List.set_cons_zero, List.set_cons_succ]
    refine wpAnyN_take (i := 9) (v := ?_) rfl (by as_aux_lemma => kernel_rfl) (by as_aux_lemma => kernel_rfl) (by as_aux_lemma => kernel_rfl) (by as_aux_lemma => kernel_rfl) (fun _ _ _ h => h) (by assumption) hS0 (Or.inl ⟨by rfl, ?_⟩) (fun hcl9 => ?_)
    rotate_left
    · (intro wS hSw; (obtain ⟨hSa, hSb, hSc, hSd⟩ := hSw); (have cv1 := CV.out wS _ _ hSc); (have cv2 := CV.out wS _ _ hSd); go_simp; (try with_reducible rfl))
    clear hcl8
    try simp only [Act.put, List.getElem_toArray, List.getElem_cons_succ, List.getElem_cons_zero, List.setIfInBounds_toArray, List.set_cons_zero, List.set_cons_succ]
    refine wpAnyN_take (i := 10) (v := ?_) rfl (by as_aux_lemma => kernel_rfl) (by as_aux_lemma => kernel_rfl) (by as_aux_lemma => kernel_rfl) (by as_aux_lemma => kernel_rfl) (fun _ _ _ h => h) (by assumption) hS0 (Or.inl ⟨by rfl, ?_⟩) (fun hcl10 => ?_)
    rotate_left
    · (intro wS hSw; (obtain ⟨hSa, hSb, hSc, hSd⟩ := hSw); (have cv1 := CV.out wS _ _ hSc); (have cv2 := CV.out wS _ _ hSd); go_simp; (try with_reducible rfl))
    clear hcl9
    try simp only [Act.put, List.getElem_toArray, List.getElem_cons_succ, List.getElem_cons_zero, List.setIfInBounds_toArray, List.set_cons_zero, List.set_cons_succ]
    refine wpAnyN_take (i := 11) (v := ?_) rfl (by as_aux_lemma => kernel_rfl) (by as_aux_lemma => kernel_rfl) (by as_aux_lemma => kernel_rfl) (by as_aux_lemma => kernel_rfl) (fun _ _ _ h => h) (by assumption) hS0 (Or.inl ⟨by rfl, ?_⟩) (fun hcl11 => ?_)
    rotate_left
    · (intro wS hSw; (obtain ⟨hSa, hSb, hSc, hSd⟩ := hSw); (have cv1 := CV.out wS _ _ hSc); (have cv2 := CV.out wS _ _ hSd); go_simp; (try with_reducible rfl))
    clear hcl10
    try simp only [Act.put, List.getElem_toArray, List.getElem_cons_succ, List.getElem_cons_zero, List.setIfInBounds_toArray, List.set_cons_zero, List.set_cons_succ]
    refine wpAnyN_take (i := 12) (v := ?_) rfl (by as_aux_lemma => kernel_rfl) (by as_aux_lemma => kernel_rfl) (by as_aux_lemma => kernel_rfl) (by as_aux_lemma => kernel_rfl) (fun _ _ _ h => h) (by assumption) hS0 (Or.inl ⟨by rfl, ?_⟩) (fun hcl12 => ?_)
    rotate_left
    · (intro wS hSw; (obtain ⟨hSa, hSb, hSc, hSd⟩ := hSw); (have cv1 := CV.out wS _ _ hSc); (have cv2 := CV.out wS _ _ hSd); go_simp; (try with_reducible rfl))
    clear hcl11
    try simp only [Act.put, List.getElem_toArray, List.getElem_cons_succ, List.getElem_cons_zero, List.setIfInBounds_toArray, List.set_cons_zero, List.set_cons_succ]
    refine wpAnyN_take (i := 13) (v := ?_) rfl (by as_aux_lemma => kernel_rfl) (by as_aux_lemma => kernel_rfl) (by as_aux_lemma => kernel_rfl) (by as_aux_lemma => kernel_rfl) (fun _ _ _ h => h) (by assumption) hS0 (Or.inl ⟨by rfl, ?_⟩) (fun hcl13 => ?_)
    rotate_left
    · (intro wS hSw; (obtain ⟨hSa, hSb, hSc, hSd⟩ := hSw); (have cv1 := CV.out wS _ _ hSc); (have cv2 := CV.out wS _ _ hSd); go_simp; (try with_reducible rfl))
    clear hcl12
    try simp only [Act.put, List.getElem_toArray, List.getElem_cons_succ, List.getElem_cons_zero, List.setIfInBounds_toArray, List.set_cons_zero, List.set_cons_succ]
    refine wpAnyN_take (i := 14) (v := ?_) rfl (by as_aux_lemma => kernel_rfl) (by as_aux_lemma => kernel_rfl) (by as_aux_lemma => kernel_rfl) (by as_aux_lemma => kernel_rfl) (fun _ _ _ h => h) (by assumption) hS0 (Or.inl ⟨by rfl, ?_⟩) (fun hcl14 => ?_)
    rotate_left
    · (intro wS hSw; (obtain ⟨hSa, hSb, hSc, hSd⟩ := hSw); (have cv1 := CV.out wS _ _ hSc); (have cv2 := CV.out wS _ _ hSd); go_simp; (try with_reducible rfl))
    clear hcl13
    try simp only [Act.put, List.getElem_toArray, List.getElem_cons_succ, List.getElem_cons_zero, List.setIfInBounds_toArray, List.set_cons_zero, List.set_cons_succ]
    refine wpAnyN_take (i := 15) (v := ?_) rfl (by as_aux_lemma => kernel_rfl) (by as_aux_lemma => kernel_rfl) (by as_aux_lemma => kernel_rfl) (by as_aux_lemma => kernel_rfl) (fun _ _ _ h => h) (by assumption) hS0 (Or.inl ⟨by rfl, ?_⟩) (fun hcl15 => ?_)
    rotate_left
    · (intro wS hSw; (obtain ⟨hSa, hSb, hSc, hSd⟩ := hSw); (have cv1 := CV.out wS _ _ hSc); (have cv2 := CV.out wS _ _ hSd); go_simp; (try with_reducible rfl))
    clear hcl14
    try simp only [Act.put, List.getElem_toArray, List.getElem_cons_succ, List.getElem_cons_zero, List.setIfInBounds_toArray, List.set_cons_zero, List.set_cons_succ]
    refine wpAnyN_take (i := 16) (v := ?_) rfl (by as_aux_lemma => kernel_rfl) (by as_aux_lemma => kernel_rfl) (by as_aux_lemma => kernel_rfl) (by as_aux_lemma => kernel_rfl) (fun _ _ _ h => h) (by assumption) hS0 (Or.inl ⟨by rfl, ?_⟩) (fun hcl16 => ?_)
    rotate_left
    · (intro wS hSw; (obtain ⟨hSa, hSb, hSc, hSd⟩ := hSw); (have cv1 := CV.out wS _ _ hSc); (have cv2 := CV.out wS _ _ hSd); go_simp; (try with_reducible rfl))
    clear hcl15
    try simp only [Act.put, List.getElem_toArray, List.getElem_cons_succ, List.getElem_cons_zero, List.setIfInBounds_toArray, List.set_cons_zero, List.set_cons_succ]
    refine wpAnyN_take (i := 17) (v := ?_) rfl (by as_aux_lemma => kernel_rfl) (by as_aux_lemma => kernel_rfl) (by as_aux_lemma => kernel_rfl) (by as_aux_lemma => kernel_rfl) (fun _ _ _ h => h) (by assumption) hS0 (Or.inl ⟨by rfl, ?_⟩) (fun hcl17 => ?_)
    rotate_left
    · (intro wS hSw; (obtain ⟨hSa, hSb, hSc, hSd⟩ := hSw); (have cv1 := CV.out wS _ _ hSc); (have cv2 := CV.out wS _ _ hSd); go_simp; (try with_reducible rfl))
    clear hcl16
    try simp only [Act.put, List.getElem_toArray, List.getElem_cons_succ, List.getElem_cons_zero, List.setIfInBounds_toArray, List.set_cons_zero, List.set_cons_succ]
    refine wpAnyN_take (i := 18) (v := ?_) rfl (by as_aux_lemma => kernel_rfl) (by as_aux_lemma => kernel_rfl) (by as_aux_lemma => kernel_rfl) (by as_aux_lemma => kernel_rfl) (fun _ _ _ h => h) (by assumption) hS0 (Or.inl ⟨by rfl, ?_⟩) (fun hcl18 => ?_)
    rotate_left
    · (intro wS hSw; (obtain ⟨hSa, hSb, hSc, hSd⟩ := hSw); (have cv1 := CV.out wS _ _ hSc); (have cv2 := CV.out wS _ _ hSd); go_simp; (try with_reducible rfl))
    clear hcl17
    try simp only [Act.put, List.getElem_toArray, List.getElem_cons_succ, List.getElem_cons_zero, List.setIfInBounds_toArray, List.set_cons_zero, List.set_cons_succ]
    refine wpAnyN_take (i := 19) (v := ?_) rfl (by as_aux_lemma => kernel_rfl) (by as_aux_lemma => kernel_rfl) (by as_aux_lemma => kernel_rfl) (by as_aux_lemma => kernel_rfl) (fun _ _ _ h => h) (by assumption) hS0 (Or.inl ⟨by rfl, ?_⟩) (fun hcl19 => ?_)
    rotate_left
    · (intro wS hSw; (obtain ⟨hSa, hSb, hSc, hSd⟩ := hSw); (have cv1 := CV.out wS _ _ hSc); (have cv2 := CV.out wS _ _ hSd); go_simp; (try with_reducible rfl))
    clear hcl18
    try simp only [Act.put, List.getElem_toArray, List.getElem_cons_succ, List.getElem_cons_zero, List.setIfInBounds_toArray, List.set_cons_zero, List.set_cons_succ]
    refine wpAnyN_take (i := 20) (v := ?_) rfl (by as_aux_lemma => kernel_rfl) (by as_aux_lemma => kernel_rfl) (by as_aux_lemma => kernel_rfl) (by as_aux_lemma => kernel_rfl) (fun _ _ _ h => h) (by assumption) hS0 (Or.inl ⟨by rfl, ?_⟩) (fun hcl20 => ?_)
    rotate_left
    · (intro wS hSw; (obtain ⟨hSa, hSb, hSc, hSd⟩ := hSw); (have cv1 := CV.out wS _ _ hSc); (have cv2 := CV.out wS _ _ hSd); go_simp; (try with_reducible rfl))
    clear hcl19
    try simp only [Act.put, List.getElem_toArray, List.getElem_cons_succ, List.getElem_cons_zero, List.setIfInBounds_toArray, List.set_cons_zero, List.set_cons_succ]
    refine wpAnyN_take (i := 21) (v := ?_) rfl (by as_aux_lemma => kernel_rfl) (by as_aux_lemma => kernel_rfl) (by as_aux_lemma => kernel_rfl) (by as_aux_lemma => kernel_rfl) (fun _ _ _ h => h) (by assumption) hS0 (Or.inl ⟨by rfl, ?_⟩) (fun hcl21 => ?_)
    rotate_left
    · (intro wS hSw; (obtain ⟨hSa, hSb, hSc, hSd⟩ := hSw); (have k0 := hSa 0 _ rfl); (have k1 := hSa 1 _ rfl); (have k2 := hSa 2 _ rfl); (have k3 := hSa 3 _ rfl); (have k4 := hSa 4 _ rfl); (have k5 := hSa 5 _ rfl); (have k6 := hSa 6 _ rfl); (have k7 := hSa 7 _ rfl); (have k8 := hSa 8 _ rfl); (have k9 := hSa 9 _ rfl); (have k10 := hSa 10 _ rfl); (have k11 := hSa 11 _ rfl); (have k12 := hSa 12 _ rfl); (have k13 := hSa 13 _ rfl); (have k14 := hSa 14 _ rfl); go_simp; (try with_reducible rfl))
    clear hcl20
    try simp only [Act.put, List.getElem_toArray, List.getElem_cons_succ, List.getElem_cons_zero, List.setIfInBounds_toArray, List.set_cons_zero, List.set_cons_succ]
    refine wpAnyN_take (i := 23) (v := ?_) rfl (by as_aux_lemma => kernel_rfl) (by as_aux_lemma => kernel_rfl) (by as_aux_lemma => kernel_rfl) (by as_aux_lemma => kernel_rfl) (fun _ _ _ h => h) (by assumption) hS0 (Or.inl ⟨by rfl, ?_⟩) (fun hcl23 => ?_)
    rotate_left
    · (intro wS hSw; (obtain ⟨hSa, hSb, hSc, hSd⟩ := hSw); (have k0 := hSb 0 _ rfl); (have k1 := hSb 1 _ rfl); (have k2 := hSb 2 _ rfl); (have k3 := hSb 3 _ rfl); (have k4 := hSb 4 _ rfl); (have k5 := hSb 5 _ rfl); (have k6 := hSb 6 _ rfl); (have k7 := hSb 7 _ rfl); (have k8 := hSb 8 _ rfl); (have k9 := hSb 9 _ rfl); (have k10 := hSb 10 _ rfl); (have k11 := hSb 11 _ rfl); (have k12 := hSb 12 _ rfl); (have k13 := hSb 13 _ rfl); (have k14 := hSb 14 _ rfl); go_simp; (try with_reducible rfl))
    clear hcl21
    try simp only [Act.put, List.getElem_toArray, List.getElem_cons_succ, List.getElem_cons_zero, List.setIfInBounds_toArray, List.set_cons_zero, List.set_cons_succ]
    refine wpAnyN_oneC (i := 22) (by as_aux_lemma => kernel_rfl) rfl (by assumption) (fun hcl22 K' hK' => ?_)
    clear hcl23
    go_simp
    go_at_call 18
    refine (taken_any p A1 n1 cp1 _).mono ?_
    rintro e wt ⟨rfl, hst⟩
    have hS1 : BoxAt wt B7 p (.slice A1 n1 cp1) ∧ BoxAt wt w.heap.size p (.slice A p.data.length cap) ∧ Bs wt (.slice A5 n5 cp5) L ∧ Bs wt (.slice A6 n6 cp6) L := ⟨hS0.1.same hst, hS0.2.1.same hst, hS0.2.2.1.same hst, hS0.2.2.2.same hst⟩
    have HS1 := Lib.hid (Same.trans (Upd.refl (fun _ => False) w7).drew hst)
    clear hst
    unfold pdA
    refine hK'.out _ _ (fun _ => hS1) ?_
    clear hK' K'
    try simp only [Act.put, List.getElem_toArray, List.getElem_cons_succ, List.getElem_cons_zero, List.setIfInBounds_toArray, List.set_cons_zero, List.set_cons_succ]
    refine wpAnyN_oneC (i := 24) (by as_aux_lemma => kernel_rfl) rfl (by assumption) (fun hcl24 K' hK' => ?_)
    clear hcl22
    go_simp
    go_at_call 17
    refine (same_any p A1 A n1 p.data.length cp1 cap _ ((HB1.out.same (Same.trans HS7.out HS1.out))) (HB.out.same (HP.out.same (Same.trans HS7.out HS1.out)).1)).mono ?_
    rintro e wt2 ⟨rfl, hst⟩
    have hS2 : BoxAt wt2 B7 p (.slice A1 n1 cp1) ∧ BoxAt wt2 w.heap.size p (.slice A p.data.length cap) ∧ Bs wt2 (.slice A5 n5 cp5) L ∧ Bs wt2 (.slice A6 n6 cp6) L := ⟨hS1.1.same hst, hS1.2.1.same hst, hS1.2.2.1.same hst, hS1.2.2.2.same hst⟩
    have HS2 := Lib.hid (Same.trans HS1.out hst)
    clear hst
    refine hK'.out _ _ (fun _ => hS2) ?_
    clear hK' K'
    try simp only [Act.put, List.getElem_toArray, List.getElem_cons_succ, List.getElem_cons_zero, List.setIfInBounds_toArray, List.set_cons_zero, List.set_cons_succ]
    refine wpAnyN_take (i := 25) (v := ?_) rfl (by as_aux_lemma => kernel_rfl) (by as_aux_lemma => kernel_rfl) (by as_aux_lemma => kernel_rfl) (by as_aux_lemma => kernel_rfl) (fun _ _ _ h => h) (by assumption) hS2 (Or.inl ⟨by rfl, ?_⟩) (fun hcl25 => ?_)
    rotate_left
    · (intro wS hSw; (obtain ⟨hSa, hSb, hSc, hSd⟩ := hSw); (have cv1 := CV.out wS _ _ hSc); (have cv2 := CV.out wS _ _ hSd); go_simp; (try with_reducible rfl))
    clear hcl24
    try simp only [Act.put, List.getElem_toArray, List.getElem_cons_succ, List.getElem_cons_zero, List.setIfInBounds_toArray, List.set_cons_zero, List.set_cons_succ]
    refine wpAnyN_take (i := 26) (v := ?_) rfl (by as_aux_lemma => kernel_rfl) (by as_aux_lemma => kernel_rfl) (by as_aux_lemma => kernel_rfl) (by as_aux_lemma => kernel_rfl) (fun _ _ _ h => h) (by assumption) hS2 (Or.inl ⟨by rfl, ?_⟩) (fun hcl26 => ?_)
    rotate_left
    · (intro wS hSw; (obtain ⟨hSa, hSb, hSc, hSd⟩ := hSw); (have cv1 := CV.out wS _ _ hSc); (have cv2 := CV.out wS _ _ hSd); go_simp; (try with_reducible rfl))
    clear hcl25
    try simp only [Act.put, List.getElem_toArray, List.getElem_cons_succ, List.getElem_cons_zero, List.setIfInBounds_toArray, List.set_cons_zero, List.set_cons_succ]
    refine wpAnyN_done (by as_aux_lemma => kernel_rfl) ?_ _
    refine NoPanic.normal ?_
    go_wp2_with fail
    go_meet
    exact ⟨rfl, HS2.out⟩
  case rest =>
  obtain ⟨rfl, hs8⟩ := hcut
  have HS8 := Lib.hid (Same.trans HS7.out hs8)
  have HX8 := Lib.hid (HX7.out.same hs8)
  clear hs8 hE1 hk1 hk2
  go_wp2_with fail
  refine (spoil_bs (base := w2.heap.size) _ L wc HX8.out HS8.out.size hll).mono ?_
  rintro e w9 ⟨rfl, hu9⟩
  have hroom := HX8.out.ge
  have hlow : Upd (fun k => w2.heap.size ≤ k) w2 w9 := (HS8.out.mono (fun _ _ h => h.elim)).trans hu9 (fun i hi e => (hroom i e).1)
  have hb9 : BoxAt w9 B7 p (.slice A1 n1 cp1) := fun j u hj => hlow.cell (HX.out j u hj) (by have := HZ.out; dsimp only; omega)
  have hsz := HP.out.1.size
  have hz2 := HZ.out
  have hp9 : BoxAt w9 w.heap.size p (.slice A p.data.length cap) := fun j u hj => hlow.cell (HP.out.2.1 j u hj) (by dsimp only; omega)
  have hsw9 : Same w w9 := Same.into (HP.out.1) hlow (fun k hk => by omega)
  have hf9 := HFG.out.upd hlow (fun k hk e => by have := (HFG.out.ge k hk).2; omega)
  have HB9 := Lib.hid hb9
  have HP9 := Lib.hid hp9
  have HSW := Lib.hid hsw9
  have HF9 := Lib.hid hf9.bs
  clear hroom hlow hb9 hsz hp9 hsw9 hf9 hu9 hll
  dsimp only
  go_upto_region 9 with (fail)
  have hS0 : BoxAt w9.drew B7 p (.slice A1 n1 cp1) ∧ BoxAt w9.drew w.heap.size p (.slice A p.data.length cap) := ⟨HB9.out.same (Upd.refl _ _).drew, HP9.out.same (Upd.refl _ _).drew⟩
  refine wp_region_noPanic ?_
  refine wp_region_need (fun w' => BoxAt w' B7 p (.slice A1 n1 cp1) ∧ BoxAt w' w.heap.size p (.slice A p.data.length cap)) (fun _ => true) (by kernel_rfl) (fun hcl => ?_)
  refine wpAnyN_take (i := 0) (v := ?_) rfl (by as_aux_lemma => kernel_rfl) (by as_aux_lemma => kernel_rfl) (by as_aux_lemma => kernel_rfl) (by as_aux_lemma => kernel_rfl) (fun _ _ _ h => h) (by assumption) hS0 (Or.inl ⟨by rfl, ?_⟩) (fun hcl0 => ?_)
  rotate_left
  · (intro wS hSw; (obtain ⟨hSa, hSb⟩ := hSw); (have k0 := hSa 0 _ rfl); (have k1 := hSa 1 _ rfl); (have k2 := hSa 2 _ rfl); (have k3 := hSa 3 _ rfl); (have k4 := hSa 4 _ rfl); (have k5 := hSa 5 _ rfl); (have k6 := hSa 6 _ rfl); (have k7 := hSa 7 _ rfl); (have k8 := hSa 8 _ rfl); (have k9 := hSa 9 _ rfl); (have k10 := hSa 10 _ rfl); (have k11 := hSa 11 _ rfl); (have k12 := hSa 12 _ rfl); (have k13 := hSa 13 _ rfl); (have k14 := hSa 14 _ rfl); go_simp; (try with_reducible rfl))
  clear hcl
  try simp only [Act.put, List.getElem_toArray, List.getElem_cons_succ, List.getElem_cons_zero, List.setIfInBounds_toArray, List.set_cons_zero, List.set_cons_succ]
  refine wpAnyN_take (i := 2) (v := ?_) rfl (by as_aux_lemma => kernel_rfl) (by as_aux_lemma => kernel_rfl) (by as_aux_lemma => kernel_rfl) (by as_aux_lemma => kernel_rfl) (fun _ _ _ h => h) (by assumption) hS0 (Or.inl ⟨by rfl, ?_⟩) (fun hcl2 => ?_)
  rotate_left
  · (intro wS hSw; (obtain ⟨hSa, hSb⟩ := hSw); (have k0 := hSb 0 _ rfl); (have k1 := hSb 1 _ rfl); (have k2 := hSb 2 _ rfl); (have k3 := hSb 3 _ rfl); (have k4 := hSb 4 _ rfl); (have k5 := hSb 5 _ rfl); (have k6 := hSb 6 _ rfl); (have k7 := hSb 7 _ rfl); (have k8 := hSb 8 _ rfl); (have k9 := hSb 9 _ rfl); (have k10 := hSb 10 _ rfl); (have k11 := hSb 11 _ rfl); (have k12 := hSb 12 _ rfl); (have k13 := hSb 13 _ rfl); (have k14 := hSb 14 _ rfl); go_simp; (try with_reducible rfl))
  clear hcl0
  try simp only [Act.put, List.getElem_toArray, List.getElem_cons_succ, List.getElem_cons_zero, List.setIfInBounds_toArray, List.set_cons_zero, List.set_cons_succ]
  refine wpAnyN_oneC (i := 1) (by as_aux_lemma => kernel_rfl) rfl (by assumption) (fun hcl1 K' hK' => ?_)
  clear hcl2
  go_simp
  go_at_call 18
  refine (taken_any p A1 n1 cp1 _).mono ?_
  rintro e wt ⟨rfl, hst⟩
  have hS1 : BoxAt wt B7 p (.slice A1 n1 cp1) ∧ BoxAt wt w.heap.size p (.slice A p.data.length cap) := ⟨hS0.1.same hst, hS0.2.same hst⟩
  have HS1 := Lib.hid (Same.trans (Upd.refl (fun _ => False) w9).drew hst)
  clear hst
  unfold pdA
  refine hK'.out _ _ (fun _ => hS1) ?_
  clear hK' K'
  try simp only [Act.put, List.getElem_toArray, List.getElem_cons_succ, List.getElem_cons_zero, List.setIfInBounds_toArray, List.set_cons_zero, List.set_cons_succ]
  refine wpAnyN_oneC (i := 3) (by as_aux_lemma => kernel_rfl) rfl (by assumption) (fun hcl3 K' hK' => ?_)
  clear hcl1
  go_simp
  go_at_call 17
  refine (same_any p A1 A n1 p.data.length cp1 cap _ (HF9.out.same HS1.out) (HB.out.same (Same.trans HSW.out HS1.out))).mono ?_
  rintro e wt2 ⟨rfl, hst⟩
  have hS2 : BoxAt wt2 B7 p (.slice A1 n1 cp1) ∧ BoxAt wt2 w.heap.size p (.slice A p.data.length cap) := ⟨hS1.1.same hst, hS1.2.same hst⟩
  have HS2 := Lib.hid (Same.trans HS1.out hst)
  clear hst
  refine hK'.out _ _ (fun _ => hS2) ?_
  clear hK' K'
  try simp only [Act.put, List.getElem_toArray, List.getElem_cons_succ, List.getElem_cons_zero, List.setIfInBounds_toArray, List.set_cons_zero, List.set_cons_succ]
  refine wpAnyN_take (i := 4) (v := ?_) rfl (by as_aux_lemma => kernel_rfl) (by as_aux_lemma => kernel_rfl) (by as_aux_lemma => kernel_rfl) (by as_aux_lemma => kernel_rfl) (fun _ _ _ h => h) (by assumption) hS2 (Or.inl ⟨by rfl, ?_⟩) (fun hcl4 => ?_)
  rotate_left
  · (intro wS hSw; (obtain ⟨hSa, hSb⟩ := hSw); go_simp; (try with_reducible rfl))
  clear hcl3
  try simp only [Act.put, List.getElem_toArray, List.getElem_cons_succ, List.getElem_cons_zero, List.setIfInBounds_toArray, List.set_cons_zero, List.set_cons_succ]
  refine wpAnyN_oneC (i := 5) (by as_aux_lemma => kernel_rfl) rfl (by assumption) (fun hcl5 K' hK' => ?_)
  clear hcl4
  go_simp
  go_at_call 11
  refine (HKN.out _).mono ?_
  rintro e wt3 ⟨rfl, hst⟩
  have hS3 : BoxAt wt3 B7 p (.slice A1 n1 cp1) ∧ BoxAt wt3 w.heap.size p (.slice A p.data.length cap) := ⟨hS2.1.same hst, hS2.2.same hst⟩
  have HS3 := Lib.hid (Same.trans HS2.out hst)
  clear hst
  refine hK'.out _ _ (fun _ => hS3) ?_
  clear hK' K'
  try simp only [Act.put, List.getElem_toArray, List.getElem_cons_succ, List.getElem_cons_zero, List.setIfInBounds_toArray, List.set_cons_zero, List.set_cons_succ]
  refine wpAnyN_take (i := 6) (v := ?_) rfl (by as_aux_lemma => kernel_rfl) (by as_aux_lemma => kernel_rfl) (by as_aux_lemma => kernel_rfl) (by as_aux_lemma => kernel_rfl) (fun _ _ _ h => h) (by assumption) hS3 (Or.inl ⟨by rfl, ?_⟩) (fun hcl6 => ?_)
  rotate_left
  · (intro wS hSw; (obtain ⟨hSa, hSb⟩ := hSw); go_simp; (try with_reducible rfl))
  clear hcl5
  try simp only [Act.put, List.getElem_toArray, List.getElem_cons_succ, List.getElem_cons_zero, List.setIfInBounds_toArray, List.set_cons_zero, List.set_cons_succ]
  refine wpAnyN_take (i := 7) (v := ?_) rfl (by as_aux_lemma => kernel_rfl) (by as_aux_lemma => kernel_rfl) (by as_aux_lemma => kernel_rfl) (by as_aux_lemma => kernel_rfl) (fun _ _ _ h => h) (by assumption) hS3 (Or.inl ⟨by rfl, ?_⟩) (fun hcl7 => ?_)
  rotate_left
  · (intro wS hSw; (obtain ⟨hSa, hSb⟩ := hSw); go_simp; (try with_reducible rfl))
  clear hcl6
  try simp only [Act.put, List.getElem_toArray, List.getElem_cons_succ, List.getElem_cons_zero, List.setIfInBounds_toArray, List.set_cons_zero, List.set_cons_succ]
  refine wpAnyN_done (by as_aux_lemma => kernel_rfl) ?_ _
  refine NoPanic.normal ?_
  go_wp2_with fail
  go_ret
  exact ⟨rfl, Same.trans HSW.out HS3.out⟩
theorem pduPuts_walk2 (w : World) (v : Value) (p : Pd) (hp : PdIn w v p) (u : Value) (o : Ag) (ho : u = agA o ∧ True) (op : Int) (hw : (Lit.int .i64 op).wf = true) :
    Calls Try.prog 8 #[v, u, .int .i64 op] w fun e w' => e = .returned (.bool true) ∧ Same w w' := by
  obtain ⟨A, n, cap, rfl, h1, h2, h3⟩ := hp
  obtain ⟨rfl, -⟩ := ho
  exact pduPuts_walk w p A n cap o op h1 h2 h3
end Go.Proofs.Ytfafepmghcobdaa
