/- The walk of PduLength. -/
import Derived.Test.YtfafepmghcobdaaPduJ
import Derived.Test.YtfafepmghcobdaaPduI
import Derived.Test.YtfafepmghcobdaaGb
import Derived.Test.YtfafepmghcobdaaPduV
import Derived.Test.YtfafepmghcobdaaPduF0
import Derived.Test.YtfafepmghcobdaaOrdT
import Derived.Test.YtfafepmghcobdaaOpenPd
import Derived.Deep.CutRange
import Derived.Deep.CutBlock
import Derived.Deep.Cut
import Derived.Deep.DeepCutAuto
import Derived.Deep.DrawnRows
namespace Go.Proofs.Ytfafepmghcobdaa
open Go.RowKit
set_option linter.unusedVariables false
set_option linter.unusedSimpArgs false
set_option maxRecDepth 100000
set_option maxHeartbeats 8000000
attribute [local go_sem ↓] Go.wp_at_zero Go.wp_at_succ
theorem pn3_at (l : List UInt8) (h : 7 < l.length) : (at8 l 5 * 65536 + at8 l 6 * 256) + at8 l 7 = pn l 5 3 := by
  unfold pn
  have e : (l.drop 5).take 3 = [l[5], l[6], l[7]] := by
    refine List.ext_getElem (by simp; omega) fun i h1 h2 => ?_
    rw [List.getElem_take, List.getElem_drop]
    simp only [List.length_cons, List.length_nil] at h2
    rcases (show i = 0 ∨ i = 1 ∨ i = 2 by omega) with rfl | rfl | rfl <;> rfl
  rw [e]
  have g5 : at8 l 5 = (l[5].toNat : Int) := by unfold at8; rw [List.getD_eq_getElem?_getD, List.getElem?_eq_getElem (by omega)]; rfl
  have g6 : at8 l 6 = (l[6].toNat : Int) := by unfold at8; rw [List.getD_eq_getElem?_getD, List.getElem?_eq_getElem (by omega)]; rfl
  have g7 : at8 l 7 = (l[7].toNat : Int) := by unfold at8; rw [List.getD_eq_getElem?_getD, List.getElem?_eq_getElem (by omega)]; rfl
  rw [g5, g6, g7]
  simp [valB]
  omega
theorem pn1_at (l : List UInt8) (k : Nat) (h : k < l.length) : at8 l k = pn l k 1 := by
  unfold pn
  have e : (l.drop k).take 1 = [l[k]] := by
    refine List.ext_getElem (by simp; omega) fun i h1 h2 => ?_
    rw [List.getElem_take, List.getElem_drop]
    simp only [List.length_cons, List.length_nil] at h2
    obtain rfl : i = 0 := by omega
    rfl
  rw [e]
  unfold at8
  rw [List.getD_eq_getElem?_getD, List.getElem?_eq_getElem h]
  simp [valB]
theorem raw_says {p : Pd} {o : Ag} (hok : p.ok) (h : pduE p o = 0) : 48 ≤ (rawL p o).length ∧ (at8 (rawL p o) 5 * 65536 + at8 (rawL p o) 6 * 256) + at8 (rawL p o) 7 = p.data.length ∧ at8 (rawL p o) 4 = 0 ∧ at8 (rawL p o) 0 < 128 := by
  obtain ⟨hf, hrt, hl, hm⟩ := pduE_zero h
  have h48 := headL_length hok.2.2.1
  have hlen : 48 ≤ (rawL p o).length := by unfold rawL; rw [List.length_append]; omega
  obtain ⟨zs, hz⟩ : ∃ zs, rawL p o = headL p ++ zs := ⟨_, rfl⟩
  obtain ⟨a0, a1, a2, a3, a4, a5, a8, a16, aw⟩ := head_says hok hf hl zs
  rw [← hz] at a0 a4 a5
  refine ⟨hlen, by rw [pn3_at _ (by omega), a5], by rw [pn1_at _ _ (by omega), a4], ?_⟩
  rw [pn1_at _ _ (by omega), a0]
  unfold Pd.fits at hf
  obtain ⟨f1, _⟩ := of_decide_eq_true hf
  unfold firstP
  split <;> omega
theorem pduL_le (p : Pd) (o : Ag) (hok : p.ok) : (pduL p o).length ≤ 140737488351232 := by
  unfold pduL
  split
  · rename_i h
    have h1 := rawL_length (o := o) hok.2.2.1
    have h2 := (pduE_zero h).2.2.1
    have h3 := padN_lt p.data.length
    rw [h1]
    split <;> split <;> omega
  · simp
theorem at8_rng (l : List UInt8) (k : Nat) : 0 ≤ at8 l k ∧ at8 l k ≤ 255 := at8_range l k
theorem pduLength_walk (w : World) (p : Pd) (A : Option Addr) (n cap : Nat) (o : Ag) (hok : p.ok) (h : Bs w (.slice A n cap) p.data) (hl : p.data.length ≤ 140737488351232) :
    Calls Try.prog 4 #[pdA p (.slice A n cap), agA o] w fun e w' => e = .returned (.bool true) ∧ Same w w' := by
  have hn : n = p.data.length := h.capL.1
  subst hn
  have HB := Lib.hid h
  have HOK := Lib.hid hok
  have HKN := Lib.hid (fun W => known17_any W)
  have hpb := PB.init w p (.slice A p.data.length cap) o 42 24
  clear h hok
  unfold pdA agA
  go_enter Try.func4, Try.ntmps4
  go_upto_region 1 with (fail)
  simp only [pdC, agC, List.toArray] at hpb
  generalize (w.alloc (.cells #[.int .i64 p.op, .bool p.now, .int .i64 p.flags, .int .i64 p.b2, .int .i64 p.b3, .int .u64 p.lun, .int .u32 p.task, .int .u32 (wd p 0), .int .u32 (wd p 1), .int .u32 (wd p 2), .int .u32 (wd p 3), .int .u32 (wd p 4), .int .u32 (wd p 5), .int .u32 (wd p 6), .slice A p.data.length cap] 42)).alloc (.cells #[.bool o.hs, .bool o.ds, .int .i64 o.most] 24) = w0 at hpb ⊢
  have HPB := Lib.hid hpb
  clear hpb
  go_cut [5, 6] from 8 (fun v5 v6 wx => ∃ A' n' cap', v5 = .slice A' n' cap' ∧ v6 = .int .i64 (pduE p o) ∧ Fresh (w.heap.size + 2) wx (.slice A' n' cap') (pduL p o) ∧ PB w wx p (.slice A p.data.length cap) o)
  case first =>
    have hS0 : BoxAt w0.drew w.heap.size p (.slice A p.data.length cap) ∧ (∀ j u, (agC o)[j]? = some u → w0.drew.cell? ⟨w.heap.size + 1, j, none⟩ = some u) := ⟨(HPB.out.same (Upd.refl _ _).drew).2.1, (HPB.out.same (Upd.refl _ _).drew).2.2.1⟩
    have HP0 := Lib.hid (HPB.out.same (Upd.refl _ _).drew)
    clear HPB
    generalize hw0 : w0.drew = wd0 at hS0 HP0
    refine wp_region_noPanic ?_
    refine wp_region_need (fun w' => BoxAt w' w.heap.size p (.slice A p.data.length cap) ∧ (∀ j u, (agC o)[j]? = some u → w'.cell? ⟨w.heap.size + 1, j, none⟩ = some u)) (fun _ => true) (by kernel_rfl) (fun hcl => ?_)
    rw [hw0]
    refine wpAnyN_take (i := 0) (v := ?_) rfl (by as_aux_lemma => kernel_rfl) (by as_aux_lemma => kernel_rfl) (by as_aux_lemma => kernel_rfl) (by as_aux_lemma => kernel_rfl) (fun _ _ _ h => h) (by assumption) hS0 (Or.inl ⟨by rfl, ?_⟩) (fun hcl0 => ?_)
    rotate_left
    · (intro wS hSw; (obtain ⟨hSa, hSb⟩ := hSw); (have k0 := hSa 0 _ rfl); (have k1 := hSa 1 _ rfl); (have k2 := hSa 2 _ rfl); (have k3 := hSa 3 _ rfl); (have k4 := hSa 4 _ rfl); (have k5 := hSa 5 _ rfl); (have k6 := hSa 6 _ rfl); (have k7 := hSa 7 _ rfl); (have k8 := hSa 8 _ rfl); (have k9 := hSa 9 _ rfl); (have k10 := hSa 10 _ rfl); (have k11 := hSa 11 _ rfl); (have k12 := hSa 12 _ rfl); (have k13 := hSa 13 _ rfl); (have k14 := hSa 14 _ rfl); (have q0 := hSb 0 _ rfl); (have q1 := hSb 1 _ rfl); (have q2 := hSb 2 _ rfl); go_simp; (try with_reducible rfl))
    clear hcl
    try simp only [Act.put, List.getElem_toArray, List.getElem_cons_succ, List.getElem_cons_zero, List.setIfInBounds_toArray, List.set_cons_zero, List.set_cons_succ]
    refine wpAnyN_take (i := 2) (v := ?_) rfl (by as_aux_lemma => kernel_rfl) (by as_aux_lemma => kernel_rfl) (by as_aux_lemma => kernel_rfl) (by as_aux_lemma => kernel_rfl) (fun _ _ _ h => h) (by assumption) hS0 (Or.inl ⟨by rfl, ?_⟩) (fun hcl2 => ?_)
    rotate_left
    · (intro wS hSw; (obtain ⟨hSa, hSb⟩ := hSw); (have k0 := hSa 0 _ rfl); (have k1 := hSa 1 _ rfl); (have k2 := hSa 2 _ rfl); (have k3 := hSa 3 _ rfl); (have k4 := hSa 4 _ rfl); (have k5 := hSa 5 _ rfl); (have k6 := hSa 6 _ rfl); (have k7 := hSa 7 _ rfl); (have k8 := hSa 8 _ rfl); (have k9 := hSa 9 _ rfl); (have k10 := hSa 10 _ rfl); (have k11 := hSa 11 _ rfl); (have k12 := hSa 12 _ rfl); (have k13 := hSa 13 _ rfl); (have k14 := hSa 14 _ rfl); (have q0 := hSb 0 _ rfl); (have q1 := hSb 1 _ rfl); (have q2 := hSb 2 _ rfl); go_simp; (try with_reducible rfl))
    clear hcl0
    try simp only [Act.put, List.getElem_toArray, List.getElem_cons_succ, List.getElem_cons_zero, List.setIfInBounds_toArray, List.set_cons_zero, List.set_cons_succ]
    refine wpAnyN_oneC (i := 1) (by as_aux_lemma => kernel_rfl) rfl (by assumption) (fun hcl1 K' hK' => ?_)
    clear hcl2
    go_simp
    go_at_call 13
    refine (given_any p A p.data.length cap _ (HB.out.same HP0.out.1) hl).mono ?_
    rintro e wg ⟨A1, n1, cp1, rfl, hfg, hsg⟩
    have HP1 := Lib.hid (HP0.out.same hsg)
    have HFG := Lib.hid hfg
    clear hfg hsg
    have hS1 : BoxAt wg w.heap.size p (.slice A p.data.length cap) ∧ (∀ j u, (agC o)[j]? = some u → wg.cell? ⟨w.heap.size + 1, j, none⟩ = some u) := ⟨HP1.out.2.1, HP1.out.2.2.1⟩
    refine hK'.out _ _ (fun _ => hS1) ?_
    clear hK' K'
    try simp only [Act.put, List.getElem_toArray, List.getElem_cons_succ, List.getElem_cons_zero, List.setIfInBounds_toArray, List.set_cons_zero, List.set_cons_succ]
    refine wpAnyN_oneC (i := 3) (by as_aux_lemma => kernel_rfl) rfl (by assumption) (fun hcl3 K' hK' => ?_)
    clear hcl1
    go_simp
    go_at_call 10
    refine (opts_any o _).mono ?_
    rintro e wg2 ⟨rfl, hso⟩
    have HP2 := Lib.hid (HP1.out.same hso)
    have HFG := Lib.hid (HFG.out.same hso)
    clear hso
    have hS2 : BoxAt wg2 w.heap.size p (.slice A p.data.length cap) ∧ (∀ j u, (agC o)[j]? = some u → wg2.cell? ⟨w.heap.size + 1, j, none⟩ = some u) := ⟨HP2.out.2.1, HP2.out.2.2.1⟩
    refine hK'.out _ _ (fun _ => hS2) ?_
    clear hK' K'
    try simp only [Act.put, List.getElem_toArray, List.getElem_cons_succ, List.getElem_cons_zero, List.setIfInBounds_toArray, List.set_cons_zero, List.set_cons_succ]
    refine wpAnyN_oneC (i := 4) (by as_aux_lemma => kernel_rfl) rfl (by assumption) (fun hcl4 K' hK' => ?_)
    clear hcl3
    go_simp
    go_at_call 12
    refine (put_any p o A1 n1 cp1 HOK.out _ HFG.out.bs).mono ?_
    rintro e wp ⟨v', rfl, hfp, hsp⟩
    have HP3 := Lib.hid (HP2.out.same hsp)
    have HFP := Lib.hid (Fresh.mono hfp HP2.out.2.2.2)
    obtain ⟨A5, n5, cp5, rfl⟩ := Fresh.shape hfp
    have hS3 : BoxAt wp w.heap.size p (.slice A p.data.length cap) ∧ (∀ j u, (agC o)[j]? = some u → wp.cell? ⟨w.heap.size + 1, j, none⟩ = some u) := ⟨HP3.out.2.1, HP3.out.2.2.1⟩
    clear hfp hsp
    refine hK'.out _ _ (fun _ => hS3) ?_
    clear hK' K'
    try simp only [Act.put, List.getElem_toArray, List.getElem_cons_succ, List.getElem_cons_zero, List.setIfInBounds_toArray, List.set_cons_zero, List.set_cons_succ]
    refine wpAnyN_take (i := 5) (v := ?_) rfl (by as_aux_lemma => kernel_rfl) (by as_aux_lemma => kernel_rfl) (by as_aux_lemma => kernel_rfl) (by as_aux_lemma => kernel_rfl) (fun _ _ _ h => h) (by assumption) hS3 (Or.inl ⟨by rfl, ?_⟩) (fun hcl5 => ?_)
    rotate_left
    · (intro wS hSw; (obtain ⟨hSa, hSb⟩ := hSw); (have k0 := hSa 0 _ rfl); (have k1 := hSa 1 _ rfl); (have k2 := hSa 2 _ rfl); (have k3 := hSa 3 _ rfl); (have k4 := hSa 4 _ rfl); (have k5 := hSa 5 _ rfl); (have k6 := hSa 6 _ rfl); (have k7 := hSa 7 _ rfl); (have k8 := hSa 8 _ rfl); (have k9 := hSa 9 _ rfl); (have k10 := hSa 10 _ rfl); (have k11 := hSa 11 _ rfl); (have k12 := hSa 12 _ rfl); (have k13 := hSa 13 _ rfl); (have k14 := hSa 14 _ rfl); (have q0 := hSb 0 _ rfl); (have q1 := hSb 1 _ rfl); (have q2 := hSb 2 _ rfl); go_simp; (try with_reducible rfl))
    clear hcl4
    try simp only [Act.put, List.getElem_toArray, List.getElem_cons_succ, List.getElem_cons_zero, List.setIfInBounds_toArray, List.set_cons_zero, List.set_cons_succ]
    refine wpAnyN_take (i := 6) (v := ?_) rfl (by as_aux_lemma => kernel_rfl) (by as_aux_lemma => kernel_rfl) (by as_aux_lemma => kernel_rfl) (by as_aux_lemma => kernel_rfl) (fun _ _ _ h => h) (by assumption) hS3 (Or.inl ⟨by rfl, ?_⟩) (fun hcl6 => ?_)
    rotate_left
    · (intro wS hSw; (obtain ⟨hSa, hSb⟩ := hSw); (have k0 := hSa 0 _ rfl); (have k1 := hSa 1 _ rfl); (have k2 := hSa 2 _ rfl); (have k3 := hSa 3 _ rfl); (have k4 := hSa 4 _ rfl); (have k5 := hSa 5 _ rfl); (have k6 := hSa 6 _ rfl); (have k7 := hSa 7 _ rfl); (have k8 := hSa 8 _ rfl); (have k9 := hSa 9 _ rfl); (have k10 := hSa 10 _ rfl); (have k11 := hSa 11 _ rfl); (have k12 := hSa 12 _ rfl); (have k13 := hSa 13 _ rfl); (have k14 := hSa 14 _ rfl); (have q0 := hSb 0 _ rfl); (have q1 := hSb 1 _ rfl); (have q2 := hSb 2 _ rfl); go_simp; (try with_reducible rfl))
    clear hcl5
    try simp only [Act.put, List.getElem_toArray, List.getElem_cons_succ, List.getElem_cons_zero, List.setIfInBounds_toArray, List.set_cons_zero, List.set_cons_succ]
    refine wpAnyN_take (i := 7) (v := ?_) rfl (by as_aux_lemma => kernel_rfl) (by as_aux_lemma => kernel_rfl) (by as_aux_lemma => kernel_rfl) (by as_aux_lemma => kernel_rfl) (fun _ _ _ h => h) (by assumption) hS3 (Or.inl ⟨by rfl, ?_⟩) (fun hcl7 => ?_)
    rotate_left
    · (intro wS hSw; (obtain ⟨hSa, hSb⟩ := hSw); (have k0 := hSa 0 _ rfl); (have k1 := hSa 1 _ rfl); (have k2 := hSa 2 _ rfl); (have k3 := hSa 3 _ rfl); (have k4 := hSa 4 _ rfl); (have k5 := hSa 5 _ rfl); (have k6 := hSa 6 _ rfl); (have k7 := hSa 7 _ rfl); (have k8 := hSa 8 _ rfl); (have k9 := hSa 9 _ rfl); (have k10 := hSa 10 _ rfl); (have k11 := hSa 11 _ rfl); (have k12 := hSa 12 _ rfl); (have k13 := hSa 13 _ rfl); (have k14 := hSa 14 _ rfl); (have q0 := hSb 0 _ rfl); (have q1 := hSb 1 _ rfl); (have q2 := hSb 2 _ rfl); go_simp; (try with_reducible rfl))
    clear hcl6
    try simp only [Act.put, List.getElem_toArray, List.getElem_cons_succ, List.getElem_cons_zero, List.setIfInBounds_toArray, List.set_cons_zero, List.set_cons_succ]
    refine wpAnyN_take (i := 8) (v := ?_) rfl (by as_aux_lemma => kernel_rfl) (by as_aux_lemma => kernel_rfl) (by as_aux_lemma => kernel_rfl) (by as_aux_lemma => kernel_rfl) (fun _ _ _ h => h) (by assumption) hS3 (Or.inl ⟨by rfl, ?_⟩) (fun hcl8 => ?_)
    rotate_left
    · (intro wS hSw; (obtain ⟨hSa, hSb⟩ := hSw); (have k0 := hSa 0 _ rfl); (have k1 := hSa 1 _ rfl); (have k2 := hSa 2 _ rfl); (have k3 := hSa 3 _ rfl); (have k4 := hSa 4 _ rfl); (have k5 := hSa 5 _ rfl); (have k6 := hSa 6 _ rfl); (have k7 := hSa 7 _ rfl); (have k8 := hSa 8 _ rfl); (have k9 := hSa 9 _ rfl); (have k10 := hSa 10 _ rfl); (have k11 := hSa 11 _ rfl); (have k12 := hSa 12 _ rfl); (have k13 := hSa 13 _ rfl); (have k14 := hSa 14 _ rfl); (have q0 := hSb 0 _ rfl); (have q1 := hSb 1 _ rfl); (have q2 := hSb 2 _ rfl); go_simp; (try with_reducible rfl))
    clear hcl7
    try simp only [Act.put, List.getElem_toArray, List.getElem_cons_succ, List.getElem_cons_zero, List.setIfInBounds_toArray, List.set_cons_zero, List.set_cons_succ]
    refine wpAnyN_take (i := 9) (v := ?_) rfl (by as_aux_lemma => kernel_rfl) (by as_aux_lemma => kernel_rfl) (by as_aux_lemma => kernel_rfl) (by as_aux_lemma => kernel_rfl) (fun _ _ _ h => h) (by assumption) hS3 (Or.inl ⟨by rfl, ?_⟩) (fun hcl9 => ?_)
    rotate_left
    · (intro wS hSw; (obtain ⟨hSa, hSb⟩ := hSw); (have k0 := hSa 0 _ rfl); (have k1 := hSa 1 _ rfl); (have k2 := hSa 2 _ rfl); (have k3 := hSa 3 _ rfl); (have k4 := hSa 4 _ rfl); (have k5 := hSa 5 _ rfl); (have k6 := hSa 6 _ rfl); (have k7 := hSa 7 _ rfl); (have k8 := hSa 8 _ rfl); (have k9 := hSa 9 _ rfl); (have k10 := hSa 10 _ rfl); (have k11 := hSa 11 _ rfl); (have k12 := hSa 12 _ rfl); (have k13 := hSa 13 _ rfl); (have k14 := hSa 14 _ rfl); (have q0 := hSb 0 _ rfl); (have q1 := hSb 1 _ rfl); (have q2 := hSb 2 _ rfl); go_simp; (try with_reducible rfl))
    clear hcl8
    try simp only [Act.put, List.getElem_toArray, List.getElem_cons_succ, List.getElem_cons_zero, List.setIfInBounds_toArray, List.set_cons_zero, List.set_cons_succ]
    refine wpAnyN_done (by as_aux_lemma => kernel_rfl) ?_ _
    refine NoPanic.normal ?_
    go_wp2_with fail
    go_meet
    exact ⟨_, _, _, rfl, rfl, HFP.out, HP3.out⟩
  case rest =>
  obtain ⟨A', n', cap', rfl, rfl, hf, hpb⟩ := hcut
  have HF := Lib.hid hf
  have HPB := Lib.hid hpb
  clear hf hpb
  by_cases hE : pduE p o = 0
  · rw [hE]
    have hL : pduL p o = rawL p o := by unfold pduL; rw [if_pos hE]
    have hrs := raw_says HOK.out hE
    have hrl := rawL_length (o := o) HOK.out.2.2.1
    have hle := (pduE_zero hE).2.2.1
    have hc := HF.out.cap
    rw [hL] at HF
    have hn' : n' = (rawL p o).length := HF.out.len'
    subst hn'
    have hn48 : 48 ≤ (rawL p o).length := hrs.1
    rw [hL] at hc
    obtain ⟨pb, po, rfl⟩ := HF.out.addr (by omega)
    have g0 := (HF.out.at_ 0 (by omega)).1
    have g4 := (HF.out.at_ 4 (by omega)).1
    have g5 := (HF.out.at_ 5 (by omega)).1
    have g6 := (HF.out.at_ 6 (by omega)).1
    have g7 := (HF.out.at_ 7 (by omega)).1
    rw [Nat.add_zero] at g0
    have r5 := at8_rng (rawL p o) 5
    have r6 := at8_rng (rawL p o) 6
    have r7 := at8_rng (rawL p o) 7
    have r0 := at8_rng (rawL p o) 0
    obtain ⟨-, s1, s2, s3⟩ := hrs
    rw [s2] at g4
    generalize at8 (rawL p o) 0 = b0 at g0 s3 r0
    generalize at8 (rawL p o) 5 = b5 at g5 s1 r5
    generalize at8 (rawL p o) 6 = b6 at g6 s1 r6
    generalize at8 (rawL p o) 7 = b7 at g7 s1 r7
    have G0 := Lib.hid g0
    have G4 := Lib.hid g4
    have G5 := Lib.hid g5
    have G6 := Lib.hid g6
    have G7 := Lib.hid g7
    have S1 := Lib.hid s1
    have S3 := Lib.hid s3
    have R := Lib.hid (And.intro r0 (And.intro r5 (And.intro r6 r7)))
    clear g0 g4 g5 g6 g7 s1 s2 s3 r0 r5 r6 r7 hL
    generalize hRL : (rawL p o).length = RL at HF hn48 hc hrl ⊢
    have HRL := Lib.hid hrl
    have HN48 := Lib.hid hn48
    have HCC := Lib.hid hc
    have HE := Lib.hid hE
    clear hRL hrl hE hn48 hc
    obtain ⟨LD, hLD⟩ : ∃ LD, LD = p.data.length := ⟨_, rfl⟩
    rw [← hLD] at HRL S1 hle
    have hpd := padN_lt LD
    have HPD : Hid (padN LD = (4 - LD % 4) % 4) := rfl
    generalize padN LD = pd at HRL hpd HPD
    have c14 := HPB.out.2.1 14 _ rfl
    have c0 := HPB.out.2.2.1 0 _ rfl
    have c1 := HPB.out.2.2.1 1 _ rfl
    rw [← hLD] at c14 HPB
    have HLD := Lib.hid hLD
    clear hLD
    go_upto_block 0 with (fail)
    go_cut [7] from 28 to 32 (fun v7 wx => v7 = .int .i64 ((48 + LD + pd : Nat) : Int) ∧ wx = wc)
    case first =>
      go_wp2_with fail
      go_loop [7] (fun v7 => ∃ M : Nat, 48 + LD ≤ M ∧ M ≤ 48 + LD + pd ∧ v7 = .int .i64 M) (fun v7 => 48 + LD + pd - (intOf v7).toNat)
      case atStart => exact ⟨48 + LD, by omega, by omega, by rw [Int.natCast_add]; rfl⟩
      case round =>
        obtain ⟨M, h1, h2, rfl⟩ := hrel
        have ht : Int.tmod (M : Int) 4 = ((M % 4 : Nat) : Int) := by rw [Int.tmod_eq_emod_of_nonneg (by omega)]; omega
        by_cases hM : M < 48 + LD + pd
        · have hne : ¬ (M % 4) = 0 := by have := HPD.out; omega
          have hk4 : M % 4 < 4 := by omega
          generalize M % 4 = k at ht hne hk4
          have hkb : (((k : Nat) : Int) != 0) = true := by simpa using hne
          have hkc : (((k : Nat) : Int) == 0) = false := by simpa using hne
          clear hne
          go_wp2_with fail
          go_round
          case rel => exact ⟨M + 1, by omega, by omega, by go_num⟩
          case measure => simp [intOf]; omega
        · have hM2 : M = 48 + LD + pd := by omega
          have hz : M % 4 = 0 := by have := HPD.out; omega
          rw [hz] at ht
          go_wp2_with fail
          go_meet
          exact ⟨by rw [Int.natCast_add, Int.natCast_add]; rfl, rfl⟩
    case rest =>
    obtain ⟨rfl, rfl⟩ := hcut
    obtain ⟨M, hM⟩ : ∃ M, M = 48 + LD + pd := ⟨_, rfl⟩
    rw [← hM]
    have HM := Lib.hid hM
    have hMl : M ≤ 70000 := by omega
    clear hM
    go_upto_if 34 with (fail)
    go_cut [1, 7] from 28 (fun v1 v7 wx => v7 = .int .i64 ((M + (if o.hs then 4 else 0) : Nat) : Int) ∧ wx = wc)
    case first =>
      by_cases hh : o.hs = true
      · rw [hh]
        have HH := Lib.hid hh
        clear c0 hh
        go_wp2_with fail
        go_meet
        exact ⟨by rw [HH.out]; rfl, rfl⟩
      · rw [Bool.not_eq_true] at hh
        rw [hh]
        have HH := Lib.hid hh
        clear c0 hh
        go_wp2_with fail
        go_meet
        exact ⟨by rw [HH.out]; rfl, rfl⟩
    case rest =>
    obtain ⟨rfl, rfl⟩ := hcut
    obtain ⟨N, hN⟩ : ∃ N, N = M + (if o.hs then 4 else 0) := ⟨_, rfl⟩
    rw [← hN]
    have HN := Lib.hid hN
    have hNl : N ≤ 70004 := by rw [hN]; split <;> omega
    obtain ⟨Z, hZ⟩ : ∃ Z, Z = (o.ds && decide (0 < LD)) := ⟨_, rfl⟩
    have HZ := Lib.hid hZ
    rw [← hZ] at HRL
    clear hN hZ c0
    go_upto_region 9 with (fail)
    go_cut [44] from 28 (fun v44 wx => v44 = .bool Z ∧ wx = wc)
    case first =>
      by_cases hds : o.ds = true
      · rw [hds] at c1
        have hzz : Z = decide (0 < LD) := by rw [HZ.out, hds]; simp
        have HZZ := Lib.hid hzz
        clear hds hzz
        go_wp2_with fail
        go_meet
        exact ⟨by rw [HZZ.out], rfl⟩
      · rw [Bool.not_eq_true] at hds
        rw [hds] at c1
        have hzz : Z = false := by rw [HZ.out, hds]; rfl
        have HZZ := Lib.hid hzz
        clear hds hzz
        go_wp2_with fail
        go_meet
        exact ⟨by rw [HZZ.out], rfl⟩
    case rest =>
    obtain ⟨rfl, rfl⟩ := hcut
    clear c1
    go_upto_if 44 with (fail)
    go_cut [7] from 28 (fun v7 wx => v7 = .int .i64 ((RL : Nat) : Int) ∧ wx = wc)
    case first =>
      have hrl := HRL.out
      have hrn : RL = N + (if Z then 4 else 0) := by rw [hrl, HN.out, HM.out]; omega
      have HRN := Lib.hid hrn
      clear hrl hrn
      cases Z
      · go_wp2_with fail
        go_meet
        exact ⟨by rw [HRN.out]; rfl, rfl⟩
      · go_wp2_with fail
        go_meet
        exact ⟨by rw [HRN.out]; rfl, rfl⟩
    case rest =>
    obtain ⟨rfl, rfl⟩ := hcut
    clear c14
    have hcap := HCC.out
    have hRLc : RL ≤ 200000 := by rw [HRL.out]; split <;> split <;> omega
    have i0 : (0 : Int) < (RL : Int) := by have := HN48.out; omega
    have i0n : 0 < RL := by have := HN48.out; omega
    have i4 : (4 : Int) < (RL : Int) := by have := HN48.out; omega
    have i5 : (5 : Int) < (RL : Int) := by have := HN48.out; omega
    have i6 : (6 : Int) < (RL : Int) := by have := HN48.out; omega
    have i7 : (7 : Int) < (RL : Int) := by have := HN48.out; omega
    have hS0 : wc.drew.cell? ⟨pb, po, none⟩ = some (.int .u8 b0) ∧ wc.drew.cell? ⟨pb, po + 4, none⟩ = some (.int .u8 0) ∧ wc.drew.cell? ⟨pb, po + 5, none⟩ = some (.int .u8 b5) ∧ wc.drew.cell? ⟨pb, po + 6, none⟩ = some (.int .u8 b6) ∧ wc.drew.cell? ⟨pb, po + 7, none⟩ = some (.int .u8 b7) ∧ wc.drew.cell? ⟨w.heap.size, 14, none⟩ = some (.slice A LD cap) := by
      have hd := Upd.refl (fun _ : Nat => False) wc
      exact ⟨hd.drew.cell G0.out id, hd.drew.cell G4.out id, hd.drew.cell G5.out id, hd.drew.cell G6.out id, hd.drew.cell G7.out id, hd.drew.cell (HPB.out.2.1 14 _ rfl) id⟩
    have hs1 := S1.out
    have hs3 := S3.out
    obtain ⟨r0, r5, r6, r7⟩ := R.out
    have x1 : IntKind.i64.wrap (b5 * 65536) = b5 * 65536 := by rw [IntKind.wrap_i64]; omega
    have x2 : IntKind.i64.wrap (b6 * 256) = b6 * 256 := by rw [IntKind.wrap_i64]; omega
    have x3 : IntKind.i64.wrap (b5 * 65536 + b6 * 256) = b5 * 65536 + b6 * 256 := by rw [IntKind.wrap_i64]; omega
    have x4 : IntKind.i64.wrap (b5 * 65536 + b6 * 256 + b7) = (LD : Int) := by rw [IntKind.wrap_i64]; omega
    have y5 : IntKind.i64.wrap b5 = b5 := by rw [IntKind.wrap_i64]; omega
    have y6 : IntKind.i64.wrap b6 = b6 := by rw [IntKind.wrap_i64]; omega
    have y7 : IntKind.i64.wrap b7 = b7 := by rw [IntKind.wrap_i64]; omega
    have x5 : IntKind.i64.wrap (LD : Int) = (LD : Int) := by rw [IntKind.wrap_i64]; omega
    clear hs1
    go_upto_region 11 with (fail)
    refine wp_region_noPanic ?_
    refine wp_region_need (fun w' => w'.cell? ⟨pb, po, none⟩ = some (.int .u8 b0) ∧ w'.cell? ⟨pb, po + 4, none⟩ = some (.int .u8 0) ∧ w'.cell? ⟨pb, po + 5, none⟩ = some (.int .u8 b5) ∧ w'.cell? ⟨pb, po + 6, none⟩ = some (.int .u8 b6) ∧ w'.cell? ⟨pb, po + 7, none⟩ = some (.int .u8 b7) ∧ w'.cell? ⟨w.heap.size, 14, none⟩ = some (.slice A LD cap)) (fun _ => true) (by kernel_rfl) (fun hcl => ?_)
    refine wpAnyN_take (i := 0) (v := ?_) rfl (by as_aux_lemma => kernel_rfl) (by as_aux_lemma => kernel_rfl) (by as_aux_lemma => kernel_rfl) (by as_aux_lemma => kernel_rfl) (fun _ _ _ h => h) (by assumption) hS0 (Or.inl ⟨by rfl, ?_⟩) (fun hcl0 => ?_)
    rotate_left
    · (intro wS hSw; (obtain ⟨hSa, hSb, hSc, hSd, hSe, hSf⟩ := hSw); go_simp; (try with_reducible rfl))
    clear hcl
    try simp only [Act.put, List.getElem_toArray, List.getElem_cons_succ, List.getElem_cons_zero, List.setIfInBounds_toArray, List.set_cons_zero, List.set_cons_succ]
    refine wpAnyN_take (i := 1) (v := ?_) rfl (by as_aux_lemma => kernel_rfl) (by as_aux_lemma => kernel_rfl) (by as_aux_lemma => kernel_rfl) (by as_aux_lemma => kernel_rfl) (fun _ _ _ h => h) (by assumption) hS0 (Or.inl ⟨by rfl, ?_⟩) (fun hcl1 => ?_)
    rotate_left
    · (intro wS hSw; (obtain ⟨hSa, hSb, hSc, hSd, hSe, hSf⟩ := hSw); go_simp; (try with_reducible rfl))
    clear hcl0
    try simp only [Act.put, List.getElem_toArray, List.getElem_cons_succ, List.getElem_cons_zero, List.setIfInBounds_toArray, List.set_cons_zero, List.set_cons_succ]
    refine wpAnyN_take (i := 2) (v := ?_) rfl (by as_aux_lemma => kernel_rfl) (by as_aux_lemma => kernel_rfl) (by as_aux_lemma => kernel_rfl) (by as_aux_lemma => kernel_rfl) (fun _ _ _ h => h) (by assumption) hS0 (Or.inl ⟨by rfl, ?_⟩) (fun hcl2 => ?_)
    rotate_left
    · (intro wS hSw; (obtain ⟨hSa, hSb, hSc, hSd, hSe, hSf⟩ := hSw); go_simp; (try with_reducible rfl))
    clear hcl1
    try simp only [Act.put, List.getElem_toArray, List.getElem_cons_succ, List.getElem_cons_zero, List.setIfInBounds_toArray, List.set_cons_zero, List.set_cons_succ]
    refine wpAnyN_take (i := 3) (v := ?_) rfl (by as_aux_lemma => kernel_rfl) (by as_aux_lemma => kernel_rfl) (by as_aux_lemma => kernel_rfl) (by as_aux_lemma => kernel_rfl) (fun _ _ _ h => h) (by assumption) hS0 (Or.inl ⟨by rfl, ?_⟩) (fun hcl3 => ?_)
    rotate_left
    · (intro wS hSw; (obtain ⟨hSa, hSb, hSc, hSd, hSe, hSf⟩ := hSw); go_simp; (try with_reducible rfl))
    clear hcl2
    try simp only [Act.put, List.getElem_toArray, List.getElem_cons_succ, List.getElem_cons_zero, List.setIfInBounds_toArray, List.set_cons_zero, List.set_cons_succ]
    refine wpAnyN_take (i := 4) (v := ?_) rfl (by as_aux_lemma => kernel_rfl) (by as_aux_lemma => kernel_rfl) (by as_aux_lemma => kernel_rfl) (by as_aux_lemma => kernel_rfl) (fun _ _ _ h => h) (by assumption) hS0 (Or.inl ⟨by rfl, ?_⟩) (fun hcl4 => ?_)
    rotate_left
    · (intro wS hSw; (obtain ⟨hSa, hSb, hSc, hSd, hSe, hSf⟩ := hSw); go_simp; (try with_reducible rfl))
    clear hcl3
    try simp only [Act.put, List.getElem_toArray, List.getElem_cons_succ, List.getElem_cons_zero, List.setIfInBounds_toArray, List.set_cons_zero, List.set_cons_succ]
    refine wpAnyN_take (i := 5) (v := ?_) rfl (by as_aux_lemma => kernel_rfl) (by as_aux_lemma => kernel_rfl) (by as_aux_lemma => kernel_rfl) (by as_aux_lemma => kernel_rfl) (fun _ _ _ h => h) (by assumption) hS0 (Or.inl ⟨by rfl, ?_⟩) (fun hcl5 => ?_)
    rotate_left
    · (intro wS hSw; (obtain ⟨hSa, hSb, hSc, hSd, hSe, hSf⟩ := hSw); go_simp; (try with_reducible rfl))
    clear hcl4
    try simp only [Act.put, List.getElem_toArray, List.getElem_cons_succ, List.getElem_cons_zero, List.setIfInBounds_toArray, List.set_cons_zero, List.set_cons_succ]
    refine wpAnyN_take (i := 6) (v := ?_) rfl (by as_aux_lemma => kernel_rfl) (by as_aux_lemma => kernel_rfl) (by as_aux_lemma => kernel_rfl) (by as_aux_lemma => kernel_rfl) (fun _ _ _ h => h) (by assumption) hS0 (Or.inl ⟨by rfl, ?_⟩) (fun hcl6 => ?_)
    rotate_left
    · (intro wS hSw; (obtain ⟨hSa, hSb, hSc, hSd, hSe, hSf⟩ := hSw); go_simp; (try with_reducible rfl))
    clear hcl5
    try simp only [Act.put, List.getElem_toArray, List.getElem_cons_succ, List.getElem_cons_zero, List.setIfInBounds_toArray, List.set_cons_zero, List.set_cons_succ]
    refine wpAnyN_take (i := 7) (v := ?_) rfl (by as_aux_lemma => kernel_rfl) (by as_aux_lemma => kernel_rfl) (by as_aux_lemma => kernel_rfl) (by as_aux_lemma => kernel_rfl) (fun _ _ _ h => h) (by assumption) hS0 (Or.inl ⟨by rfl, ?_⟩) (fun hcl7 => ?_)
    rotate_left
    · (intro wS hSw; (obtain ⟨hSa, hSb, hSc, hSd, hSe, hSf⟩ := hSw); go_simp; (try with_reducible rfl))
    clear hcl6
    try simp only [Act.put, List.getElem_toArray, List.getElem_cons_succ, List.getElem_cons_zero, List.setIfInBounds_toArray, List.set_cons_zero, List.set_cons_succ]
    refine wpAnyN_take (i := 8) (v := ?_) rfl (by as_aux_lemma => kernel_rfl) (by as_aux_lemma => kernel_rfl) (by as_aux_lemma => kernel_rfl) (by as_aux_lemma => kernel_rfl) (fun _ _ _ h => h) (by assumption) hS0 (Or.inl ⟨by rfl, ?_⟩) (fun hcl8 => ?_)
    rotate_left
    · (intro wS hSw; (obtain ⟨hSa, hSb, hSc, hSd, hSe, hSf⟩ := hSw); go_simp; (try with_reducible rfl))
    clear hcl7
    try simp only [Act.put, List.getElem_toArray, List.getElem_cons_succ, List.getElem_cons_zero, List.setIfInBounds_toArray, List.set_cons_zero, List.set_cons_succ]
    refine wpAnyN_take (i := 9) (v := ?_) rfl (by as_aux_lemma => kernel_rfl) (by as_aux_lemma => kernel_rfl) (by as_aux_lemma => kernel_rfl) (by as_aux_lemma => kernel_rfl) (fun _ _ _ h => h) (by assumption) hS0 (Or.inl ⟨by rfl, ?_⟩) (fun hcl9 => ?_)
    rotate_left
    · (intro wS hSw; (obtain ⟨hSa, hSb, hSc, hSd, hSe, hSf⟩ := hSw); go_simp; (try with_reducible rfl))
    clear hcl8
    try simp only [Act.put, List.getElem_toArray, List.getElem_cons_succ, List.getElem_cons_zero, List.setIfInBounds_toArray, List.set_cons_zero, List.set_cons_succ]
    refine wpAnyN_take (i := 10) (v := ?_) rfl (by as_aux_lemma => kernel_rfl) (by as_aux_lemma => kernel_rfl) (by as_aux_lemma => kernel_rfl) (by as_aux_lemma => kernel_rfl) (fun _ _ _ h => h) (by assumption) hS0 (Or.inl ⟨by rfl, ?_⟩) (fun hcl10 => ?_)
    rotate_left
    · (intro wS hSw; (obtain ⟨hSa, hSb, hSc, hSd, hSe, hSf⟩ := hSw); go_simp; (try with_reducible rfl))
    clear hcl9
    try simp only [Act.put, List.getElem_toArray, List.getElem_cons_succ, List.getElem_cons_zero, List.setIfInBounds_toArray, List.set_cons_zero, List.set_cons_succ]
    refine wpAnyN_take (i := 11) (v := ?_) rfl (by as_aux_lemma => kernel_rfl) (by as_aux_lemma => kernel_rfl) (by as_aux_lemma => kernel_rfl) (by as_aux_lemma => kernel_rfl) (fun _ _ _ h => h) (by assumption) hS0 (Or.inl ⟨by rfl, ?_⟩) (fun hcl11 => ?_)
    rotate_left
    · (intro wS hSw; (obtain ⟨hSa, hSb, hSc, hSd, hSe, hSf⟩ := hSw); go_simp; (try with_reducible rfl))
    clear hcl10
    try simp only [Act.put, List.getElem_toArray, List.getElem_cons_succ, List.getElem_cons_zero, List.setIfInBounds_toArray, List.set_cons_zero, List.set_cons_succ]
    refine wpAnyN_take (i := 12) (v := ?_) rfl (by as_aux_lemma => kernel_rfl) (by as_aux_lemma => kernel_rfl) (by as_aux_lemma => kernel_rfl) (by as_aux_lemma => kernel_rfl) (fun _ _ _ h => h) (by assumption) hS0 (Or.inl ⟨by rfl, ?_⟩) (fun hcl12 => ?_)
    rotate_left
    · (intro wS hSw; (obtain ⟨hSa, hSb, hSc, hSd, hSe, hSf⟩ := hSw); go_simp; (try with_reducible rfl))
    clear hcl11
    try simp only [Act.put, List.getElem_toArray, List.getElem_cons_succ, List.getElem_cons_zero, List.setIfInBounds_toArray, List.set_cons_zero, List.set_cons_succ]
    refine wpAnyN_take (i := 13) (v := ?_) rfl (by as_aux_lemma => kernel_rfl) (by as_aux_lemma => kernel_rfl) (by as_aux_lemma => kernel_rfl) (by as_aux_lemma => kernel_rfl) (fun _ _ _ h => h) (by assumption) hS0 (Or.inl ⟨by rfl, ?_⟩) (fun hcl13 => ?_)
    rotate_left
    · (intro wS hSw; (obtain ⟨hSa, hSb, hSc, hSd, hSe, hSf⟩ := hSw); go_simp; (try with_reducible rfl))
    clear hcl12
    try simp only [Act.put, List.getElem_toArray, List.getElem_cons_succ, List.getElem_cons_zero, List.setIfInBounds_toArray, List.set_cons_zero, List.set_cons_succ]
    refine wpAnyN_take (i := 14) (v := ?_) rfl (by as_aux_lemma => kernel_rfl) (by as_aux_lemma => kernel_rfl) (by as_aux_lemma => kernel_rfl) (by as_aux_lemma => kernel_rfl) (fun _ _ _ h => h) (by assumption) hS0 (Or.inl ⟨by rfl, ?_⟩) (fun hcl14 => ?_)
    rotate_left
    · (intro wS hSw; (obtain ⟨hSa, hSb, hSc, hSd, hSe, hSf⟩ := hSw); go_simp; (try with_reducible rfl))
    clear hcl13
    try simp only [Act.put, List.getElem_toArray, List.getElem_cons_succ, List.getElem_cons_zero, List.setIfInBounds_toArray, List.set_cons_zero, List.set_cons_succ]
    refine wpAnyN_take (i := 15) (v := ?_) rfl (by as_aux_lemma => kernel_rfl) (by as_aux_lemma => kernel_rfl) (by as_aux_lemma => kernel_rfl) (by as_aux_lemma => kernel_rfl) (fun _ _ _ h => h) (by assumption) hS0 (Or.inl ⟨by rfl, ?_⟩) (fun hcl15 => ?_)
    rotate_left
    · (intro wS hSw; (obtain ⟨hSa, hSb, hSc, hSd, hSe, hSf⟩ := hSw); go_simp; (try with_reducible rfl))
    clear hcl14
    try simp only [Act.put, List.getElem_toArray, List.getElem_cons_succ, List.getElem_cons_zero, List.setIfInBounds_toArray, List.set_cons_zero, List.set_cons_succ]
    refine wpAnyN_take (i := 16) (v := ?_) rfl (by as_aux_lemma => kernel_rfl) (by as_aux_lemma => kernel_rfl) (by as_aux_lemma => kernel_rfl) (by as_aux_lemma => kernel_rfl) (fun _ _ _ h => h) (by assumption) hS0 (Or.inl ⟨by rfl, ?_⟩) (fun hcl16 => ?_)
    rotate_left
    · (intro wS hSw; (obtain ⟨hSa, hSb, hSc, hSd, hSe, hSf⟩ := hSw); go_simp; (try with_reducible rfl))
    clear hcl15
    try simp only [Act.put, List.getElem_toArray, List.getElem_cons_succ, List.getElem_cons_zero, List.setIfInBounds_toArray, List.set_cons_zero, List.set_cons_succ]
    refine wpAnyN_take (i := 17) (v := ?_) rfl (by as_aux_lemma => kernel_rfl) (by as_aux_lemma => kernel_rfl) (by as_aux_lemma => kernel_rfl) (by as_aux_lemma => kernel_rfl) (fun _ _ _ h => h) (by assumption) hS0 (Or.inl ⟨by rfl, ?_⟩) (fun hcl17 => ?_)
    rotate_left
    · (intro wS hSw; (obtain ⟨hSa, hSb, hSc, hSd, hSe, hSf⟩ := hSw); go_simp; (try with_reducible rfl))
    clear hcl16
    try simp only [Act.put, List.getElem_toArray, List.getElem_cons_succ, List.getElem_cons_zero, List.setIfInBounds_toArray, List.set_cons_zero, List.set_cons_succ]
    refine wpAnyN_take (i := 18) (v := ?_) rfl (by as_aux_lemma => kernel_rfl) (by as_aux_lemma => kernel_rfl) (by as_aux_lemma => kernel_rfl) (by as_aux_lemma => kernel_rfl) (fun _ _ _ h => h) (by assumption) hS0 (Or.inl ⟨by rfl, ?_⟩) (fun hcl18 => ?_)
    rotate_left
    · (intro wS hSw; (obtain ⟨hSa, hSb, hSc, hSd, hSe, hSf⟩ := hSw); go_simp; (try with_reducible rfl))
    clear hcl17
    try simp only [Act.put, List.getElem_toArray, List.getElem_cons_succ, List.getElem_cons_zero, List.setIfInBounds_toArray, List.set_cons_zero, List.set_cons_succ]
    refine wpAnyN_take (i := 19) (v := ?_) rfl (by as_aux_lemma => kernel_rfl) (by as_aux_lemma => kernel_rfl) (by as_aux_lemma => kernel_rfl) (by as_aux_lemma => kernel_rfl) (fun _ _ _ h => h) (by assumption) hS0 (Or.inl ⟨by rfl, ?_⟩) (fun hcl19 => ?_)
    rotate_left
    · (intro wS hSw; (obtain ⟨hSa, hSb, hSc, hSd, hSe, hSf⟩ := hSw); go_simp; (try with_reducible rfl))
    clear hcl18
    try simp only [Act.put, List.getElem_toArray, List.getElem_cons_succ, List.getElem_cons_zero, List.setIfInBounds_toArray, List.set_cons_zero, List.set_cons_succ]
    refine wpAnyN_take (i := 20) (v := ?_) rfl (by as_aux_lemma => kernel_rfl) (by as_aux_lemma => kernel_rfl) (by as_aux_lemma => kernel_rfl) (by as_aux_lemma => kernel_rfl) (fun _ _ _ h => h) (by assumption) hS0 (Or.inl ⟨by rfl, ?_⟩) (fun hcl20 => ?_)
    rotate_left
    · (intro wS hSw; (obtain ⟨hSa, hSb, hSc, hSd, hSe, hSf⟩ := hSw); go_simp; (try with_reducible rfl))
    clear hcl19
    try simp only [Act.put, List.getElem_toArray, List.getElem_cons_succ, List.getElem_cons_zero, List.setIfInBounds_toArray, List.set_cons_zero, List.set_cons_succ]
    refine wpAnyN_take (i := 21) (v := ?_) rfl (by as_aux_lemma => kernel_rfl) (by as_aux_lemma => kernel_rfl) (by as_aux_lemma => kernel_rfl) (by as_aux_lemma => kernel_rfl) (fun _ _ _ h => h) (by assumption) hS0 (Or.inl ⟨by rfl, ?_⟩) (fun hcl21 => ?_)
    rotate_left
    · (intro wS hSw; (obtain ⟨hSa, hSb, hSc, hSd, hSe, hSf⟩ := hSw); go_simp; (try with_reducible rfl))
    clear hcl20
    try simp only [Act.put, List.getElem_toArray, List.getElem_cons_succ, List.getElem_cons_zero, List.setIfInBounds_toArray, List.set_cons_zero, List.set_cons_succ]
    refine wpAnyN_take (i := 22) (v := ?_) rfl (by as_aux_lemma => kernel_rfl) (by as_aux_lemma => kernel_rfl) (by as_aux_lemma => kernel_rfl) (by as_aux_lemma => kernel_rfl) (fun _ _ _ h => h) (by assumption) hS0 (Or.inl ⟨by rfl, ?_⟩) (fun hcl22 => ?_)
    rotate_left
    · (intro wS hSw; (obtain ⟨hSa, hSb, hSc, hSd, hSe, hSf⟩ := hSw); go_simp; (try with_reducible rfl))
    clear hcl21
    try simp only [Act.put, List.getElem_toArray, List.getElem_cons_succ, List.getElem_cons_zero, List.setIfInBounds_toArray, List.set_cons_zero, List.set_cons_succ]
    refine wpAnyN_take (i := 23) (v := ?_) rfl (by as_aux_lemma => kernel_rfl) (by as_aux_lemma => kernel_rfl) (by as_aux_lemma => kernel_rfl) (by as_aux_lemma => kernel_rfl) (fun _ _ _ h => h) (by assumption) hS0 (Or.inl ⟨by rfl, ?_⟩) (fun hcl23 => ?_)
    rotate_left
    · (intro wS hSw; (obtain ⟨hSa, hSb, hSc, hSd, hSe, hSf⟩ := hSw); go_simp; (try with_reducible rfl))
    clear hcl22
    try simp only [Act.put, List.getElem_toArray, List.getElem_cons_succ, List.getElem_cons_zero, List.setIfInBounds_toArray, List.set_cons_zero, List.set_cons_succ]
    refine wpAnyN_take (i := 24) (v := ?_) rfl (by as_aux_lemma => kernel_rfl) (by as_aux_lemma => kernel_rfl) (by as_aux_lemma => kernel_rfl) (by as_aux_lemma => kernel_rfl) (fun _ _ _ h => h) (by assumption) hS0 (Or.inl ⟨by rfl, ?_⟩) (fun hcl24 => ?_)
    rotate_left
    · (intro wS hSw; (obtain ⟨hSa, hSb, hSc, hSd, hSe, hSf⟩ := hSw); go_simp; (try with_reducible rfl))
    clear hcl23
    try simp only [Act.put, List.getElem_toArray, List.getElem_cons_succ, List.getElem_cons_zero, List.setIfInBounds_toArray, List.set_cons_zero, List.set_cons_succ]
    refine wpAnyN_take (i := 25) (v := ?_) rfl (by as_aux_lemma => kernel_rfl) (by as_aux_lemma => kernel_rfl) (by as_aux_lemma => kernel_rfl) (by as_aux_lemma => kernel_rfl) (fun _ _ _ h => h) (by assumption) hS0 (Or.inl ⟨by rfl, ?_⟩) (fun hcl25 => ?_)
    rotate_left
    · (intro wS hSw; (obtain ⟨hSa, hSb, hSc, hSd, hSe, hSf⟩ := hSw); go_simp; (try with_reducible rfl))
    clear hcl24
    try simp only [Act.put, List.getElem_toArray, List.getElem_cons_succ, List.getElem_cons_zero, List.setIfInBounds_toArray, List.set_cons_zero, List.set_cons_succ]
    refine wpAnyN_take (i := 26) (v := ?_) rfl (by as_aux_lemma => kernel_rfl) (by as_aux_lemma => kernel_rfl) (by as_aux_lemma => kernel_rfl) (by as_aux_lemma => kernel_rfl) (fun _ _ _ h => h) (by assumption) hS0 (Or.inl ⟨by rfl, ?_⟩) (fun hcl26 => ?_)
    rotate_left
    · (intro wS hSw; (obtain ⟨hSa, hSb, hSc, hSd, hSe, hSf⟩ := hSw); go_simp; (try with_reducible rfl))
    clear hcl25
    try simp only [Act.put, List.getElem_toArray, List.getElem_cons_succ, List.getElem_cons_zero, List.setIfInBounds_toArray, List.set_cons_zero, List.set_cons_succ]
    refine wpAnyN_take (i := 27) (v := ?_) rfl (by as_aux_lemma => kernel_rfl) (by as_aux_lemma => kernel_rfl) (by as_aux_lemma => kernel_rfl) (by as_aux_lemma => kernel_rfl) (fun _ _ _ h => h) (by assumption) hS0 (Or.inl ⟨by rfl, ?_⟩) (fun hcl27 => ?_)
    rotate_left
    · (intro wS hSw; (obtain ⟨hSa, hSb, hSc, hSd, hSe, hSf⟩ := hSw); go_simp; (try with_reducible rfl))
    clear hcl26
    try simp only [Act.put, List.getElem_toArray, List.getElem_cons_succ, List.getElem_cons_zero, List.setIfInBounds_toArray, List.set_cons_zero, List.set_cons_succ]
    refine wpAnyN_take (i := 28) (v := ?_) rfl (by as_aux_lemma => kernel_rfl) (by as_aux_lemma => kernel_rfl) (by as_aux_lemma => kernel_rfl) (by as_aux_lemma => kernel_rfl) (fun _ _ _ h => h) (by assumption) hS0 (Or.inl ⟨by rfl, ?_⟩) (fun hcl28 => ?_)
    rotate_left
    · (intro wS hSw; (obtain ⟨hSa, hSb, hSc, hSd, hSe, hSf⟩ := hSw); go_simp; (try with_reducible rfl))
    clear hcl27
    try simp only [Act.put, List.getElem_toArray, List.getElem_cons_succ, List.getElem_cons_zero, List.setIfInBounds_toArray, List.set_cons_zero, List.set_cons_succ]
    refine wpAnyN_take (i := 29) (v := ?_) rfl (by as_aux_lemma => kernel_rfl) (by as_aux_lemma => kernel_rfl) (by as_aux_lemma => kernel_rfl) (by as_aux_lemma => kernel_rfl) (fun _ _ _ h => h) (by assumption) hS0 (Or.inl ⟨by rfl, ?_⟩) (fun hcl29 => ?_)
    rotate_left
    · (intro wS hSw; (obtain ⟨hSa, hSb, hSc, hSd, hSe, hSf⟩ := hSw); go_simp; (try with_reducible rfl))
    clear hcl28
    try simp only [Act.put, List.getElem_toArray, List.getElem_cons_succ, List.getElem_cons_zero, List.setIfInBounds_toArray, List.set_cons_zero, List.set_cons_succ]
    refine wpAnyN_take (i := 30) (v := ?_) rfl (by as_aux_lemma => kernel_rfl) (by as_aux_lemma => kernel_rfl) (by as_aux_lemma => kernel_rfl) (by as_aux_lemma => kernel_rfl) (fun _ _ _ h => h) (by assumption) hS0 (Or.inl ⟨by rfl, ?_⟩) (fun hcl30 => ?_)
    rotate_left
    · (intro wS hSw; (obtain ⟨hSa, hSb, hSc, hSd, hSe, hSf⟩ := hSw); go_simp; (try with_reducible rfl))
    clear hcl29
    try simp only [Act.put, List.getElem_toArray, List.getElem_cons_succ, List.getElem_cons_zero, List.setIfInBounds_toArray, List.set_cons_zero, List.set_cons_succ]
    refine wpAnyN_take (i := 31) (v := ?_) rfl (by as_aux_lemma => kernel_rfl) (by as_aux_lemma => kernel_rfl) (by as_aux_lemma => kernel_rfl) (by as_aux_lemma => kernel_rfl) (fun _ _ _ h => h) (by assumption) hS0 (Or.inl ⟨by rfl, ?_⟩) (fun hcl31 => ?_)
    rotate_left
    · (intro wS hSw; (obtain ⟨hSa, hSb, hSc, hSd, hSe, hSf⟩ := hSw); go_simp; (try with_reducible rfl))
    clear hcl30
    try simp only [Act.put, List.getElem_toArray, List.getElem_cons_succ, List.getElem_cons_zero, List.setIfInBounds_toArray, List.set_cons_zero, List.set_cons_succ]
    refine wpAnyN_take (i := 32) (v := ?_) rfl (by as_aux_lemma => kernel_rfl) (by as_aux_lemma => kernel_rfl) (by as_aux_lemma => kernel_rfl) (by as_aux_lemma => kernel_rfl) (fun _ _ _ h => h) (by assumption) hS0 (Or.inl ⟨by rfl, ?_⟩) (fun hcl32 => ?_)
    rotate_left
    · (intro wS hSw; (obtain ⟨hSa, hSb, hSc, hSd, hSe, hSf⟩ := hSw); go_simp; (try with_reducible rfl))
    clear hcl31
    try simp only [Act.put, List.getElem_toArray, List.getElem_cons_succ, List.getElem_cons_zero, List.setIfInBounds_toArray, List.set_cons_zero, List.set_cons_succ]
    refine wpAnyN_take (i := 33) (v := ?_) rfl (by as_aux_lemma => kernel_rfl) (by as_aux_lemma => kernel_rfl) (by as_aux_lemma => kernel_rfl) (by as_aux_lemma => kernel_rfl) (fun _ _ _ h => h) (by assumption) hS0 (Or.inl ⟨by rfl, ?_⟩) (fun hcl33 => ?_)
    rotate_left
    · (intro wS hSw; (obtain ⟨hSa, hSb, hSc, hSd, hSe, hSf⟩ := hSw); go_simp; (try with_reducible rfl))
    clear hcl32
    try simp only [Act.put, List.getElem_toArray, List.getElem_cons_succ, List.getElem_cons_zero, List.setIfInBounds_toArray, List.set_cons_zero, List.set_cons_succ]
    refine wpAnyN_take (i := 34) (v := ?_) rfl (by as_aux_lemma => kernel_rfl) (by as_aux_lemma => kernel_rfl) (by as_aux_lemma => kernel_rfl) (by as_aux_lemma => kernel_rfl) (fun _ _ _ h => h) (by assumption) hS0 (Or.inl ⟨by rfl, ?_⟩) (fun hcl34 => ?_)
    rotate_left
    · (intro wS hSw; (obtain ⟨hSa, hSb, hSc, hSd, hSe, hSf⟩ := hSw); go_simp; (try with_reducible rfl))
    clear hcl33
    try simp only [Act.put, List.getElem_toArray, List.getElem_cons_succ, List.getElem_cons_zero, List.setIfInBounds_toArray, List.set_cons_zero, List.set_cons_succ]
    refine wpAnyN_take (i := 35) (v := ?_) rfl (by as_aux_lemma => kernel_rfl) (by as_aux_lemma => kernel_rfl) (by as_aux_lemma => kernel_rfl) (by as_aux_lemma => kernel_rfl) (fun _ _ _ h => h) (by assumption) hS0 (Or.inl ⟨by rfl, ?_⟩) (fun hcl35 => ?_)
    rotate_left
    · (intro wS hSw; (obtain ⟨hSa, hSb, hSc, hSd, hSe, hSf⟩ := hSw); go_simp; (try with_reducible rfl))
    clear hcl34
    try simp only [Act.put, List.getElem_toArray, List.getElem_cons_succ, List.getElem_cons_zero, List.setIfInBounds_toArray, List.set_cons_zero, List.set_cons_succ]
    refine wpAnyN_take (i := 36) (v := ?_) rfl (by as_aux_lemma => kernel_rfl) (by as_aux_lemma => kernel_rfl) (by as_aux_lemma => kernel_rfl) (by as_aux_lemma => kernel_rfl) (fun _ _ _ h => h) (by assumption) hS0 (Or.inl ⟨by rfl, ?_⟩) (fun hcl36 => ?_)
    rotate_left
    · (intro wS hSw; (obtain ⟨hSa, hSb, hSc, hSd, hSe, hSf⟩ := hSw); go_simp; (try with_reducible rfl))
    clear hcl35
    try simp only [Act.put, List.getElem_toArray, List.getElem_cons_succ, List.getElem_cons_zero, List.setIfInBounds_toArray, List.set_cons_zero, List.set_cons_succ]
    refine wpAnyN_take (i := 37) (v := ?_) rfl (by as_aux_lemma => kernel_rfl) (by as_aux_lemma => kernel_rfl) (by as_aux_lemma => kernel_rfl) (by as_aux_lemma => kernel_rfl) (fun _ _ _ h => h) (by assumption) hS0 (Or.inl ⟨by rfl, ?_⟩) (fun hcl37 => ?_)
    rotate_left
    · (intro wS hSw; (obtain ⟨hSa, hSb, hSc, hSd, hSe, hSf⟩ := hSw); go_simp; (try with_reducible rfl))
    clear hcl36
    try simp only [Act.put, List.getElem_toArray, List.getElem_cons_succ, List.getElem_cons_zero, List.setIfInBounds_toArray, List.set_cons_zero, List.set_cons_succ]
    refine wpAnyN_take (i := 38) (v := ?_) rfl (by as_aux_lemma => kernel_rfl) (by as_aux_lemma => kernel_rfl) (by as_aux_lemma => kernel_rfl) (by as_aux_lemma => kernel_rfl) (fun _ _ _ h => h) (by assumption) hS0 (Or.inl ⟨by rfl, ?_⟩) (fun hcl38 => ?_)
    rotate_left
    · (intro wS hSw; (obtain ⟨hSa, hSb, hSc, hSd, hSe, hSf⟩ := hSw); go_simp; (try with_reducible rfl))
    clear hcl37
    try simp only [Act.put, List.getElem_toArray, List.getElem_cons_succ, List.getElem_cons_zero, List.setIfInBounds_toArray, List.set_cons_zero, List.set_cons_succ]
    refine wpAnyN_oneC (i := 39) (by as_aux_lemma => kernel_rfl) rfl (by assumption) (fun hcl39 K' hK' => ?_)
    clear hcl38
    go_simp
    go_at_call 11
    refine (HKN.out _).mono ?_
    rintro e wk ⟨rfl, hsk⟩
    have hS1 : wk.cell? ⟨pb, po, none⟩ = some (.int .u8 b0) ∧ wk.cell? ⟨pb, po + 4, none⟩ = some (.int .u8 0) ∧ wk.cell? ⟨pb, po + 5, none⟩ = some (.int .u8 b5) ∧ wk.cell? ⟨pb, po + 6, none⟩ = some (.int .u8 b6) ∧ wk.cell? ⟨pb, po + 7, none⟩ = some (.int .u8 b7) ∧ wk.cell? ⟨w.heap.size, 14, none⟩ = some (.slice A LD cap) := ⟨hsk.cell hS0.1 id, hsk.cell hS0.2.1 id, hsk.cell hS0.2.2.1 id, hsk.cell hS0.2.2.2.1 id, hsk.cell hS0.2.2.2.2.1 id, hsk.cell hS0.2.2.2.2.2 id⟩
    have HSK := Lib.hid (Same.trans (HPB.out.1.drew) hsk)
    clear hsk
    refine hK'.out _ _ (fun _ => hS1) ?_
    clear hK' K'
    try simp only [Act.put, List.getElem_toArray, List.getElem_cons_succ, List.getElem_cons_zero, List.setIfInBounds_toArray, List.set_cons_zero, List.set_cons_succ]
    refine wpAnyN_take (i := 40) (v := ?_) rfl (by as_aux_lemma => kernel_rfl) (by as_aux_lemma => kernel_rfl) (by as_aux_lemma => kernel_rfl) (by as_aux_lemma => kernel_rfl) (fun _ _ _ h => h) (by assumption) hS1 (Or.inl ⟨by rfl, ?_⟩) (fun hcl40 => ?_)
    rotate_left
    · (intro wS hSw; (obtain ⟨hSa, hSb, hSc, hSd, hSe, hSf⟩ := hSw); go_simp; (try with_reducible rfl))
    clear hcl39
    try simp only [Act.put, List.getElem_toArray, List.getElem_cons_succ, List.getElem_cons_zero, List.setIfInBounds_toArray, List.set_cons_zero, List.set_cons_succ]
    refine wpAnyN_take (i := 41) (v := ?_) rfl (by as_aux_lemma => kernel_rfl) (by as_aux_lemma => kernel_rfl) (by as_aux_lemma => kernel_rfl) (by as_aux_lemma => kernel_rfl) (fun _ _ _ h => h) (by assumption) hS1 (Or.inl ⟨by rfl, ?_⟩) (fun hcl41 => ?_)
    rotate_left
    · (intro wS hSw; (obtain ⟨hSa, hSb, hSc, hSd, hSe, hSf⟩ := hSw); go_simp; (try with_reducible rfl))
    clear hcl40
    try simp only [Act.put, List.getElem_toArray, List.getElem_cons_succ, List.getElem_cons_zero, List.setIfInBounds_toArray, List.set_cons_zero, List.set_cons_succ]
    refine wpAnyN_done (by as_aux_lemma => kernel_rfl) ?_ _
    refine NoPanic.normal ?_
    go_wp2_with fail
    go_ret
    exact ⟨rfl, HSK.out⟩
  · have hE2 : (pduE p o != 0) = true := by simpa using hE
    have hn0 : n' = 0 := by rw [HF.out.len']; unfold pduL; rw [if_neg hE]; rfl
    subst hn0
    generalize pduE p o = E at hE hE2
    have hE3 : (E == 0) = false := by simpa using hE
    clear hE
    go_wp2_with fail
    refine (HKN.out _).mono ?_
    rintro e wk ⟨rfl, hsk⟩
    have HSK := Lib.hid (Same.trans HPB.out.1 hsk)
    clear hsk
    go_wp2_with fail
    go_ret
    exact ⟨rfl, HSK.out⟩
theorem pduLength_walk2 (w : World) (v : Value) (p : Pd) (hp : PdIn w v p) (u : Value) (o : Ag) (ho : u = agA o ∧ True) :
    Calls Try.prog 4 #[v, u] w fun e w' => e = .returned (.bool true) ∧ Same w w' := by
  obtain ⟨A, n, cap, rfl, h1, h2, h3⟩ := hp
  obtain ⟨rfl, -⟩ := ho
  exact pduLength_walk w p A n cap o h1 h2 h3
end Go.Proofs.Ytfafepmghcobdaa
