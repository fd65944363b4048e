/- Letters (chapter 17): the reference's Next, its ways out (2). -/
import Derived.Test.YtfafepmghcobdaaPduF0
import Derived.Deep.CutRange
import Derived.Deep.CutBlock
import Derived.Deep.Cut
import Derived.Deep.DeepCutAuto
namespace Go.Proofs.Ytfafepmghcobdaa
open Go.RowKit
set_option linter.unusedVariables false
set_option linter.unusedSimpArgs false
set_option maxRecDepth 100000
set_option maxHeartbeats 8000000
attribute [local go_sem ↓] Go.wp_at_zero Go.wp_at_succ
theorem rnext_way2 {base : Nat} {w : World} {b : Nat} {v : Value} {r : Rd1} (h : RdV base w b v r) (hbase : base ≤ w.heap.size) (hr : r.b.length ≤ 131072) (hk : r.next.2.2.2.dead = false ∧ r.next.2.2.1 = false) :
    Calls Try.prog 27 #[.pointer (some ⟨b, 0, none⟩)] w fun e w' => NextPost base w b v r.next e w' := by
  obtain ⟨A, n, cap, rfl⟩ := Fresh.shape h.2.2.2.1
  have hn := h.2.2.2.1.len'
  subst hn
  have H0 := Lib.hid h
  have HR := Lib.hid hr
  have HBS := Lib.hid hbase
  have HK := Lib.hid hk
  clear hk hbase
  have hns : NS base w (w.alloc (.cells #[.int .i64 0, .bool false, .int .i64 0, .int .i64 0, .int .i64 0, .int .u64 0, .int .u32 0, .int .u32 0, .int .u32 0, .int .u32 0, .int .u32 0, .int .u32 0, .int .u32 0, .int .u32 0, .slice none 0 0] 42)) b (.slice A r.b.length cap) r := NS.init h 42
  clear h hr
  generalize hNX : r.next = NX
  have HNX := Lib.hid hNX
  clear hNX
  go_enter Try.func27, Try.ntmps27
  go_upto_region 1 with (fail)
  generalize w.alloc (.cells #[.int .i64 0, .bool false, .int .i64 0, .int .i64 0, .int .i64 0, .int .u64 0, .int .u32 0, .int .u32 0, .int .u32 0, .int .u32 0, .int .u32 0, .int .u32 0, .int .u32 0, .int .u32 0, .slice none 0 0] 42) = w1 at hns ⊢
  have HNS := Lib.hid hns
  have c4 := hns.1.2.1 4 _ rfl
  clear hns
  by_cases hd : r.dead = true
  · have HN := Lib.hid (next_dead hd)
    exact absurd HK.out (by rw [HN.out]; simp [noP, hd])
  · rw [Bool.not_eq_true] at hd
    rw [hd] at c4
    have HD := Lib.hid hd
    clear hd
    have hat : r.at_ = 48 + if r.o.hs then 4 else 0 := by unfold Rd1.at_; split <;> rfl
    have HAT := Lib.hid hat
    clear hat
    generalize hX : r.hbad = X
    have HXB := Lib.hid hX
    clear hX
    have c0 := HNS.out.1.2.1 0 _ rfl
    go_upto_if 27 with (fail)
    go_cut [5] from 18 (fun v5 wx => v5 = .int .i64 (r.at_ : Nat) ∧ NS base w wx b (.slice A r.b.length cap) r)
    case first => as_aux_lemma =>
      by_cases hhs : r.o.hs = true
      · have ha := HAT.out
        rw [hhs] at ha c0 ⊢
        clear hhs
        go_wp2_with fail
        go_meet
        exact ⟨by rw [ha]; rfl, HNS.out⟩
      · rw [Bool.not_eq_true] at hhs
        have ha := HAT.out
        rw [hhs] at ha c0 ⊢
        clear hhs
        go_wp2_with fail
        go_meet
        exact ⟨by rw [ha]; rfl, HNS.out⟩
    case rest =>
      clear c0 c4 HNS
      obtain ⟨rfl, hns⟩ := hcut
      have HNS := Lib.hid hns
      have c3 := hns.1.2.1 3 _ rfl
      clear hns
      by_cases h1 : r.b.length < r.at_
      · have HN := Lib.hid (next_short HD.out h1)
        have h1i : (r.b.length : Int) < (r.at_ : Nat) := by omega
        clear h1
        have z0 := HNS.out.2.1.1 0 _ rfl
        have z1 := HNS.out.2.1.1 1 _ rfl
        have z2 := HNS.out.2.1.1 2 _ rfl
        have z3 := HNS.out.2.1.1 3 _ rfl
        have z4 := HNS.out.2.1.1 4 _ rfl
        have z5 := HNS.out.2.1.1 5 _ rfl
        have z6 := HNS.out.2.1.1 6 _ rfl
        have z7 := HNS.out.2.1.1 7 _ rfl
        have z8 := HNS.out.2.1.1 8 _ rfl
        have z9 := HNS.out.2.1.1 9 _ rfl
        have z10 := HNS.out.2.1.1 10 _ rfl
        have z11 := HNS.out.2.1.1 11 _ rfl
        have z12 := HNS.out.2.1.1 12 _ rfl
        have z13 := HNS.out.2.1.1 13 _ rfl
        have z14 := HNS.out.2.1.1 14 _ rfl
        have fz := HNS.out.2.1.2
        unfold FzAt at fz
        go_wp2_with fail
        try rw [Exit.noGoto_ret]
        refine rnext_ret (b := w.heap.size) noP none 0 0 (x := 0) (y := false) ?_ ?_ ?_ ?_ (BoxTo.full ?_) ?_
        · rfl
        · rfl
        · rfl
        · rfl
        · iterate 15 refine BoxTo.step ?_ (by decide) rfl
          exact BoxTo.zero noP noP (.slice none 0 0) (.slice none 0 0) HNS.out.2.1.1
        · try rw [← HNX.out, HN.out]
          refine NS.exit H0.out HNS.out ?_ 0 false
          repeat refine Upd.setCell ?_ (by simp) _
          exact Upd.refl _ _
      · have h1i : ¬ (r.b.length : Int) < (r.at_ : Nat) := by omega
        have H1 := Lib.hid h1
        have hlen48 : 48 ≤ r.b.length := by have h1 := HAT.out; omega
        have HCAP := Lib.hid HNS.out.1.2.2.2.1.cap
        have hc1 : (48 : Int) ≤ (cap : Int) := by have := HCAP.out; omega
        have hcm : cap ≤ 9223372036854775807 := HCAP.out.2
        have HL48 := Lib.hid hlen48
        clear h1 hlen48
        go_upto_region 9 with (fail)
        go_cut [5, 6, 57] from 18 (fun v5 v6 v57 wx => v5 = .int .i64 (r.at_ : Nat) ∧ v6 = .slice A 48 cap ∧ v57 = .bool X ∧ NS base w wx b (.slice A r.b.length cap) r)
        case first => as_aux_lemma =>
          have c0 := HNS.out.1.2.1 0 _ rfl
          by_cases hhs : r.o.hs = true
          · rw [hhs] at c0
            have hlen : 52 ≤ r.b.length := by have h1 := HAT.out; rw [hhs] at h1; have h2 := H1.out; simp at h1; omega
            have hb1 := (HNS.out.1.2.2.2.1.bs).take 48 (by omega)
            have hb2 := ((HNS.out.1.2.2.2.1.bs).take 52 (by omega)).drop 48 (by omega)
            have HB1 := Lib.hid hb1
            have HB2 := Lib.hid hb2
            have hc2 : (52 : Int) ≤ (cap : Int) := by have := HCAP.out; omega
            have hc3 : ¬ cap = 48 := by have := HCAP.out; omega
            have hS0 : wc.drew.cell? ⟨b, 0, none⟩ = some (.bool true) ∧ wc.drew.cell? ⟨b, 3, none⟩ = some (.slice A r.b.length cap) := ⟨(Upd.refl (fun _ => False) _).drew.cell c0 (fun h => h), (Upd.refl (fun _ => False) _).drew.cell c3 (fun h => h)⟩
            have hb3 : Bs wc (.slice (Option.map (fun x => ({ block := x.block, off := x.off + 48 } : Addr)) A) 4 (cap - 48)) ((r.b.drop 48).take 4) := by
              have h3 := HB2.out
              rw [if_neg hc3, List.drop_take] at h3
              exact h3
            have HB3 := Lib.hid hb3
            have hX2 : Value.bool (eqB (crcDigest (crcSum (r.b.take 48))) ((r.b.drop 48).take 4)) = .bool (!X) := by
              rw [eqB_beq, ← HXB.out]
              unfold Rd1.hbad
              rw [hhs]
              simp
            clear hb1 hb2 HB2 hhs hb3
            have CV := Lib.hid (fun (w : World) (v : Value) (bs : List UInt8) (h : Bs w v bs) => conv_bs (P := Try.prog) (src := 33) (dst := 9) Try.underlying33 Try.underlying5 Try.underlying9 h)
            have hSd : Bs wc.drew (.slice (Option.map (fun x => ({ block := x.block, off := x.off + 48 } : Addr)) A) 4 (cap - 48)) ((r.b.drop 48).take 4) := HB3.out.same (Upd.refl _ _).drew
            have hS0 := And.intro hS0.1 (And.intro hS0.2 hSd)
            clear hSd
            refine wp_region_noPanic ?_
            refine wp_region_need (fun w' => w'.cell? ⟨b, 0, none⟩ = some (.bool true) ∧ w'.cell? ⟨b, 3, none⟩ = some (.slice A r.b.length cap) ∧ Bs w' (.slice (Option.map (fun x => ({ block := x.block, off := x.off + 48 } : Addr)) A) 4 (cap - 48)) ((r.b.drop 48).take 4)) (fun _ => true) (by kernel_rfl) (fun hcl => ?_)
            refine wpAnyN_take (i := 0) (v := ?_) rfl (by as_aux_lemma => kernel_rfl) (by as_aux_lemma => kernel_rfl) (by as_aux_lemma => kernel_rfl) (by as_aux_lemma => kernel_rfl) (fun _ _ _ h => h) (by assumption) hS0 (Or.inl ⟨by rfl, ?_⟩) (fun hcl0 => ?_)
            rotate_left
            · (intro wS hSw; (try obtain ⟨hSa, hSb, hSc⟩ := hSw); (try have hcv := CV.out wS _ _ hSc); go_simp; (try with_reducible rfl))
            clear hcl
            try simp only [Act.put, List.getElem_toArray, List.getElem_cons_succ, List.getElem_cons_zero, List.setIfInBounds_toArray, List.set_cons_zero, List.set_cons_succ]
            refine wpAnyN_take (i := 1) (v := ?_) rfl (by as_aux_lemma => kernel_rfl) (by as_aux_lemma => kernel_rfl) (by as_aux_lemma => kernel_rfl) (by as_aux_lemma => kernel_rfl) (fun _ _ _ h => h) (by assumption) hS0 (Or.inl ⟨by rfl, ?_⟩) (fun hcl1 => ?_)
            rotate_left
            · (intro wS hSw; (try obtain ⟨hSa, hSb, hSc⟩ := hSw); (try have hcv := CV.out wS _ _ hSc); go_simp; (try with_reducible rfl))
            clear hcl0
            try simp only [Act.put, List.getElem_toArray, List.getElem_cons_succ, List.getElem_cons_zero, List.setIfInBounds_toArray, List.set_cons_zero, List.set_cons_succ]
            refine wpAnyN_take (i := 2) (v := ?_) rfl (by as_aux_lemma => kernel_rfl) (by as_aux_lemma => kernel_rfl) (by as_aux_lemma => kernel_rfl) (by as_aux_lemma => kernel_rfl) (fun _ _ _ h => h) (by assumption) hS0 (Or.inl ⟨by rfl, ?_⟩) (fun hcl2 => ?_)
            rotate_left
            · (intro wS hSw; (try obtain ⟨hSa, hSb, hSc⟩ := hSw); (try have hcv := CV.out wS _ _ hSc); go_simp; (try with_reducible rfl))
            clear hcl1
            try simp only [Act.put, List.getElem_toArray, List.getElem_cons_succ, List.getElem_cons_zero, List.setIfInBounds_toArray, List.set_cons_zero, List.set_cons_succ]
            refine wpAnyN_take (i := 3) (v := ?_) rfl (by as_aux_lemma => kernel_rfl) (by as_aux_lemma => kernel_rfl) (by as_aux_lemma => kernel_rfl) (by as_aux_lemma => kernel_rfl) (fun _ _ _ h => h) (by assumption) hS0 (Or.inl ⟨by rfl, ?_⟩) (fun hcl3 => ?_)
            rotate_left
            · (intro wS hSw; (try obtain ⟨hSa, hSb, hSc⟩ := hSw); (try have hcv := CV.out wS _ _ hSc); go_simp; (try with_reducible rfl))
            clear hcl2
            try simp only [Act.put, List.getElem_toArray, List.getElem_cons_succ, List.getElem_cons_zero, List.setIfInBounds_toArray, List.set_cons_zero, List.set_cons_succ]
            refine wpAnyN_take (i := 4) (v := ?_) rfl (by as_aux_lemma => kernel_rfl) (by as_aux_lemma => kernel_rfl) (by as_aux_lemma => kernel_rfl) (by as_aux_lemma => kernel_rfl) (fun _ _ _ h => h) (by assumption) hS0 (Or.inl ⟨by rfl, ?_⟩) (fun hcl4 => ?_)
            rotate_left
            · (intro wS hSw; (try obtain ⟨hSa, hSb, hSc⟩ := hSw); (try have hcv := CV.out wS _ _ hSc); go_simp; (try with_reducible rfl))
            clear hcl3
            try simp only [Act.put, List.getElem_toArray, List.getElem_cons_succ, List.getElem_cons_zero, List.setIfInBounds_toArray, List.set_cons_zero, List.set_cons_succ]
            refine wpAnyN_take (i := 5) (v := ?_) rfl (by as_aux_lemma => kernel_rfl) (by as_aux_lemma => kernel_rfl) (by as_aux_lemma => kernel_rfl) (by as_aux_lemma => kernel_rfl) (fun _ _ _ h => h) (by assumption) hS0 (Or.inl ⟨by rfl, ?_⟩) (fun hcl5 => ?_)
            rotate_left
            · (intro wS hSw; (try obtain ⟨hSa, hSb, hSc⟩ := hSw); (try have hcv := CV.out wS _ _ hSc); go_simp; (try with_reducible rfl))
            clear hcl4
            try simp only [Act.put, List.getElem_toArray, List.getElem_cons_succ, List.getElem_cons_zero, List.setIfInBounds_toArray, List.set_cons_zero, List.set_cons_succ]
            refine wpAnyN_take (i := 6) (v := ?_) rfl (by as_aux_lemma => kernel_rfl) (by as_aux_lemma => kernel_rfl) (by as_aux_lemma => kernel_rfl) (by as_aux_lemma => kernel_rfl) (fun _ _ _ h => h) (by assumption) hS0 (Or.inl ⟨by rfl, ?_⟩) (fun hcl6 => ?_)
            rotate_left
            · (intro wS hSw; (try obtain ⟨hSa, hSb, hSc⟩ := hSw); (try have hcv := CV.out wS _ _ hSc); go_simp; (try with_reducible rfl))
            clear hcl5
            try simp only [Act.put, List.getElem_toArray, List.getElem_cons_succ, List.getElem_cons_zero, List.setIfInBounds_toArray, List.set_cons_zero, List.set_cons_succ]
            refine wpAnyN_take (i := 9) (v := ?_) rfl (by as_aux_lemma => kernel_rfl) (by as_aux_lemma => kernel_rfl) (by as_aux_lemma => kernel_rfl) (by as_aux_lemma => kernel_rfl) (fun _ _ _ h => h) (by assumption) hS0 (Or.inl ⟨by rfl, ?_⟩) (fun hcl9 => ?_)
            rotate_left
            · (intro wS hSw; (try obtain ⟨hSa, hSb, hSc⟩ := hSw); (try have hcv := CV.out wS _ _ hSc); go_simp; (try with_reducible rfl))
            clear hcl6
            try simp only [Act.put, List.getElem_toArray, List.getElem_cons_succ, List.getElem_cons_zero, List.setIfInBounds_toArray, List.set_cons_zero, List.set_cons_succ]
            refine wpAnyN_take (i := 10) (v := ?_) rfl (by as_aux_lemma => kernel_rfl) (by as_aux_lemma => kernel_rfl) (by as_aux_lemma => kernel_rfl) (by as_aux_lemma => kernel_rfl) (fun _ _ _ h => h) (by assumption) hS0 (Or.inl ⟨by rfl, ?_⟩) (fun hcl10 => ?_)
            rotate_left
            · (intro wS hSw; (try obtain ⟨hSa, hSb, hSc⟩ := hSw); (try have hcv := CV.out wS _ _ hSc); go_simp; (try with_reducible rfl))
            clear hcl9
            try simp only [Act.put, List.getElem_toArray, List.getElem_cons_succ, List.getElem_cons_zero, List.setIfInBounds_toArray, List.set_cons_zero, List.set_cons_succ]
            refine wpAnyN_take (i := 11) (v := ?_) rfl (by as_aux_lemma => kernel_rfl) (by as_aux_lemma => kernel_rfl) (by as_aux_lemma => kernel_rfl) (by as_aux_lemma => kernel_rfl) (fun _ _ _ h => h) (by assumption) hS0 (Or.inl ⟨by rfl, ?_⟩) (fun hcl11 => ?_)
            rotate_left
            · (intro wS hSw; (try obtain ⟨hSa, hSb, hSc⟩ := hSw); (try have hcv := CV.out wS _ _ hSc); go_simp; (try with_reducible rfl))
            clear hcl10
            try simp only [Act.put, List.getElem_toArray, List.getElem_cons_succ, List.getElem_cons_zero, List.setIfInBounds_toArray, List.set_cons_zero, List.set_cons_succ]
            refine wpAnyN_take (i := 12) (v := ?_) rfl (by as_aux_lemma => kernel_rfl) (by as_aux_lemma => kernel_rfl) (by as_aux_lemma => kernel_rfl) (by as_aux_lemma => kernel_rfl) (fun _ _ _ h => h) (by assumption) hS0 (Or.inl ⟨by rfl, ?_⟩) (fun hcl12 => ?_)
            rotate_left
            · (intro wS hSw; (try obtain ⟨hSa, hSb, hSc⟩ := hSw); (try have hcv := CV.out wS _ _ hSc); go_simp; (try with_reducible rfl))
            clear hcl11
            try simp only [Act.put, List.getElem_toArray, List.getElem_cons_succ, List.getElem_cons_zero, List.setIfInBounds_toArray, List.set_cons_zero, List.set_cons_succ]
            refine wpAnyN_take (i := 13) (v := ?_) rfl (by as_aux_lemma => kernel_rfl) (by as_aux_lemma => kernel_rfl) (by as_aux_lemma => kernel_rfl) (by as_aux_lemma => kernel_rfl) (fun _ _ _ h => h) (by assumption) hS0 (Or.inl ⟨by rfl, ?_⟩) (fun hcl13 => ?_)
            rotate_left
            · (intro wS hSw; (try obtain ⟨hSa, hSb, hSc⟩ := hSw); (try have hcv := CV.out wS _ _ hSc); go_simp; (try with_reducible rfl))
            clear hcl12
            try simp only [Act.put, List.getElem_toArray, List.getElem_cons_succ, List.getElem_cons_zero, List.setIfInBounds_toArray, List.set_cons_zero, List.set_cons_succ]
            refine wpAnyN_take (i := 14) (v := ?_) rfl (by as_aux_lemma => kernel_rfl) (by as_aux_lemma => kernel_rfl) (by as_aux_lemma => kernel_rfl) (by as_aux_lemma => kernel_rfl) (fun _ _ _ h => h) (by assumption) hS0 (Or.inl ⟨by rfl, ?_⟩) (fun hcl14 => ?_)
            rotate_left
            · (intro wS hSw; (try obtain ⟨hSa, hSb, hSc⟩ := hSw); (try have hcv := CV.out wS _ _ hSc); go_simp; (try with_reducible rfl))
            clear hcl13
            try simp only [Act.put, List.getElem_toArray, List.getElem_cons_succ, List.getElem_cons_zero, List.setIfInBounds_toArray, List.set_cons_zero, List.set_cons_succ]
            refine wpAnyN_oneC (i := 7) (by as_aux_lemma => kernel_rfl) rfl (by assumption) (fun hcl7 K' hK' => ?_)
            clear hcl14
            go_simp
            go_at_call 44
            refine (rdigest_bs _ _ wc.drew (HB1.out.same (Upd.refl _ _).drew)).mono ?_
            rintro e w2 ⟨v2, rfl, hf2, hs2⟩
            have hS1 : w2.cell? ⟨b, 0, none⟩ = some (.bool true) ∧ w2.cell? ⟨b, 3, none⟩ = some (.slice A r.b.length cap) ∧ Bs w2 (.slice (Option.map (fun x => ({ block := x.block, off := x.off + 48 } : Addr)) A) 4 (cap - 48)) ((r.b.drop 48).take 4) := ⟨hs2.cell hS0.1 id, hs2.cell hS0.2.1 id, hS0.2.2.same hs2⟩
            have HS2 := Lib.hid hs2
            have hcv := CV.out w2 _ _ hf2.bs
            clear hs2 hf2
            refine hK'.out _ _ (fun _ => hS1) ?_
            clear hK' K'
            try simp only [Act.put, List.getElem_toArray, List.getElem_cons_succ, List.getElem_cons_zero, List.setIfInBounds_toArray, List.set_cons_zero, List.set_cons_succ]
            refine wpAnyN_oneC (i := 8) (by as_aux_lemma => kernel_rfl) rfl (by assumption) (fun hcl8 K' hK' => ?_)
            clear hcl7
            go_simp
            have hS2 := hS1
            refine hK'.out _ _ (fun _ => hS2) ?_
            clear hK' K'
            try simp only [Act.put, List.getElem_toArray, List.getElem_cons_succ, List.getElem_cons_zero, List.setIfInBounds_toArray, List.set_cons_zero, List.set_cons_succ]
            refine wpAnyN_take (i := 15) (v := ?_) rfl (by as_aux_lemma => kernel_rfl) (by as_aux_lemma => kernel_rfl) (by as_aux_lemma => kernel_rfl) (by as_aux_lemma => kernel_rfl) (fun _ _ _ h => h) (by assumption) hS2 (Or.inl ⟨by rfl, ?_⟩) (fun hcl15 => ?_)
            rotate_left
            · (intro wS hSw; (try obtain ⟨hSa, hSb, hSc⟩ := hSw); (try have hcv := CV.out wS _ _ hSc); go_simp; (try with_reducible rfl))
            clear hcl8
            try simp only [Act.put, List.getElem_toArray, List.getElem_cons_succ, List.getElem_cons_zero, List.setIfInBounds_toArray, List.set_cons_zero, List.set_cons_succ]
            refine wpAnyN_take (i := 16) (v := ?_) rfl (by as_aux_lemma => kernel_rfl) (by as_aux_lemma => kernel_rfl) (by as_aux_lemma => kernel_rfl) (by as_aux_lemma => kernel_rfl) (fun _ _ _ h => h) (by assumption) hS2 (Or.inl ⟨by rfl, ?_⟩) (fun hcl16 => ?_)
            rotate_left
            · (intro wS hSw; (try obtain ⟨hSa, hSb, hSc⟩ := hSw); (try have hcv := CV.out wS _ _ hSc); go_simp; (try with_reducible rfl))
            clear hcl15
            try simp only [Act.put, List.getElem_toArray, List.getElem_cons_succ, List.getElem_cons_zero, List.setIfInBounds_toArray, List.set_cons_zero, List.set_cons_succ]
            refine wpAnyN_done (by as_aux_lemma => kernel_rfl) ?_ _
            refine NoPanic.normal ?_
            go_wp2_with fail
            go_meet
            refine ⟨rfl, rfl, ?_, HNS.out.same (Same.trans (Upd.refl _ _).drew HS2.out)⟩
            trace_state
            simpa using hX2
          · rw [Bool.not_eq_true] at hhs
            rw [hhs] at c0
            have hXF : X = false := by rw [← HXB.out]; unfold Rd1.hbad; rw [hhs]; rfl
            have HXF := Lib.hid hXF
            have hS0 : wc.drew.cell? ⟨b, 0, none⟩ = some (.bool false) := (Upd.refl (fun _ => False) _).drew.cell c0 (fun h => h)
            clear hXF hhs
            refine wp_region_noPanic ?_
            refine wp_region_need (fun w' => w'.cell? ⟨b, 0, none⟩ = some (.bool false)) (fun _ => true) (by kernel_rfl) (fun hcl => ?_)
            refine wpAnyN_take (i := 0) (v := ?_) rfl (by as_aux_lemma => kernel_rfl) (by as_aux_lemma => kernel_rfl) (by as_aux_lemma => kernel_rfl) (by as_aux_lemma => kernel_rfl) (fun _ _ _ h => h) (by assumption) hS0 (Or.inl ⟨by rfl, ?_⟩) (fun hcl0 => ?_)
            rotate_left
            · (intro wS hSw; (try obtain ⟨hSa, hSb, hSc⟩ := hSw); (try have hcv := CV.out wS _ _ hSc); go_simp; (try with_reducible rfl))
            clear hcl
            try simp only [Act.put, List.getElem_toArray, List.getElem_cons_succ, List.getElem_cons_zero, List.setIfInBounds_toArray, List.set_cons_zero, List.set_cons_succ]
            refine wpAnyN_take (i := 1) (v := ?_) rfl (by as_aux_lemma => kernel_rfl) (by as_aux_lemma => kernel_rfl) (by as_aux_lemma => kernel_rfl) (by as_aux_lemma => kernel_rfl) (fun _ _ _ h => h) (by assumption) hS0 (Or.inl ⟨by rfl, ?_⟩) (fun hcl1 => ?_)
            rotate_left
            · (intro wS hSw; (try obtain ⟨hSa, hSb, hSc⟩ := hSw); (try have hcv := CV.out wS _ _ hSc); go_simp; (try with_reducible rfl))
            clear hcl0
            try simp only [Act.put, List.getElem_toArray, List.getElem_cons_succ, List.getElem_cons_zero, List.setIfInBounds_toArray, List.set_cons_zero, List.set_cons_succ]
            refine wpAnyN_take (i := 2) (v := ?_) rfl (by as_aux_lemma => kernel_rfl) (by as_aux_lemma => kernel_rfl) (by as_aux_lemma => kernel_rfl) (by as_aux_lemma => kernel_rfl) (fun _ _ _ h => h) (by assumption) hS0 (Or.inl ⟨by rfl, ?_⟩) (fun hcl2 => ?_)
            rotate_left
            · (intro wS hSw; (try obtain ⟨hSa, hSb, hSc⟩ := hSw); (try have hcv := CV.out wS _ _ hSc); go_simp; (try with_reducible rfl))
            clear hcl1
            try simp only [Act.put, List.getElem_toArray, List.getElem_cons_succ, List.getElem_cons_zero, List.setIfInBounds_toArray, List.set_cons_zero, List.set_cons_succ]
            refine wpAnyN_take (i := 3) (v := ?_) rfl (by as_aux_lemma => kernel_rfl) (by as_aux_lemma => kernel_rfl) (by as_aux_lemma => kernel_rfl) (by as_aux_lemma => kernel_rfl) (fun _ _ _ h => h) (by assumption) hS0 (Or.inl ⟨by rfl, ?_⟩) (fun hcl3 => ?_)
            rotate_left
            · (intro wS hSw; (try obtain ⟨hSa, hSb, hSc⟩ := hSw); (try have hcv := CV.out wS _ _ hSc); go_simp; (try with_reducible rfl))
            clear hcl2
            try simp only [Act.put, List.getElem_toArray, List.getElem_cons_succ, List.getElem_cons_zero, List.setIfInBounds_toArray, List.set_cons_zero, List.set_cons_succ]
            refine wpAnyN_take (i := 4) (v := ?_) rfl (by as_aux_lemma => kernel_rfl) (by as_aux_lemma => kernel_rfl) (by as_aux_lemma => kernel_rfl) (by as_aux_lemma => kernel_rfl) (fun _ _ _ h => h) (by assumption) hS0 (Or.inl ⟨by rfl, ?_⟩) (fun hcl4 => ?_)
            rotate_left
            · (intro wS hSw; (try obtain ⟨hSa, hSb, hSc⟩ := hSw); (try have hcv := CV.out wS _ _ hSc); go_simp; (try with_reducible rfl))
            clear hcl3
            try simp only [Act.put, List.getElem_toArray, List.getElem_cons_succ, List.getElem_cons_zero, List.setIfInBounds_toArray, List.set_cons_zero, List.set_cons_succ]
            refine wpAnyN_take (i := 5) (v := ?_) rfl (by as_aux_lemma => kernel_rfl) (by as_aux_lemma => kernel_rfl) (by as_aux_lemma => kernel_rfl) (by as_aux_lemma => kernel_rfl) (fun _ _ _ h => h) (by assumption) hS0 (Or.inl ⟨by rfl, ?_⟩) (fun hcl5 => ?_)
            rotate_left
            · (intro wS hSw; (try obtain ⟨hSa, hSb, hSc⟩ := hSw); (try have hcv := CV.out wS _ _ hSc); go_simp; (try with_reducible rfl))
            clear hcl4
            try simp only [Act.put, List.getElem_toArray, List.getElem_cons_succ, List.getElem_cons_zero, List.setIfInBounds_toArray, List.set_cons_zero, List.set_cons_succ]
            refine wpAnyN_take (i := 6) (v := undef) rfl (by as_aux_lemma => kernel_rfl) (by as_aux_lemma => kernel_rfl) (by as_aux_lemma => kernel_rfl) (by as_aux_lemma => kernel_rfl) (fun _ _ _ h => h) (by assumption) hS0 (Or.inr ⟨by rfl, rfl⟩) (fun hcl6 => ?_)
            clear hcl5
            try simp only [Act.put, List.getElem_toArray, List.getElem_cons_succ, List.getElem_cons_zero, List.setIfInBounds_toArray, List.set_cons_zero, List.set_cons_succ]
            refine wpAnyN_take (i := 7) (v := undef) rfl (by as_aux_lemma => kernel_rfl) (by as_aux_lemma => kernel_rfl) (by as_aux_lemma => kernel_rfl) (by as_aux_lemma => kernel_rfl) (fun _ _ _ h => h) (by assumption) hS0 (Or.inr ⟨by rfl, rfl⟩) (fun hcl7 => ?_)
            clear hcl6
            try simp only [Act.put, List.getElem_toArray, List.getElem_cons_succ, List.getElem_cons_zero, List.setIfInBounds_toArray, List.set_cons_zero, List.set_cons_succ]
            refine wpAnyN_take (i := 8) (v := undef) rfl (by as_aux_lemma => kernel_rfl) (by as_aux_lemma => kernel_rfl) (by as_aux_lemma => kernel_rfl) (by as_aux_lemma => kernel_rfl) (fun _ _ _ h => h) (by assumption) hS0 (Or.inr ⟨by rfl, rfl⟩) (fun hcl8 => ?_)
            clear hcl7
            try simp only [Act.put, List.getElem_toArray, List.getElem_cons_succ, List.getElem_cons_zero, List.setIfInBounds_toArray, List.set_cons_zero, List.set_cons_succ]
            refine wpAnyN_take (i := 9) (v := undef) rfl (by as_aux_lemma => kernel_rfl) (by as_aux_lemma => kernel_rfl) (by as_aux_lemma => kernel_rfl) (by as_aux_lemma => kernel_rfl) (fun _ _ _ h => h) (by assumption) hS0 (Or.inr ⟨by rfl, rfl⟩) (fun hcl9 => ?_)
            clear hcl8
            try simp only [Act.put, List.getElem_toArray, List.getElem_cons_succ, List.getElem_cons_zero, List.setIfInBounds_toArray, List.set_cons_zero, List.set_cons_succ]
            refine wpAnyN_take (i := 10) (v := undef) rfl (by as_aux_lemma => kernel_rfl) (by as_aux_lemma => kernel_rfl) (by as_aux_lemma => kernel_rfl) (by as_aux_lemma => kernel_rfl) (fun _ _ _ h => h) (by assumption) hS0 (Or.inr ⟨by rfl, rfl⟩) (fun hcl10 => ?_)
            clear hcl9
            try simp only [Act.put, List.getElem_toArray, List.getElem_cons_succ, List.getElem_cons_zero, List.setIfInBounds_toArray, List.set_cons_zero, List.set_cons_succ]
            refine wpAnyN_take (i := 11) (v := undef) rfl (by as_aux_lemma => kernel_rfl) (by as_aux_lemma => kernel_rfl) (by as_aux_lemma => kernel_rfl) (by as_aux_lemma => kernel_rfl) (fun _ _ _ h => h) (by assumption) hS0 (Or.inr ⟨by rfl, rfl⟩) (fun hcl11 => ?_)
            clear hcl10
            try simp only [Act.put, List.getElem_toArray, List.getElem_cons_succ, List.getElem_cons_zero, List.setIfInBounds_toArray, List.set_cons_zero, List.set_cons_succ]
            refine wpAnyN_take (i := 12) (v := undef) rfl (by as_aux_lemma => kernel_rfl) (by as_aux_lemma => kernel_rfl) (by as_aux_lemma => kernel_rfl) (by as_aux_lemma => kernel_rfl) (fun _ _ _ h => h) (by assumption) hS0 (Or.inr ⟨by rfl, rfl⟩) (fun hcl12 => ?_)
            clear hcl11
            try simp only [Act.put, List.getElem_toArray, List.getElem_cons_succ, List.getElem_cons_zero, List.setIfInBounds_toArray, List.set_cons_zero, List.set_cons_succ]
            refine wpAnyN_take (i := 13) (v := undef) rfl (by as_aux_lemma => kernel_rfl) (by as_aux_lemma => kernel_rfl) (by as_aux_lemma => kernel_rfl) (by as_aux_lemma => kernel_rfl) (fun _ _ _ h => h) (by assumption) hS0 (Or.inr ⟨by rfl, rfl⟩) (fun hcl13 => ?_)
            clear hcl12
            try simp only [Act.put, List.getElem_toArray, List.getElem_cons_succ, List.getElem_cons_zero, List.setIfInBounds_toArray, List.set_cons_zero, List.set_cons_succ]
            refine wpAnyN_take (i := 14) (v := undef) rfl (by as_aux_lemma => kernel_rfl) (by as_aux_lemma => kernel_rfl) (by as_aux_lemma => kernel_rfl) (by as_aux_lemma => kernel_rfl) (fun _ _ _ h => h) (by assumption) hS0 (Or.inr ⟨by rfl, rfl⟩) (fun hcl14 => ?_)
            clear hcl13
            try simp only [Act.put, List.getElem_toArray, List.getElem_cons_succ, List.getElem_cons_zero, List.setIfInBounds_toArray, List.set_cons_zero, List.set_cons_succ]
            refine wpAnyN_take (i := 15) (v := undef) rfl (by as_aux_lemma => kernel_rfl) (by as_aux_lemma => kernel_rfl) (by as_aux_lemma => kernel_rfl) (by as_aux_lemma => kernel_rfl) (fun _ _ _ h => h) (by assumption) hS0 (Or.inr ⟨by rfl, rfl⟩) (fun hcl15 => ?_)
            clear hcl14
            try simp only [Act.put, List.getElem_toArray, List.getElem_cons_succ, List.getElem_cons_zero, List.setIfInBounds_toArray, List.set_cons_zero, List.set_cons_succ]
            refine wpAnyN_take (i := 16) (v := ?_) rfl (by as_aux_lemma => kernel_rfl) (by as_aux_lemma => kernel_rfl) (by as_aux_lemma => kernel_rfl) (by as_aux_lemma => kernel_rfl) (fun _ _ _ h => h) (by assumption) hS0 (Or.inl ⟨by rfl, ?_⟩) (fun hcl16 => ?_)
            rotate_left
            · (intro wS hSw; (try obtain ⟨hSa, hSb, hSc⟩ := hSw); (try have hcv := CV.out wS _ _ hSc); go_simp; (try with_reducible rfl))
            clear hcl15
            try simp only [Act.put, List.getElem_toArray, List.getElem_cons_succ, List.getElem_cons_zero, List.setIfInBounds_toArray, List.set_cons_zero, List.set_cons_succ]
            refine wpAnyN_done (by as_aux_lemma => kernel_rfl) ?_ _
            refine NoPanic.normal ?_
            go_wp2_with fail
            go_meet
            exact ⟨rfl, rfl, by rw [HXF.out], HNS.out.same (Upd.refl _ _).drew⟩
        case rest =>
          clear c3
          obtain ⟨rfl, rfl, rfl, hns⟩ := hcut
          have HNS := Lib.hid hns
          clear hns
          cases X
          · obtain ⟨bs, hbs⟩ : ∃ bs, bs = r.b.take 48 := ⟨_, rfl⟩
            have hL : bs.length = 48 := by rw [hbs, List.length_take]; have := HL48.out; omega
            have hb : Bs wc (.slice A 48 cap) bs := by rw [hbs]; exact (HNS.out.1.2.2.2.1.bs).take 48 HL48.out
            have HBV := Lib.hid hbs
            have HL := Lib.hid hL
            have HB := Lib.hid hb
            clear hbs hL hb
            go_wp2_with fail
            refine (pof_any H0.out HNS.out _ bs HB.out (by have := HL.out; omega)).mono ?_
            rintro e w8 ⟨P, rfl, hp⟩
            have HP := Lib.hid hp
            clear hp
            go_wp2_with fail
            refine (HP.out.num4 1 (by decide) (by decide) (by have := HL.out; omega) (by have := HL.out; omega)).mono ?_
            rintro e w9 ⟨rfl, hp, hu⟩
            have h0 := pn1 bs 0
            obtain ⟨n0, hn0⟩ : ∃ n0, n0 = pn bs 0 1 := ⟨_, rfl⟩
            rw [← hn0] at h0 ⊢
            have HN0 := Lib.hid hn0
            have hp2 := hp.up hu.size
            have HP := Lib.hid hp2
            have HUX := Lib.hid hu
            clear hn0 hp hu hp2
            have ha1 := tmod64 n0 h0
            have ha2 := tdiv64 n0 h0
            go_upto_region 14 with (fail)
            have hbb : (n0 / 64 % 2 == 1) = decide (64 ≤ n0 % 128) := by
              by_cases hx : 64 ≤ n0 % 128
              · rw [decide_eq_true hx]; simp only [beq_iff_eq]; omega
              · rw [decide_eq_false hx]; simp only [beq_eq_false_iff_ne, ne_eq]; omega
            rw [hbb]
            clear hbb
            have hpx : PF base w (w9.alloc (.cells #[.int .i64 (n0 % 64), .bool (decide (64 ≤ n0 % 128)), .int .i64 0, .int .i64 0, .int .i64 0, .int .u64 0, .int .u32 0, .int .u32 0, .int .u32 0, .int .u32 0, .int .u32 0, .int .u32 0, .int .u32 0, .int .u32 0, .slice none 0 0] 42)) b (.slice A r.b.length cap) r P w9.heap.size bs 1 := HP.out.box [.int .i64 (n0 % 64), .bool (decide (64 ≤ n0 % 128)), .int .i64 0, .int .i64 0, .int .i64 0, .int .u64 0, .int .u32 0, .int .u32 0, .int .u32 0, .int .u32 0, .int .u32 0, .int .u32 0, .int .u32 0, .int .u32 0, .slice none 0 0] 42
            have hxb : BoxC (w9.alloc (.cells #[.int .i64 (n0 % 64), .bool (decide (64 ≤ n0 % 128)), .int .i64 0, .int .i64 0, .int .i64 0, .int .u64 0, .int .u32 0, .int .u32 0, .int .u32 0, .int .u32 0, .int .u32 0, .int .u32 0, .int .u32 0, .int .u32 0, .slice none 0 0] 42)) w9.heap.size [.int .i64 (n0 % 64), .bool (decide (64 ≤ n0 % 128)), .int .i64 0, .int .i64 0, .int .i64 0, .int .u64 0, .int .u32 0, .int .u32 0, .int .u32 0, .int .u32 0, .int .u32 0, .int .u32 0, .int .u32 0, .int .u32 0, .slice none 0 0] := BoxC.newAt w9 [.int .i64 (n0 % 64), .bool (decide (64 ≤ n0 % 128)), .int .i64 0, .int .i64 0, .int .i64 0, .int .u64 0, .int .u32 0, .int .u32 0, .int .u32 0, .int .u32 0, .int .u32 0, .int .u32 0, .int .u32 0, .int .u32 0, .slice none 0 0] 42 w9.heap.size rfl
            have hXP : ¬ w9.heap.size = P := fun e => by have := HP.out.2.2.2.2; omega
            generalize w9.alloc (.cells #[.int .i64 (n0 % 64), .bool (decide (64 ≤ n0 % 128)), .int .i64 0, .int .i64 0, .int .i64 0, .int .u64 0, .int .u32 0, .int .u32 0, .int .u32 0, .int .u32 0, .int .u32 0, .int .u32 0, .int .u32 0, .int .u32 0, .slice none 0 0] 42) = wx at hpx hxb ⊢
            generalize w9.heap.size = X at hpx hxb hXP ⊢
            have HP := Lib.hid hpx
            have HX := Lib.hid hxb
            have HXP := Lib.hid hXP
            clear hpx hxb hXP ha1 ha2
            go_wp2_with fail
            refine (HP.out.num4 1 (by decide) (by decide) (by have := HL.out; omega) (by have := HL.out; omega)).mono ?_
            rintro e v1 ⟨rfl, hp, hu⟩
            have hx := HX.out.upd (by simp) hu HXP.out
            have hr := pn1 bs 1
            obtain ⟨n1, hn⟩ : ∃ n, n = pn bs 1 1 := ⟨_, rfl⟩
            rw [← hn] at hr ⊢
            have HN1 := Lib.hid hn
            have hw := hr
            have ck := hx.1 2 _ rfl
            have fz := hx.2
            unfold FzAt at fz
            have hx1 : BoxC (v1.setCell ⟨X, 2, none⟩ (.int .i64 n1)) X [.int .i64 (n0 % 64), .bool (decide (64 ≤ n0 % 128)), .int .i64 n1, .int .i64 0, .int .i64 0, .int .u64 0, .int .u32 0, .int .u32 0, .int .u32 0, .int .u32 0, .int .u32 0, .int .u32 0, .int .u32 0, .int .u32 0, .slice none 0 0] := hx.set 2 (.int .i64 n1) (by simp)
            have hp1 : PF base w (v1.setCell ⟨X, 2, none⟩ (.int .i64 n1)) b (.slice A r.b.length cap) r P X bs 2 := hp.setX
            have HXk := Lib.hid hx1
            have HPk := Lib.hid hp1
            clear hn hx hp hu hx1 hp1
            go_upto_region 15 with (fail)
            have HX := HXk
            have HP := HPk
            clear HXk HPk ck fz hr hw
            generalize v1.setCell ⟨X, 2, none⟩ (.int .i64 n1) = wy1 at HX HP ⊢
            go_wp2_with fail
            refine (HP.out.num4 1 (by decide) (by decide) (by have := HL.out; omega) (by have := HL.out; omega)).mono ?_
            rintro e v2 ⟨rfl, hp, hu⟩
            have hx := HX.out.upd (by simp) hu HXP.out
            have hr := pn1 bs 2
            obtain ⟨n2, hn⟩ : ∃ n, n = pn bs 2 1 := ⟨_, rfl⟩
            rw [← hn] at hr ⊢
            have HN2 := Lib.hid hn
            have hw := hr
            have ck := hx.1 3 _ rfl
            have fz := hx.2
            unfold FzAt at fz
            have hx1 : BoxC (v2.setCell ⟨X, 3, none⟩ (.int .i64 n2)) X [.int .i64 (n0 % 64), .bool (decide (64 ≤ n0 % 128)), .int .i64 n1, .int .i64 n2, .int .i64 0, .int .u64 0, .int .u32 0, .int .u32 0, .int .u32 0, .int .u32 0, .int .u32 0, .int .u32 0, .int .u32 0, .int .u32 0, .slice none 0 0] := hx.set 3 (.int .i64 n2) (by simp)
            have hp1 : PF base w (v2.setCell ⟨X, 3, none⟩ (.int .i64 n2)) b (.slice A r.b.length cap) r P X bs 3 := hp.setX
            have HXk := Lib.hid hx1
            have HPk := Lib.hid hp1
            clear hn hx hp hu hx1 hp1
            go_upto_region 16 with (fail)
            have HX := HXk
            have HP := HPk
            clear HXk HPk ck fz hr hw
            generalize v2.setCell ⟨X, 3, none⟩ (.int .i64 n2) = wy2 at HX HP ⊢
            go_wp2_with fail
            refine (HP.out.num4 1 (by decide) (by decide) (by have := HL.out; omega) (by have := HL.out; omega)).mono ?_
            rintro e v3 ⟨rfl, hp, hu⟩
            have hx := HX.out.upd (by simp) hu HXP.out
            have hr := pn1 bs 3
            obtain ⟨n3, hn⟩ : ∃ n, n = pn bs 3 1 := ⟨_, rfl⟩
            rw [← hn] at hr ⊢
            have HN3 := Lib.hid hn
            have hw := hr
            have ck := hx.1 4 _ rfl
            have fz := hx.2
            unfold FzAt at fz
            have hx1 : BoxC (v3.setCell ⟨X, 4, none⟩ (.int .i64 n3)) X [.int .i64 (n0 % 64), .bool (decide (64 ≤ n0 % 128)), .int .i64 n1, .int .i64 n2, .int .i64 n3, .int .u64 0, .int .u32 0, .int .u32 0, .int .u32 0, .int .u32 0, .int .u32 0, .int .u32 0, .int .u32 0, .int .u32 0, .slice none 0 0] := hx.set 4 (.int .i64 n3) (by simp)
            have hp1 : PF base w (v3.setCell ⟨X, 4, none⟩ (.int .i64 n3)) b (.slice A r.b.length cap) r P X bs 4 := hp.setX
            have HXk := Lib.hid hx1
            have HPk := Lib.hid hp1
            clear hn hx hp hu hx1 hp1
            go_upto_region 17 with (fail)
            have HX := HXk
            have HP := HPk
            clear HXk HPk ck fz hr hw
            generalize v3.setCell ⟨X, 4, none⟩ (.int .i64 n3) = wy3 at HX HP ⊢
            go_wp2_with fail
            refine (HP.out.num4 1 (by decide) (by decide) (by have := HL.out; omega) (by have := HL.out; omega)).mono ?_
            rintro e wm ⟨rfl, hp, hu⟩
            have hx := HX.out.upd (by simp) hu HXP.out
            have hmr := pn1 bs 4
            obtain ⟨m4, hm4⟩ : ∃ n, n = pn bs 4 1 := ⟨_, rfl⟩
            rw [← hm4] at hmr ⊢
            have HM4 := Lib.hid hm4
            have HMR := Lib.hid hmr
            have HX := Lib.hid hx
            have HP := Lib.hid hp
            clear hm4 hmr hx hp hu
            go_upto_region 18 with (fail)
            go_wp2_with fail
            refine (HP.out.num4 3 (by decide) (by decide) (by have := HL.out; omega) (by have := HL.out; omega)).mono ?_
            rintro e wm2 ⟨rfl, hp, hu⟩
            have hx := HX.out.upd (by simp) hu HXP.out
            have hszr := pn_range bs 5 3
            rw [show (256 : Int) ^ 3 = 16777216 by decide] at hszr
            obtain ⟨sz, hsz⟩ : ∃ n : Nat, (n : Int) = pn bs 5 3 := ⟨(pn bs 5 3).toNat, by omega⟩
            rw [← hsz] at hszr ⊢
            have HSZ := Lib.hid hsz
            have HSR := Lib.hid hszr
            have HX := Lib.hid hx
            have HP := Lib.hid hp
            clear hsz hszr hx hp hu
            go_upto_region 19 with (fail)
            go_wp2_with fail
            refine (HP.out.num 8 (by decide) (by decide) (by have := HL.out; omega) (by have := HL.out; omega)).mono ?_
            rintro e v4 ⟨rfl, hp, hu⟩
            have hx := HX.out.upd (by simp) hu HXP.out
            have hr := pn_range bs 8 8
            rw [show (256 : Int) ^ 8 = 18446744073709551616 by decide] at hr
            obtain ⟨nl, hn⟩ : ∃ n, n = pn bs 8 8 := ⟨_, rfl⟩
            rw [← hn] at hr ⊢
            have HN4 := Lib.hid hn
            have hw : IntKind.u64.wrap (wrap64 nl) = nl := by rw [IntKind.wrap_u64]; unfold wrap64; omega
            have ck := hx.1 5 _ rfl
            have fz := hx.2
            unfold FzAt at fz
            have hx1 : BoxC (v4.setCell ⟨X, 5, none⟩ (.int .u64 nl)) X [.int .i64 (n0 % 64), .bool (decide (64 ≤ n0 % 128)), .int .i64 n1, .int .i64 n2, .int .i64 n3, .int .u64 nl, .int .u32 0, .int .u32 0, .int .u32 0, .int .u32 0, .int .u32 0, .int .u32 0, .int .u32 0, .int .u32 0, .slice none 0 0] := hx.set 5 (.int .u64 nl) (by simp)
            have hp1 : PF base w (v4.setCell ⟨X, 5, none⟩ (.int .u64 nl)) b (.slice A r.b.length cap) r P X bs 16 := hp.setX
            have HXk := Lib.hid hx1
            have HPk := Lib.hid hp1
            clear hn hx hp hu hx1 hp1
            go_upto_region 20 with (fail)
            have HX := HXk
            have HP := HPk
            clear HXk HPk ck fz hr hw
            generalize v4.setCell ⟨X, 5, none⟩ (.int .u64 nl) = wy4 at HX HP ⊢
            go_wp2_with fail
            refine (HP.out.num4 4 (by decide) (by decide) (by have := HL.out; omega) (by have := HL.out; omega)).mono ?_
            rintro e v5 ⟨rfl, hp, hu⟩
            have hx := HX.out.upd (by simp) hu HXP.out
            have hr := pn_small bs 16 4 (by decide)
            obtain ⟨nt, hn⟩ : ∃ n, n = pn bs 16 4 := ⟨_, rfl⟩
            rw [← hn] at hr ⊢
            have HN5 := Lib.hid hn
            have hw : IntKind.u32.wrap nt = nt := by rw [IntKind.wrap_u32]; omega
            have ck := hx.1 6 _ rfl
            have fz := hx.2
            unfold FzAt at fz
            have hx1 : BoxC (v5.setCell ⟨X, 6, none⟩ (.int .u32 nt)) X [.int .i64 (n0 % 64), .bool (decide (64 ≤ n0 % 128)), .int .i64 n1, .int .i64 n2, .int .i64 n3, .int .u64 nl, .int .u32 nt, .int .u32 0, .int .u32 0, .int .u32 0, .int .u32 0, .int .u32 0, .int .u32 0, .int .u32 0, .slice none 0 0] := hx.set 6 (.int .u32 nt) (by simp)
            have hp1 : PF base w (v5.setCell ⟨X, 6, none⟩ (.int .u32 nt)) b (.slice A r.b.length cap) r P X bs 20 := hp.setX
            have HXk := Lib.hid hx1
            have HPk := Lib.hid hp1
            clear hn hx hp hu hx1 hp1
            go_upto_region 21 with (fail)
            have HX := HXk
            have HP := HPk
            clear HXk HPk ck fz hr hw
            generalize v5.setCell ⟨X, 6, none⟩ (.int .u32 nt) = wy5 at HX HP ⊢
            have hin : PF base w wy5 b (.slice A r.b.length cap) r P X bs (20 + 4 * 0) ∧ BoxC wy5 X (boxW [.int .i64 (n0 % 64), .bool (decide (64 ≤ n0 % 128)), .int .i64 n1, .int .i64 n2, .int .i64 n3, .int .u64 nl, .int .u32 nt] bs 0) := ⟨HP.out, HX.out⟩
            have HIN := Lib.hid hin
            clear hin HP HX
            go_upto_block 0 with (fail)
            go_cut [12] from 95 to 104 (fun v12 wr => NS base w wr b (.slice A r.b.length cap) r ∧ BoxC wr X (pdC (parseP r.b) (.slice none 0 0)))
            case first => as_aux_lemma =>
              go_wp2_with fail
              go_loopw [12] (fun v12 wr => ∃ i : Nat, i ≤ 7 ∧ v12 = .int .i64 i ∧ Hid (PF base w wr b (.slice A r.b.length cap) r P X bs (20 + 4 * i) ∧ BoxC wr X (boxW [.int .i64 (n0 % 64), .bool (decide (64 ≤ n0 % 128)), .int .i64 n1, .int .i64 n2, .int .i64 n3, .int .u64 nl, .int .u32 nt] bs i))) (fun v12 _ => 7 - (intOf v12).toNat)
              case atStart => exact ⟨0, by omega, rfl, HIN.out⟩
              case round =>
                obtain ⟨i, hi, rfl, hin⟩ := hrel
                rcases (show i = 0 ∨ i = 1 ∨ i = 2 ∨ i = 3 ∨ i = 4 ∨ i = 5 ∨ i = 6 ∨ i = 7 by omega) with rfl | rfl | rfl | rfl | rfl | rfl | rfl | rfl
                · go_wp2_with fail
                  refine (hin.out.1.num4 4 (by decide) (by decide) (by have := HL.out; omega) (by have := HL.out; omega)).mono ?_
                  rintro e wn ⟨rfl, hp, hu⟩
                  have hx := hin.out.2.upd (by simp [boxW]) hu HXP.out
                  have htr := pn_small bs (20 + 4 * 0) 4 (by decide)
                  obtain ⟨t, ht⟩ : ∃ t, t = pn bs (20 + 4 * 0) 4 := ⟨_, rfl⟩
                  rw [← ht] at htr ⊢
                  have hw : IntKind.u32.wrap t = t := by rw [IntKind.wrap_u32]; omega
                  have cw := hx.1 7 _ rfl
                  have fz := hx.2
                  unfold FzAt at fz
                  have HX := Lib.hid hx
                  have HP := Lib.hid hp
                  have HT := Lib.hid ht
                  clear hx hp ht hu
                  go_wp2_with fail
                  refine ⟨⟨1, by omega, rfl, Lib.hid ⟨HP.out.setX, ?_⟩⟩, by simp [intOf]⟩
                  have hx2 := HX.out.set 7 (.int .u32 t) (by simp [boxW])
                  rw [HT.out] at hx2 ⊢
                  exact hx2
                · go_wp2_with fail
                  refine (hin.out.1.num4 4 (by decide) (by decide) (by have := HL.out; omega) (by have := HL.out; omega)).mono ?_
                  rintro e wn ⟨rfl, hp, hu⟩
                  have hx := hin.out.2.upd (by simp [boxW]) hu HXP.out
                  have htr := pn_small bs (20 + 4 * 1) 4 (by decide)
                  obtain ⟨t, ht⟩ : ∃ t, t = pn bs (20 + 4 * 1) 4 := ⟨_, rfl⟩
                  rw [← ht] at htr ⊢
                  have hw : IntKind.u32.wrap t = t := by rw [IntKind.wrap_u32]; omega
                  have cw := hx.1 8 _ rfl
                  have fz := hx.2
                  unfold FzAt at fz
                  have HX := Lib.hid hx
                  have HP := Lib.hid hp
                  have HT := Lib.hid ht
                  clear hx hp ht hu
                  go_wp2_with fail
                  refine ⟨⟨2, by omega, rfl, Lib.hid ⟨HP.out.setX, ?_⟩⟩, by simp [intOf]⟩
                  have hx2 := HX.out.set 8 (.int .u32 t) (by simp [boxW])
                  rw [HT.out] at hx2 ⊢
                  exact hx2
                · go_wp2_with fail
                  refine (hin.out.1.num4 4 (by decide) (by decide) (by have := HL.out; omega) (by have := HL.out; omega)).mono ?_
                  rintro e wn ⟨rfl, hp, hu⟩
                  have hx := hin.out.2.upd (by simp [boxW]) hu HXP.out
                  have htr := pn_small bs (20 + 4 * 2) 4 (by decide)
                  obtain ⟨t, ht⟩ : ∃ t, t = pn bs (20 + 4 * 2) 4 := ⟨_, rfl⟩
                  rw [← ht] at htr ⊢
                  have hw : IntKind.u32.wrap t = t := by rw [IntKind.wrap_u32]; omega
                  have cw := hx.1 9 _ rfl
                  have fz := hx.2
                  unfold FzAt at fz
                  have HX := Lib.hid hx
                  have HP := Lib.hid hp
                  have HT := Lib.hid ht
                  clear hx hp ht hu
                  go_wp2_with fail
                  refine ⟨⟨3, by omega, rfl, Lib.hid ⟨HP.out.setX, ?_⟩⟩, by simp [intOf]⟩
                  have hx2 := HX.out.set 9 (.int .u32 t) (by simp [boxW])
                  rw [HT.out] at hx2 ⊢
                  exact hx2
                · go_wp2_with fail
                  refine (hin.out.1.num4 4 (by decide) (by decide) (by have := HL.out; omega) (by have := HL.out; omega)).mono ?_
                  rintro e wn ⟨rfl, hp, hu⟩
                  have hx := hin.out.2.upd (by simp [boxW]) hu HXP.out
                  have htr := pn_small bs (20 + 4 * 3) 4 (by decide)
                  obtain ⟨t, ht⟩ : ∃ t, t = pn bs (20 + 4 * 3) 4 := ⟨_, rfl⟩
                  rw [← ht] at htr ⊢
                  have hw : IntKind.u32.wrap t = t := by rw [IntKind.wrap_u32]; omega
                  have cw := hx.1 10 _ rfl
                  have fz := hx.2
                  unfold FzAt at fz
                  have HX := Lib.hid hx
                  have HP := Lib.hid hp
                  have HT := Lib.hid ht
                  clear hx hp ht hu
                  go_wp2_with fail
                  refine ⟨⟨4, by omega, rfl, Lib.hid ⟨HP.out.setX, ?_⟩⟩, by simp [intOf]⟩
                  have hx2 := HX.out.set 10 (.int .u32 t) (by simp [boxW])
                  rw [HT.out] at hx2 ⊢
                  exact hx2
                · go_wp2_with fail
                  refine (hin.out.1.num4 4 (by decide) (by decide) (by have := HL.out; omega) (by have := HL.out; omega)).mono ?_
                  rintro e wn ⟨rfl, hp, hu⟩
                  have hx := hin.out.2.upd (by simp [boxW]) hu HXP.out
                  have htr := pn_small bs (20 + 4 * 4) 4 (by decide)
                  obtain ⟨t, ht⟩ : ∃ t, t = pn bs (20 + 4 * 4) 4 := ⟨_, rfl⟩
                  rw [← ht] at htr ⊢
                  have hw : IntKind.u32.wrap t = t := by rw [IntKind.wrap_u32]; omega
                  have cw := hx.1 11 _ rfl
                  have fz := hx.2
                  unfold FzAt at fz
                  have HX := Lib.hid hx
                  have HP := Lib.hid hp
                  have HT := Lib.hid ht
                  clear hx hp ht hu
                  go_wp2_with fail
                  refine ⟨⟨5, by omega, rfl, Lib.hid ⟨HP.out.setX, ?_⟩⟩, by simp [intOf]⟩
                  have hx2 := HX.out.set 11 (.int .u32 t) (by simp [boxW])
                  rw [HT.out] at hx2 ⊢
                  exact hx2
                · go_wp2_with fail
                  refine (hin.out.1.num4 4 (by decide) (by decide) (by have := HL.out; omega) (by have := HL.out; omega)).mono ?_
                  rintro e wn ⟨rfl, hp, hu⟩
                  have hx := hin.out.2.upd (by simp [boxW]) hu HXP.out
                  have htr := pn_small bs (20 + 4 * 5) 4 (by decide)
                  obtain ⟨t, ht⟩ : ∃ t, t = pn bs (20 + 4 * 5) 4 := ⟨_, rfl⟩
                  rw [← ht] at htr ⊢
                  have hw : IntKind.u32.wrap t = t := by rw [IntKind.wrap_u32]; omega
                  have cw := hx.1 12 _ rfl
                  have fz := hx.2
                  unfold FzAt at fz
                  have HX := Lib.hid hx
                  have HP := Lib.hid hp
                  have HT := Lib.hid ht
                  clear hx hp ht hu
                  go_wp2_with fail
                  refine ⟨⟨6, by omega, rfl, Lib.hid ⟨HP.out.setX, ?_⟩⟩, by simp [intOf]⟩
                  have hx2 := HX.out.set 12 (.int .u32 t) (by simp [boxW])
                  rw [HT.out] at hx2 ⊢
                  exact hx2
                · go_wp2_with fail
                  refine (hin.out.1.num4 4 (by decide) (by decide) (by have := HL.out; omega) (by have := HL.out; omega)).mono ?_
                  rintro e wn ⟨rfl, hp, hu⟩
                  have hx := hin.out.2.upd (by simp [boxW]) hu HXP.out
                  have htr := pn_small bs (20 + 4 * 6) 4 (by decide)
                  obtain ⟨t, ht⟩ : ∃ t, t = pn bs (20 + 4 * 6) 4 := ⟨_, rfl⟩
                  rw [← ht] at htr ⊢
                  have hw : IntKind.u32.wrap t = t := by rw [IntKind.wrap_u32]; omega
                  have cw := hx.1 13 _ rfl
                  have fz := hx.2
                  unfold FzAt at fz
                  have HX := Lib.hid hx
                  have HP := Lib.hid hp
                  have HT := Lib.hid ht
                  clear hx hp ht hu
                  go_wp2_with fail
                  refine ⟨⟨7, by omega, rfl, Lib.hid ⟨HP.out.setX, ?_⟩⟩, by simp [intOf]⟩
                  have hx2 := HX.out.set 13 (.int .u32 t) (by simp [boxW])
                  rw [HT.out] at hx2 ⊢
                  exact hx2
                · have hq : boxW [.int .i64 (n0 % 64), .bool (decide (64 ≤ n0 % 128)), .int .i64 n1, .int .i64 n2, .int .i64 n3, .int .u64 nl, .int .u32 nt] bs 7 = pdC (parseP r.b) (.slice none 0 0) := by
                    rw [← parseP_take, ← HBV.out, HN0.out, HN1.out, HN2.out, HN3.out, HN4.out, HN5.out]
                    rfl
                  have hbx := hin.out.2
                  rw [hq] at hbx
                  have HBX := Lib.hid hbx
                  clear hbx hq
                  go_wp2_with fail
                  go_meet
                  exact ⟨hin.out.1.1, HBX.out⟩
            case rest =>
            obtain ⟨hns, hbx⟩ := hcut
            have HNS := Lib.hid hns
            have HXB2 := Lib.hid hbx
            have HXR : Hid (w.heap.size < X) := Nat.lt_trans HIN.out.1.2.2.2.1 HIN.out.1.2.2.2.2
            clear hns hbx HIN
            have hpe : parseE r.b = if m4 ≠ 0 ∨ 127 < n0 then 11 else 0 := by
              rw [← parseE_take, ← HBV.out, HM4.out, HN0.out]; rfl
            have hsv : sizeP r.b = sz := by
              rw [← sizeP_take, ← HBV.out]; unfold sizeP; rw [← HSZ.out]; simp
            obtain ⟨EE, hEE⟩ : ∃ EE : Bool, EE = decide (m4 ≠ 0 ∨ 127 < n0) := ⟨_, rfl⟩
            have HPE := Lib.hid hpe
            have HSV := Lib.hid hsv
            have HEE := Lib.hid hEE
            clear hpe hsv hEE
            go_upto_region 25 with (fail)
            go_cut [10, 110] from 18 (fun v10 v110 wx => v110 = .bool EE ∧ NS base w wx b (.slice A r.b.length cap) r ∧ BoxC wx X (pdC (parseP r.b) (.slice none 0 0)))
            case first => as_aux_lemma =>
              have hmr := HMR.out
              by_cases hm : m4 = 0
              · subst hm
                by_cases hn : 128 ≤ n0
                · have he : EE = true := by rw [HEE.out]; simp; omega
                  have HE := Lib.hid he
                  clear he
                  go_wp2_with fail
                  go_meet
                  exact ⟨by rw [HE.out], HNS.out, HXB2.out⟩
                · have he : EE = false := by rw [HEE.out]; simp; omega
                  have HE := Lib.hid he
                  clear he
                  go_wp2_with fail
                  go_meet
                  exact ⟨by rw [HE.out], HNS.out, HXB2.out⟩
              · have he : EE = true := by rw [HEE.out]; simp [hm]
                have HE := Lib.hid he
                have hmb : (m4 == 0) = false := by simpa using hm
                have hmb2 : (m4 != 0) = true := by simpa using hm
                clear he hm
                go_wp2_with fail
                go_meet
                exact ⟨by rw [HE.out], HNS.out, HXB2.out⟩
            case rest =>
            obtain ⟨rfl, hns, hbx⟩ := hcut
            have HNS3 := Lib.hid hns
            have HXB3 := Lib.hid hbx
            clear hns hbx HNS HXB2
            cases EE
            · have hE0 : parseE r.b = 0 := by rw [HPE.out, if_neg (of_decide_eq_false HEE.out.symm)]
              have HE0 := Lib.hid hE0
              obtain ⟨q, hq⟩ : ∃ q, q = parseP r.b := ⟨_, rfl⟩
              rw [← hq] at HXB3
              have hqd : q.data = [] := by rw [hq]; rfl
              have HQ := Lib.hid hq.symm
              have HQD := Lib.hid hqd
              have hS24 : sz < 16777216 := by have := HSR.out; omega
              have hPD := padN_lt sz
              have hpc0 : ((4 - sz % 4) % 4 : Nat) = padN sz := rfl
              generalize hpd : padN sz = pd at hPD hpc0
              have HPDV := Lib.hid hpd
              have hall : r.all = r.at_ + (sz + pd) + if r.o.ds && decide (0 < sz) then 4 else 0 := by unfold Rd1.all; rw [HSV.out, HPDV.out]
              have HALL := Lib.hid hall
              have ha52 : r.at_ ≤ 52 := by rw [HAT.out]; split <;> omega
              have ha48 : 48 ≤ r.at_ := by rw [HAT.out]; omega
              have c2 := HNS3.out.1.2.1 2 _ rfl
              have HPC := Lib.hid hpc0
              clear hE0 hq hqd hpd hall hpc0
              by_cases hm : r.o.most < (sz : Int)
              · have HN := Lib.hid (next_size HD.out H1.out HXB.out HE0.out (by rw [HSV.out]; exact hm))
                exact absurd HK.out (by rw [HN.out]; simp [Rd1.die, Rd1.rest, HD.out, noP])
              · have HM := Lib.hid hm
                have hmi : ¬ r.o.most < (sz : Int) := hm
                go_wp2_with fail
                refine (rpad_any sz _ (by omega)).mono ?_
                rintro e wq ⟨rfl, hwq⟩
                rw [← hwq, HPC.out]
                clear hwq
                obtain ⟨Z, hZ⟩ : ∃ Z, Z = (r.o.ds && decide (0 < sz)) := ⟨_, rfl⟩
                rw [← hZ] at HALL
                have HZ := Lib.hid hZ
                obtain ⟨EN, hEN⟩ : ∃ EN, EN = r.at_ + (sz + pd) := ⟨_, rfl⟩
                have HEN := Lib.hid hEN
                have hs3 : (r.at_ : Int) + (sz : Int) + (pd : Int) = (EN : Int) := by omega
                have HS3 := Lib.hid hs3
                clear hZ hEN hm c2
                go_upto_region 31 with (fail)
                go_cut [143] from 18 (fun v143 wx => v143 = .bool Z ∧ NS base w wx b (.slice A r.b.length cap) r ∧ BoxC wx X (pdC q (.slice none 0 0)))
                case first => as_aux_lemma =>
                  have c1 := HNS3.out.1.2.1 1 _ rfl
                  by_cases hds : r.o.ds = true
                  · rw [hds] at c1
                    have hzz : Z = decide (0 < sz) := by rw [HZ.out, hds]; simp
                    have HZZ := Lib.hid hzz
                    clear hds hzz
                    go_wp2_with fail
                    go_meet
                    exact ⟨by rw [HZZ.out], HNS3.out, HXB3.out⟩
                  · rw [Bool.not_eq_true] at hds
                    rw [hds] at c1
                    have hzz : Z = false := by rw [HZ.out, hds]; rfl
                    have HZZ := Lib.hid hzz
                    clear hds hzz
                    go_wp2_with fail
                    go_meet
                    exact ⟨by rw [HZZ.out], HNS3.out, HXB3.out⟩
                case rest =>
                obtain ⟨rfl, hns4, hxb4⟩ := hcut
                have HNS4 := Lib.hid hns4
                have HXB4 := Lib.hid hxb4
                clear hns4 hxb4 HNS3 HXB3
                go_upto_if 143 with (fail)
                go_cut [14] from 18 (fun v14 wx => v14 = .int .i64 ((r.all : Nat) : Int) ∧ NS base w wx b (.slice A r.b.length cap) r ∧ BoxC wx X (pdC q (.slice none 0 0)))
                case first => as_aux_lemma =>
                  have hal := HALL.out
                  have hen := HEN.out
                  cases Z
                  · have HAL := Lib.hid hal
                    clear hal
                    go_wp2_with fail
                    go_meet
                    exact ⟨by rw [HAL.out]; simp only [Bool.false_eq_true, if_false, if_true]; all_goals (congr 1 <;> omega), HNS4.out, HXB4.out⟩
                  · have HAL := Lib.hid hal
                    clear hal
                    go_wp2_with fail
                    go_meet
                    exact ⟨by rw [HAL.out]; simp only [Bool.false_eq_true, if_false, if_true]; all_goals (congr 1 <;> omega), HNS4.out, HXB4.out⟩
                case rest =>
                obtain ⟨rfl, hns5, hxb5⟩ := hcut
                have HNS5 := Lib.hid hns5
                have HXB5 := Lib.hid hxb5
                have c3 := hns5.1.2.1 3 _ rfl
                clear hns5 hxb5 HNS4 HXB4
                by_cases hw : r.b.length < r.all
                · have hwi : (r.b.length : Int) < ((r.all : Nat) : Int) := by omega
                  have HN := Lib.hid (next_waits HD.out H1.out HXB.out HE0.out (by rw [HSV.out]; have := HM.out; omega) hw)
                  clear hw
                  have z0 := HNS5.out.2.1.1 0 _ rfl
                  have z1 := HNS5.out.2.1.1 1 _ rfl
                  have z2 := HNS5.out.2.1.1 2 _ rfl
                  have z3 := HNS5.out.2.1.1 3 _ rfl
                  have z4 := HNS5.out.2.1.1 4 _ rfl
                  have z5 := HNS5.out.2.1.1 5 _ rfl
                  have z6 := HNS5.out.2.1.1 6 _ rfl
                  have z7 := HNS5.out.2.1.1 7 _ rfl
                  have z8 := HNS5.out.2.1.1 8 _ rfl
                  have z9 := HNS5.out.2.1.1 9 _ rfl
                  have z10 := HNS5.out.2.1.1 10 _ rfl
                  have z11 := HNS5.out.2.1.1 11 _ rfl
                  have z12 := HNS5.out.2.1.1 12 _ rfl
                  have z13 := HNS5.out.2.1.1 13 _ rfl
                  have z14 := HNS5.out.2.1.1 14 _ rfl
                  have fz := HNS5.out.2.1.2
                  unfold FzAt at fz
                  go_wp2_with fail
                  try rw [Exit.noGoto_ret]
                  refine rnext_ret (b := w.heap.size) noP none 0 0 (x := 0) (y := false) ?_ ?_ ?_ ?_ (BoxTo.full ?_) ?_
                  · rfl
                  · rfl
                  · rfl
                  · rfl
                  · iterate 15 refine BoxTo.step ?_ (by decide) rfl
                    exact BoxTo.zero noP noP (.slice none 0 0) (.slice none 0 0) HNS5.out.2.1.1
                  · try rw [← HNX.out, HN.out]
                    refine NS.exit H0.out HNS5.out ?_ 0 false
                    repeat refine Upd.setCell ?_ (by simp) _
                    exact Upd.refl _ _
                · have hwi : ¬ (r.b.length : Int) < ((r.all : Nat) : Int) := by omega
                  exact absurd HK.out (by rw [(next_late HD.out H1.out HXB.out HE0.out (by rw [HSV.out]; have := HM.out; omega) (by omega)).1]; simp)
            · have hE : parseE r.b ≠ 0 := by rw [HPE.out, if_pos (of_decide_eq_true HEE.out.symm)]; decide
              have HN := Lib.hid (next_form HD.out H1.out HXB.out hE)
              clear hE
              exact absurd HK.out (by rw [HN.out]; simp [Rd1.die, Rd1.rest, HD.out, noP])
          · have HN := Lib.hid (next_hsum HD.out H1.out HXB.out)
            exact absurd HK.out (by rw [HN.out]; simp [Rd1.die, Rd1.rest, HD.out, noP])
end Go.Proofs.Ytfafepmghcobdaa
