/- Letters (chapter 17): the program's Next, its ways out (1). -/
import Derived.Test.YtfafepmghcobdaaPduZ0
import Derived.Test.YtfafepmghcobdaaGa
import Derived.Deep.CutRange
import Derived.Deep.CutBlock
import Derived.Deep.Cut
import Derived.Deep.DeepCutAuto
namespace Go.Proofs.Ytfafepmghcobdaa
open Go.RowKit
set_option linter.unusedVariables false
set_option linter.unusedSimpArgs false
set_option maxRecDepth 100000
set_option maxHeartbeats 8000000
attribute [local go_sem ↓] Go.wp_at_zero Go.wp_at_succ
theorem next_way1 {base : Nat} {w : World} {b : Nat} {v : Value} {r : Rd1} (h : RdV base w b v r) (hbase : base ≤ w.heap.size) (hr : r.b.length ≤ 131072) (hk : r.next.2.2.2.dead = true) :
    Calls Try.prog 16 #[.pointer (some ⟨b, 0, none⟩)] w fun e w' => NextPost base w b v r.next e w' := by
  obtain ⟨A, n, cap, rfl⟩ := Fresh.shape h.2.2.2.1
  have hn := h.2.2.2.1.len'
  subst hn
  have H0 := Lib.hid h
  have HR := Lib.hid hr
  have HK := Lib.hid hk
  clear hk
  have HBS := Lib.hid hbase
  clear hbase
  have hns := NS.init h 40
  have HNS := Lib.hid hns
  have hst := state_any b r.o _ r.dead _ hns.1.2.1
  have HST := Lib.hid hst
  clear hst hns h hr
  by_cases hd : r.dead = true
  · have HN := Lib.hid (next_dead hd)
    rw [HN.out]
    rw [hd] at HST
    clear hd
    go_enter Try.func16, Try.ntmps16
    go_wp2_with fail
    go_step3
    go_wp2_with fail
    refine HST.out.mono ?_
    rintro e w1 ⟨rfl, hw1⟩
    have hns1 := HNS.out
    rw [hw1] at hns1
    have HNS1 := Lib.hid hns1
    clear hw1 hns1
    have z0 := HNS1.out.2.1.1 0 _ rfl
    have z1 := HNS1.out.2.1.1 1 _ rfl
    have z2 := HNS1.out.2.1.1 2 _ rfl
    have z3 := HNS1.out.2.1.1 3 _ rfl
    have z4 := HNS1.out.2.1.1 4 _ rfl
    have z5 := HNS1.out.2.1.1 5 _ rfl
    have z6 := HNS1.out.2.1.1 6 _ rfl
    have z7 := HNS1.out.2.1.1 7 _ rfl
    have z8 := HNS1.out.2.1.1 8 _ rfl
    have z9 := HNS1.out.2.1.1 9 _ rfl
    have z10 := HNS1.out.2.1.1 10 _ rfl
    have z11 := HNS1.out.2.1.1 11 _ rfl
    have z12 := HNS1.out.2.1.1 12 _ rfl
    have z13 := HNS1.out.2.1.1 13 _ rfl
    have z14 := HNS1.out.2.1.1 14 _ rfl
    have fz := HNS1.out.2.1.2
    unfold FzAt at fz
    go_wp2_with fail
    try rw [Exit.noGoto_ret]
    refine next_ret (b := w.heap.size) noP none 0 0 (x := 21) (y := true) ?_ ?_ ?_ ?_ (BoxTo.full ?_) ?_
    · rfl
    · rfl
    · rfl
    · rfl
    · iterate 15 refine BoxTo.step ?_ (by decide) rfl
      exact BoxTo.zero noP noP (.slice none 0 0) (.slice none 0 0) HNS1.out.2.1.1
    · try rw [← HNX.out, HN.out]
      refine NS.exit H0.out HNS1.out ?_ 21 true
      repeat refine Upd.setCell ?_ (by simp) _
      exact Upd.refl _ _

  · rw [Bool.not_eq_true] at hd
    rw [hd] at HST
    have HD := Lib.hid hd
    clear hd
    have hat : r.at_ = 48 + if r.o.hs then 4 else 0 := by unfold Rd1.at_; split <;> rfl
    have HAT := Lib.hid hat
    clear hat
    generalize hX : r.hbad = X
    have HXB := Lib.hid hX
    clear hX
    generalize hNX : r.next = NX
    have HNX := Lib.hid hNX
    clear hNX
    go_enter Try.func16, Try.ntmps16
    go_wp2_with fail
    go_step3
    go_wp2_with fail
    refine HST.out.mono ?_
    rintro e w1 ⟨rfl, hw1⟩
    have hns1 := HNS.out
    rw [hw1] at hns1
    have HNS1 := Lib.hid hns1
    have c0 := hns1.1.2.1 0 _ rfl
    clear hw1 hns1 HNS HST
    go_upto_if 26 with (fail)
    go_cut [6] from 16 (fun v6 wx => v6 = .int .i64 (r.at_ : Nat) ∧ NS base w wx b (.slice A r.b.length cap) r)
    case first => as_aux_lemma =>
      by_cases hhs : r.o.hs = true
      · have ha := HAT.out
        rw [hhs] at ha c0 ⊢
        clear hhs
        go_wp2_with fail
        go_meet
        exact ⟨by rw [ha]; rfl, HNS1.out⟩
      · rw [Bool.not_eq_true] at hhs
        have ha := HAT.out
        rw [hhs] at ha c0 ⊢
        clear hhs
        go_wp2_with fail
        go_meet
        exact ⟨by rw [ha]; rfl, HNS1.out⟩
    case rest =>
      clear c0 HNS1
      obtain ⟨rfl, hns⟩ := hcut
      have HNS := Lib.hid hns
      have c3 := hns.1.2.1 3 _ rfl
      clear hns
      by_cases h1 : r.b.length < r.at_
      · have HN := Lib.hid (next_short HD.out h1)
        have h1i : (r.b.length : Int) < (r.at_ : Nat) := by omega
        clear h1
        exact absurd HK.out (by rw [HN.out]; simp [Rd1.die, Rd1.rest, HD.out, noP])
      · have h1i : ¬ (r.b.length : Int) < (r.at_ : Nat) := by omega
        have H1 := Lib.hid h1
        clear h1
        go_upto_region 9 with (fail)
        go_cut [6, 56] from 16 (fun v6 v56 wx => v6 = .int .i64 (r.at_ : Nat) ∧ v56 = .bool X ∧ NS base w wx b (.slice A r.b.length cap) r)
        case first => as_aux_lemma =>
          have HCAP := Lib.hid HNS.out.1.2.2.2.1.cap
          have c0 := HNS.out.1.2.1 0 _ rfl
          by_cases hhs : r.o.hs = true
          · rw [hhs] at c0
            have hlen : 52 ≤ r.b.length := by have h1 := HAT.out; rw [hhs] at h1; have h2 := H1.out; simp at h1; omega
            have hat52 : r.at_ = 52 := by rw [HAT.out, hhs]; rfl
            have hb1 := (HNS.out.1.2.2.2.1.bs).take 48 (by omega)
            have hb2 := ((HNS.out.1.2.2.2.1.bs).take 52 (by omega)).drop 48 (by omega)
            have HB1 := Lib.hid hb1
            have HB2 := Lib.hid hb2
            have HA52 := Lib.hid hat52
            rw [hat52]
            clear hat52
            have hc1 : (48 : Int) ≤ (cap : Int) := by have := HCAP.out; omega
            have hc2 : (52 : Int) ≤ (cap : Int) := by have := HCAP.out; omega
            have hc3 : ¬ cap = 48 := by have := HCAP.out; omega
            have hlen1 : 48 ≤ r.b.length := by omega
            have hcm : cap ≤ 9223372036854775807 := HCAP.out.2
            have hS0 : wc.drew.cell? ⟨b, 0, none⟩ = some (.bool true) ∧ wc.drew.cell? ⟨b, 3, none⟩ = some (.slice A r.b.length cap) := ⟨(Upd.refl (fun _ => False) _).drew.cell c0 (fun h => h), (Upd.refl (fun _ => False) _).drew.cell c3 (fun h => h)⟩
            have hb3 : Bs wc (.slice (Option.map (fun x => ({ block := x.block, off := x.off + 48 } : Addr)) A) 4 (cap - 48)) ((r.b.drop 48).take 4) := by
              have h3 := HB2.out
              rw [if_neg hc3, List.drop_take] at h3
              exact h3
            have hX2 : Value.bool (eqB (crcDigest (crcSum (r.b.take 48))) ((r.b.drop 48).take 4)) = .bool (!X) := by
              rw [eqB_beq, ← HXB.out]
              unfold Rd1.hbad
              rw [hhs]
              simp
            clear hb1 hb2 HB2 hhs
            refine wp_region_noPanic ?_
            refine wp_region_need (fun w' => w'.cell? ⟨b, 0, none⟩ = some (.bool true) ∧ w'.cell? ⟨b, 3, none⟩ = some (.slice A r.b.length cap)) (fun _ => true) (by kernel_rfl) (fun hcl => ?_)
            refine wpAnyN_take (i := 0) (v := ?_) rfl (by as_aux_lemma => kernel_rfl) (by as_aux_lemma => kernel_rfl) (by as_aux_lemma => kernel_rfl) (by as_aux_lemma => kernel_rfl) (fun _ _ _ h => h) (by assumption) hS0 (Or.inl ⟨by rfl, ?_⟩) (fun hcl0 => ?_)
            rotate_left
            · (intro wS hSw; (try obtain ⟨hSa, hSb⟩ := hSw); go_simp; (try with_reducible rfl))
            clear hcl
            try simp only [Act.put, List.getElem_toArray, List.getElem_cons_succ, List.getElem_cons_zero, List.setIfInBounds_toArray, List.set_cons_zero, List.set_cons_succ]
            refine wpAnyN_take (i := 1) (v := ?_) rfl (by as_aux_lemma => kernel_rfl) (by as_aux_lemma => kernel_rfl) (by as_aux_lemma => kernel_rfl) (by as_aux_lemma => kernel_rfl) (fun _ _ _ h => h) (by assumption) hS0 (Or.inl ⟨by rfl, ?_⟩) (fun hcl1 => ?_)
            rotate_left
            · (intro wS hSw; (try obtain ⟨hSa, hSb⟩ := hSw); go_simp; (try with_reducible rfl))
            clear hcl0
            try simp only [Act.put, List.getElem_toArray, List.getElem_cons_succ, List.getElem_cons_zero, List.setIfInBounds_toArray, List.set_cons_zero, List.set_cons_succ]
            refine wpAnyN_take (i := 2) (v := ?_) rfl (by as_aux_lemma => kernel_rfl) (by as_aux_lemma => kernel_rfl) (by as_aux_lemma => kernel_rfl) (by as_aux_lemma => kernel_rfl) (fun _ _ _ h => h) (by assumption) hS0 (Or.inl ⟨by rfl, ?_⟩) (fun hcl2 => ?_)
            rotate_left
            · (intro wS hSw; (try obtain ⟨hSa, hSb⟩ := hSw); go_simp; (try with_reducible rfl))
            clear hcl1
            try simp only [Act.put, List.getElem_toArray, List.getElem_cons_succ, List.getElem_cons_zero, List.setIfInBounds_toArray, List.set_cons_zero, List.set_cons_succ]
            refine wpAnyN_take (i := 3) (v := ?_) rfl (by as_aux_lemma => kernel_rfl) (by as_aux_lemma => kernel_rfl) (by as_aux_lemma => kernel_rfl) (by as_aux_lemma => kernel_rfl) (fun _ _ _ h => h) (by assumption) hS0 (Or.inl ⟨by rfl, ?_⟩) (fun hcl3 => ?_)
            rotate_left
            · (intro wS hSw; (try obtain ⟨hSa, hSb⟩ := hSw); go_simp; (try with_reducible rfl))
            clear hcl2
            try simp only [Act.put, List.getElem_toArray, List.getElem_cons_succ, List.getElem_cons_zero, List.setIfInBounds_toArray, List.set_cons_zero, List.set_cons_succ]
            refine wpAnyN_take (i := 4) (v := ?_) rfl (by as_aux_lemma => kernel_rfl) (by as_aux_lemma => kernel_rfl) (by as_aux_lemma => kernel_rfl) (by as_aux_lemma => kernel_rfl) (fun _ _ _ h => h) (by assumption) hS0 (Or.inl ⟨by rfl, ?_⟩) (fun hcl4 => ?_)
            rotate_left
            · (intro wS hSw; (try obtain ⟨hSa, hSb⟩ := hSw); go_simp; (try with_reducible rfl))
            clear hcl3
            try simp only [Act.put, List.getElem_toArray, List.getElem_cons_succ, List.getElem_cons_zero, List.setIfInBounds_toArray, List.set_cons_zero, List.set_cons_succ]
            refine wpAnyN_take (i := 5) (v := ?_) rfl (by as_aux_lemma => kernel_rfl) (by as_aux_lemma => kernel_rfl) (by as_aux_lemma => kernel_rfl) (by as_aux_lemma => kernel_rfl) (fun _ _ _ h => h) (by assumption) hS0 (Or.inl ⟨by rfl, ?_⟩) (fun hcl5 => ?_)
            rotate_left
            · (intro wS hSw; (try obtain ⟨hSa, hSb⟩ := hSw); go_simp; (try with_reducible rfl))
            clear hcl4
            try simp only [Act.put, List.getElem_toArray, List.getElem_cons_succ, List.getElem_cons_zero, List.setIfInBounds_toArray, List.set_cons_zero, List.set_cons_succ]
            refine wpAnyN_take (i := 6) (v := ?_) rfl (by as_aux_lemma => kernel_rfl) (by as_aux_lemma => kernel_rfl) (by as_aux_lemma => kernel_rfl) (by as_aux_lemma => kernel_rfl) (fun _ _ _ h => h) (by assumption) hS0 (Or.inl ⟨by rfl, ?_⟩) (fun hcl6 => ?_)
            rotate_left
            · (intro wS hSw; (try obtain ⟨hSa, hSb⟩ := hSw); go_simp; (try with_reducible rfl))
            clear hcl5
            try simp only [Act.put, List.getElem_toArray, List.getElem_cons_succ, List.getElem_cons_zero, List.setIfInBounds_toArray, List.set_cons_zero, List.set_cons_succ]
            refine wpAnyN_take (i := 7) (v := ?_) rfl (by as_aux_lemma => kernel_rfl) (by as_aux_lemma => kernel_rfl) (by as_aux_lemma => kernel_rfl) (by as_aux_lemma => kernel_rfl) (fun _ _ _ h => h) (by assumption) hS0 (Or.inl ⟨by rfl, ?_⟩) (fun hcl7 => ?_)
            rotate_left
            · (intro wS hSw; (try obtain ⟨hSa, hSb⟩ := hSw); go_simp; (try with_reducible rfl))
            clear hcl6
            try simp only [Act.put, List.getElem_toArray, List.getElem_cons_succ, List.getElem_cons_zero, List.setIfInBounds_toArray, List.set_cons_zero, List.set_cons_succ]
            refine wpAnyN_take (i := 8) (v := ?_) rfl (by as_aux_lemma => kernel_rfl) (by as_aux_lemma => kernel_rfl) (by as_aux_lemma => kernel_rfl) (by as_aux_lemma => kernel_rfl) (fun _ _ _ h => h) (by assumption) hS0 (Or.inl ⟨by rfl, ?_⟩) (fun hcl8 => ?_)
            rotate_left
            · (intro wS hSw; (try obtain ⟨hSa, hSb⟩ := hSw); go_simp; (try with_reducible rfl))
            clear hcl7
            try simp only [Act.put, List.getElem_toArray, List.getElem_cons_succ, List.getElem_cons_zero, List.setIfInBounds_toArray, List.set_cons_zero, List.set_cons_succ]
            refine wpAnyN_take (i := 9) (v := ?_) rfl (by as_aux_lemma => kernel_rfl) (by as_aux_lemma => kernel_rfl) (by as_aux_lemma => kernel_rfl) (by as_aux_lemma => kernel_rfl) (fun _ _ _ h => h) (by assumption) hS0 (Or.inl ⟨by rfl, ?_⟩) (fun hcl9 => ?_)
            rotate_left
            · (intro wS hSw; (try obtain ⟨hSa, hSb⟩ := hSw); go_simp; (try with_reducible rfl))
            clear hcl8
            try simp only [Act.put, List.getElem_toArray, List.getElem_cons_succ, List.getElem_cons_zero, List.setIfInBounds_toArray, List.set_cons_zero, List.set_cons_succ]
            refine wpAnyN_take (i := 10) (v := ?_) rfl (by as_aux_lemma => kernel_rfl) (by as_aux_lemma => kernel_rfl) (by as_aux_lemma => kernel_rfl) (by as_aux_lemma => kernel_rfl) (fun _ _ _ h => h) (by assumption) hS0 (Or.inl ⟨by rfl, ?_⟩) (fun hcl10 => ?_)
            rotate_left
            · (intro wS hSw; (try obtain ⟨hSa, hSb⟩ := hSw); go_simp; (try with_reducible rfl))
            clear hcl9
            try simp only [Act.put, List.getElem_toArray, List.getElem_cons_succ, List.getElem_cons_zero, List.setIfInBounds_toArray, List.set_cons_zero, List.set_cons_succ]
            refine wpAnyN_take (i := 11) (v := ?_) rfl (by as_aux_lemma => kernel_rfl) (by as_aux_lemma => kernel_rfl) (by as_aux_lemma => kernel_rfl) (by as_aux_lemma => kernel_rfl) (fun _ _ _ h => h) (by assumption) hS0 (Or.inl ⟨by rfl, ?_⟩) (fun hcl11 => ?_)
            rotate_left
            · (intro wS hSw; (try obtain ⟨hSa, hSb⟩ := hSw); go_simp; (try with_reducible rfl))
            clear hcl10
            try simp only [Act.put, List.getElem_toArray, List.getElem_cons_succ, List.getElem_cons_zero, List.setIfInBounds_toArray, List.set_cons_zero, List.set_cons_succ]
            refine wpAnyN_take (i := 12) (v := ?_) rfl (by as_aux_lemma => kernel_rfl) (by as_aux_lemma => kernel_rfl) (by as_aux_lemma => kernel_rfl) (by as_aux_lemma => kernel_rfl) (fun _ _ _ h => h) (by assumption) hS0 (Or.inl ⟨by rfl, ?_⟩) (fun hcl12 => ?_)
            rotate_left
            · (intro wS hSw; (try obtain ⟨hSa, hSb⟩ := hSw); go_simp; (try with_reducible rfl))
            clear hcl11
            try simp only [Act.put, List.getElem_toArray, List.getElem_cons_succ, List.getElem_cons_zero, List.setIfInBounds_toArray, List.set_cons_zero, List.set_cons_succ]
            refine wpAnyN_take (i := 13) (v := ?_) rfl (by as_aux_lemma => kernel_rfl) (by as_aux_lemma => kernel_rfl) (by as_aux_lemma => kernel_rfl) (by as_aux_lemma => kernel_rfl) (fun _ _ _ h => h) (by assumption) hS0 (Or.inl ⟨by rfl, ?_⟩) (fun hcl13 => ?_)
            rotate_left
            · (intro wS hSw; (try obtain ⟨hSa, hSb⟩ := hSw); go_simp; (try with_reducible rfl))
            clear hcl12
            try simp only [Act.put, List.getElem_toArray, List.getElem_cons_succ, List.getElem_cons_zero, List.setIfInBounds_toArray, List.set_cons_zero, List.set_cons_succ]
            refine wpAnyN_take (i := 14) (v := ?_) rfl (by as_aux_lemma => kernel_rfl) (by as_aux_lemma => kernel_rfl) (by as_aux_lemma => kernel_rfl) (by as_aux_lemma => kernel_rfl) (fun _ _ _ h => h) (by assumption) hS0 (Or.inl ⟨by rfl, ?_⟩) (fun hcl14 => ?_)
            rotate_left
            · (intro wS hSw; (try obtain ⟨hSa, hSb⟩ := hSw); go_simp; (try with_reducible rfl))
            clear hcl13
            try simp only [Act.put, List.getElem_toArray, List.getElem_cons_succ, List.getElem_cons_zero, List.setIfInBounds_toArray, List.set_cons_zero, List.set_cons_succ]
            refine wpAnyN_take (i := 15) (v := ?_) rfl (by as_aux_lemma => kernel_rfl) (by as_aux_lemma => kernel_rfl) (by as_aux_lemma => kernel_rfl) (by as_aux_lemma => kernel_rfl) (fun _ _ _ h => h) (by assumption) hS0 (Or.inl ⟨by rfl, ?_⟩) (fun hcl15 => ?_)
            rotate_left
            · (intro wS hSw; (try obtain ⟨hSa, hSb⟩ := hSw); go_simp; (try with_reducible rfl))
            clear hcl14
            try simp only [Act.put, List.getElem_toArray, List.getElem_cons_succ, List.getElem_cons_zero, List.setIfInBounds_toArray, List.set_cons_zero, List.set_cons_succ]
            refine wpAnyN_take (i := 16) (v := ?_) rfl (by as_aux_lemma => kernel_rfl) (by as_aux_lemma => kernel_rfl) (by as_aux_lemma => kernel_rfl) (by as_aux_lemma => kernel_rfl) (fun _ _ _ h => h) (by assumption) hS0 (Or.inl ⟨by rfl, ?_⟩) (fun hcl16 => ?_)
            rotate_left
            · (intro wS hSw; (try obtain ⟨hSa, hSb⟩ := hSw); go_simp; (try with_reducible rfl))
            clear hcl15
            try simp only [Act.put, List.getElem_toArray, List.getElem_cons_succ, List.getElem_cons_zero, List.setIfInBounds_toArray, List.set_cons_zero, List.set_cons_succ]
            refine wpAnyN_oneC (i := 17) (by as_aux_lemma => kernel_rfl) rfl (by assumption) (fun hcl17 K' hK' => ?_)
            clear hcl16
            go_simp
            go_at_call 39
            refine (right_bs _ _ _ _ wc.drew (HB1.out.same (Upd.refl _ _).drew) (hb3.same (Upd.refl _ _).drew)).mono ?_
            rintro e w2 ⟨rfl, hs2⟩
            rw [hX2]
            have hS1 : w2.cell? ⟨b, 0, none⟩ = some (.bool true) ∧ w2.cell? ⟨b, 3, none⟩ = some (.slice A r.b.length cap) := ⟨hs2.cell hS0.1 id, hs2.cell hS0.2 id⟩
            have HS2 := Lib.hid hs2
            clear hs2
            refine hK'.out _ _ (fun _ => hS1) ?_
            clear hK' K'
            try simp only [Act.put, List.getElem_toArray, List.getElem_cons_succ, List.getElem_cons_zero, List.setIfInBounds_toArray, List.set_cons_zero, List.set_cons_succ]
            refine wpAnyN_take (i := 18) (v := ?_) rfl (by as_aux_lemma => kernel_rfl) (by as_aux_lemma => kernel_rfl) (by as_aux_lemma => kernel_rfl) (by as_aux_lemma => kernel_rfl) (fun _ _ _ h => h) (by assumption) hS1 (Or.inl ⟨by rfl, ?_⟩) (fun hcl18 => ?_)
            rotate_left
            · (intro wS hSw; (try obtain ⟨hSa, hSb⟩ := hSw); go_simp; (try with_reducible rfl))
            clear hcl17
            try simp only [Act.put, List.getElem_toArray, List.getElem_cons_succ, List.getElem_cons_zero, List.setIfInBounds_toArray, List.set_cons_zero, List.set_cons_succ]
            refine wpAnyN_take (i := 19) (v := ?_) rfl (by as_aux_lemma => kernel_rfl) (by as_aux_lemma => kernel_rfl) (by as_aux_lemma => kernel_rfl) (by as_aux_lemma => kernel_rfl) (fun _ _ _ h => h) (by assumption) hS1 (Or.inl ⟨by rfl, ?_⟩) (fun hcl19 => ?_)
            rotate_left
            · (intro wS hSw; (try obtain ⟨hSa, hSb⟩ := hSw); go_simp; (try with_reducible rfl))
            clear hcl18
            try simp only [Act.put, List.getElem_toArray, List.getElem_cons_succ, List.getElem_cons_zero, List.setIfInBounds_toArray, List.set_cons_zero, List.set_cons_succ]
            refine wpAnyN_done (by as_aux_lemma => kernel_rfl) ?_ _
            refine NoPanic.normal ?_
            go_wp2_with fail
            go_meet
            exact ⟨by rw [HA52.out]; rfl, by simp, HNS.out.same (Same.trans (Upd.refl _ _).drew HS2.out)⟩
          · rw [Bool.not_eq_true] at hhs
            rw [hhs] at c0
            have hXF : X = false := by rw [← HXB.out]; unfold Rd1.hbad; rw [hhs]; rfl
            have HXF := Lib.hid hXF
            have hS0 : wc.drew.cell? ⟨b, 0, none⟩ = some (.bool false) := (Upd.refl (fun _ => False) _).drew.cell c0 (fun h => h)
            clear hXF hhs
            refine wp_region_noPanic ?_
            refine wp_region_need (fun w' => w'.cell? ⟨b, 0, none⟩ = some (.bool false)) (fun _ => true) (by kernel_rfl) (fun hcl => ?_)
            refine wpAnyN_take (i := 0) (v := ?_) rfl (by as_aux_lemma => kernel_rfl) (by as_aux_lemma => kernel_rfl) (by as_aux_lemma => kernel_rfl) (by as_aux_lemma => kernel_rfl) (fun _ _ _ h => h) (by assumption) hS0 (Or.inl ⟨by rfl, ?_⟩) (fun hcl0 => ?_)
            rotate_left
            · (intro wS hSw; (try obtain ⟨hSa, hSb⟩ := hSw); go_simp; (try with_reducible rfl))
            clear hcl
            try simp only [Act.put, List.getElem_toArray, List.getElem_cons_succ, List.getElem_cons_zero, List.setIfInBounds_toArray, List.set_cons_zero, List.set_cons_succ]
            refine wpAnyN_take (i := 1) (v := ?_) rfl (by as_aux_lemma => kernel_rfl) (by as_aux_lemma => kernel_rfl) (by as_aux_lemma => kernel_rfl) (by as_aux_lemma => kernel_rfl) (fun _ _ _ h => h) (by assumption) hS0 (Or.inl ⟨by rfl, ?_⟩) (fun hcl1 => ?_)
            rotate_left
            · (intro wS hSw; (try obtain ⟨hSa, hSb⟩ := hSw); go_simp; (try with_reducible rfl))
            clear hcl0
            try simp only [Act.put, List.getElem_toArray, List.getElem_cons_succ, List.getElem_cons_zero, List.setIfInBounds_toArray, List.set_cons_zero, List.set_cons_succ]
            refine wpAnyN_take (i := 2) (v := ?_) rfl (by as_aux_lemma => kernel_rfl) (by as_aux_lemma => kernel_rfl) (by as_aux_lemma => kernel_rfl) (by as_aux_lemma => kernel_rfl) (fun _ _ _ h => h) (by assumption) hS0 (Or.inl ⟨by rfl, ?_⟩) (fun hcl2 => ?_)
            rotate_left
            · (intro wS hSw; (try obtain ⟨hSa, hSb⟩ := hSw); go_simp; (try with_reducible rfl))
            clear hcl1
            try simp only [Act.put, List.getElem_toArray, List.getElem_cons_succ, List.getElem_cons_zero, List.setIfInBounds_toArray, List.set_cons_zero, List.set_cons_succ]
            refine wpAnyN_take (i := 3) (v := ?_) rfl (by as_aux_lemma => kernel_rfl) (by as_aux_lemma => kernel_rfl) (by as_aux_lemma => kernel_rfl) (by as_aux_lemma => kernel_rfl) (fun _ _ _ h => h) (by assumption) hS0 (Or.inl ⟨by rfl, ?_⟩) (fun hcl3 => ?_)
            rotate_left
            · (intro wS hSw; (try obtain ⟨hSa, hSb⟩ := hSw); go_simp; (try with_reducible rfl))
            clear hcl2
            try simp only [Act.put, List.getElem_toArray, List.getElem_cons_succ, List.getElem_cons_zero, List.setIfInBounds_toArray, List.set_cons_zero, List.set_cons_succ]
            refine wpAnyN_take (i := 4) (v := ?_) rfl (by as_aux_lemma => kernel_rfl) (by as_aux_lemma => kernel_rfl) (by as_aux_lemma => kernel_rfl) (by as_aux_lemma => kernel_rfl) (fun _ _ _ h => h) (by assumption) hS0 (Or.inl ⟨by rfl, ?_⟩) (fun hcl4 => ?_)
            rotate_left
            · (intro wS hSw; (try obtain ⟨hSa, hSb⟩ := hSw); go_simp; (try with_reducible rfl))
            clear hcl3
            try simp only [Act.put, List.getElem_toArray, List.getElem_cons_succ, List.getElem_cons_zero, List.setIfInBounds_toArray, List.set_cons_zero, List.set_cons_succ]
            refine wpAnyN_take (i := 5) (v := ?_) rfl (by as_aux_lemma => kernel_rfl) (by as_aux_lemma => kernel_rfl) (by as_aux_lemma => kernel_rfl) (by as_aux_lemma => kernel_rfl) (fun _ _ _ h => h) (by assumption) hS0 (Or.inl ⟨by rfl, ?_⟩) (fun hcl5 => ?_)
            rotate_left
            · (intro wS hSw; (try obtain ⟨hSa, hSb⟩ := hSw); go_simp; (try with_reducible rfl))
            clear hcl4
            try simp only [Act.put, List.getElem_toArray, List.getElem_cons_succ, List.getElem_cons_zero, List.setIfInBounds_toArray, List.set_cons_zero, List.set_cons_succ]
            refine wpAnyN_take (i := 6) (v := undef) rfl (by as_aux_lemma => kernel_rfl) (by as_aux_lemma => kernel_rfl) (by as_aux_lemma => kernel_rfl) (by as_aux_lemma => kernel_rfl) (fun _ _ _ h => h) (by assumption) hS0 (Or.inr ⟨by rfl, rfl⟩) (fun hcl6 => ?_)
            clear hcl5
            try simp only [Act.put, List.getElem_toArray, List.getElem_cons_succ, List.getElem_cons_zero, List.setIfInBounds_toArray, List.set_cons_zero, List.set_cons_succ]
            refine wpAnyN_take (i := 7) (v := undef) rfl (by as_aux_lemma => kernel_rfl) (by as_aux_lemma => kernel_rfl) (by as_aux_lemma => kernel_rfl) (by as_aux_lemma => kernel_rfl) (fun _ _ _ h => h) (by assumption) hS0 (Or.inr ⟨by rfl, rfl⟩) (fun hcl7 => ?_)
            clear hcl6
            try simp only [Act.put, List.getElem_toArray, List.getElem_cons_succ, List.getElem_cons_zero, List.setIfInBounds_toArray, List.set_cons_zero, List.set_cons_succ]
            refine wpAnyN_take (i := 8) (v := undef) rfl (by as_aux_lemma => kernel_rfl) (by as_aux_lemma => kernel_rfl) (by as_aux_lemma => kernel_rfl) (by as_aux_lemma => kernel_rfl) (fun _ _ _ h => h) (by assumption) hS0 (Or.inr ⟨by rfl, rfl⟩) (fun hcl8 => ?_)
            clear hcl7
            try simp only [Act.put, List.getElem_toArray, List.getElem_cons_succ, List.getElem_cons_zero, List.setIfInBounds_toArray, List.set_cons_zero, List.set_cons_succ]
            refine wpAnyN_take (i := 9) (v := undef) rfl (by as_aux_lemma => kernel_rfl) (by as_aux_lemma => kernel_rfl) (by as_aux_lemma => kernel_rfl) (by as_aux_lemma => kernel_rfl) (fun _ _ _ h => h) (by assumption) hS0 (Or.inr ⟨by rfl, rfl⟩) (fun hcl9 => ?_)
            clear hcl8
            try simp only [Act.put, List.getElem_toArray, List.getElem_cons_succ, List.getElem_cons_zero, List.setIfInBounds_toArray, List.set_cons_zero, List.set_cons_succ]
            refine wpAnyN_take (i := 10) (v := undef) rfl (by as_aux_lemma => kernel_rfl) (by as_aux_lemma => kernel_rfl) (by as_aux_lemma => kernel_rfl) (by as_aux_lemma => kernel_rfl) (fun _ _ _ h => h) (by assumption) hS0 (Or.inr ⟨by rfl, rfl⟩) (fun hcl10 => ?_)
            clear hcl9
            try simp only [Act.put, List.getElem_toArray, List.getElem_cons_succ, List.getElem_cons_zero, List.setIfInBounds_toArray, List.set_cons_zero, List.set_cons_succ]
            refine wpAnyN_take (i := 11) (v := undef) rfl (by as_aux_lemma => kernel_rfl) (by as_aux_lemma => kernel_rfl) (by as_aux_lemma => kernel_rfl) (by as_aux_lemma => kernel_rfl) (fun _ _ _ h => h) (by assumption) hS0 (Or.inr ⟨by rfl, rfl⟩) (fun hcl11 => ?_)
            clear hcl10
            try simp only [Act.put, List.getElem_toArray, List.getElem_cons_succ, List.getElem_cons_zero, List.setIfInBounds_toArray, List.set_cons_zero, List.set_cons_succ]
            refine wpAnyN_take (i := 12) (v := undef) rfl (by as_aux_lemma => kernel_rfl) (by as_aux_lemma => kernel_rfl) (by as_aux_lemma => kernel_rfl) (by as_aux_lemma => kernel_rfl) (fun _ _ _ h => h) (by assumption) hS0 (Or.inr ⟨by rfl, rfl⟩) (fun hcl12 => ?_)
            clear hcl11
            try simp only [Act.put, List.getElem_toArray, List.getElem_cons_succ, List.getElem_cons_zero, List.setIfInBounds_toArray, List.set_cons_zero, List.set_cons_succ]
            refine wpAnyN_take (i := 13) (v := undef) rfl (by as_aux_lemma => kernel_rfl) (by as_aux_lemma => kernel_rfl) (by as_aux_lemma => kernel_rfl) (by as_aux_lemma => kernel_rfl) (fun _ _ _ h => h) (by assumption) hS0 (Or.inr ⟨by rfl, rfl⟩) (fun hcl13 => ?_)
            clear hcl12
            try simp only [Act.put, List.getElem_toArray, List.getElem_cons_succ, List.getElem_cons_zero, List.setIfInBounds_toArray, List.set_cons_zero, List.set_cons_succ]
            refine wpAnyN_take (i := 14) (v := undef) rfl (by as_aux_lemma => kernel_rfl) (by as_aux_lemma => kernel_rfl) (by as_aux_lemma => kernel_rfl) (by as_aux_lemma => kernel_rfl) (fun _ _ _ h => h) (by assumption) hS0 (Or.inr ⟨by rfl, rfl⟩) (fun hcl14 => ?_)
            clear hcl13
            try simp only [Act.put, List.getElem_toArray, List.getElem_cons_succ, List.getElem_cons_zero, List.setIfInBounds_toArray, List.set_cons_zero, List.set_cons_succ]
            refine wpAnyN_take (i := 15) (v := undef) rfl (by as_aux_lemma => kernel_rfl) (by as_aux_lemma => kernel_rfl) (by as_aux_lemma => kernel_rfl) (by as_aux_lemma => kernel_rfl) (fun _ _ _ h => h) (by assumption) hS0 (Or.inr ⟨by rfl, rfl⟩) (fun hcl15 => ?_)
            clear hcl14
            try simp only [Act.put, List.getElem_toArray, List.getElem_cons_succ, List.getElem_cons_zero, List.setIfInBounds_toArray, List.set_cons_zero, List.set_cons_succ]
            refine wpAnyN_take (i := 16) (v := undef) rfl (by as_aux_lemma => kernel_rfl) (by as_aux_lemma => kernel_rfl) (by as_aux_lemma => kernel_rfl) (by as_aux_lemma => kernel_rfl) (fun _ _ _ h => h) (by assumption) hS0 (Or.inr ⟨by rfl, rfl⟩) (fun hcl16 => ?_)
            clear hcl15
            try simp only [Act.put, List.getElem_toArray, List.getElem_cons_succ, List.getElem_cons_zero, List.setIfInBounds_toArray, List.set_cons_zero, List.set_cons_succ]
            refine wpAnyN_take (i := 17) (v := undef) rfl (by as_aux_lemma => kernel_rfl) (by as_aux_lemma => kernel_rfl) (by as_aux_lemma => kernel_rfl) (by as_aux_lemma => kernel_rfl) (fun _ _ _ h => h) (by assumption) hS0 (Or.inr ⟨by rfl, rfl⟩) (fun hcl17 => ?_)
            clear hcl16
            try simp only [Act.put, List.getElem_toArray, List.getElem_cons_succ, List.getElem_cons_zero, List.setIfInBounds_toArray, List.set_cons_zero, List.set_cons_succ]
            refine wpAnyN_take (i := 18) (v := undef) rfl (by as_aux_lemma => kernel_rfl) (by as_aux_lemma => kernel_rfl) (by as_aux_lemma => kernel_rfl) (by as_aux_lemma => kernel_rfl) (fun _ _ _ h => h) (by assumption) hS0 (Or.inr ⟨by rfl, rfl⟩) (fun hcl18 => ?_)
            clear hcl17
            try simp only [Act.put, List.getElem_toArray, List.getElem_cons_succ, List.getElem_cons_zero, List.setIfInBounds_toArray, List.set_cons_zero, List.set_cons_succ]
            refine wpAnyN_take (i := 19) (v := ?_) rfl (by as_aux_lemma => kernel_rfl) (by as_aux_lemma => kernel_rfl) (by as_aux_lemma => kernel_rfl) (by as_aux_lemma => kernel_rfl) (fun _ _ _ h => h) (by assumption) hS0 (Or.inl ⟨by rfl, ?_⟩) (fun hcl19 => ?_)
            rotate_left
            · (intro wS hSw; (try obtain ⟨hSa, hSb⟩ := hSw); go_simp; (try with_reducible rfl))
            clear hcl18
            try simp only [Act.put, List.getElem_toArray, List.getElem_cons_succ, List.getElem_cons_zero, List.setIfInBounds_toArray, List.set_cons_zero, List.set_cons_succ]
            refine wpAnyN_done (by as_aux_lemma => kernel_rfl) ?_ _
            refine NoPanic.normal ?_
            go_wp2_with fail
            go_meet
            exact ⟨rfl, by rw [HXF.out], HNS.out.same (Upd.refl _ _).drew⟩
        case rest =>
          clear c3
          obtain ⟨rfl, rfl, hns⟩ := hcut
          have HNS := Lib.hid hns
          have c3 := hns.1.2.1 3 _ rfl
          have c2 := hns.1.2.1 2 _ rfl
          clear hns
          have HSH := Lib.hid H1.out
          cases X
          · have hlen : 48 ≤ r.b.length := by have h1 := HAT.out; have h2 := H1.out; omega
            have HCAP := Lib.hid HNS.out.1.2.2.2.1.cap
            have hc1 : (48 : Int) ≤ (cap : Int) := by have := HCAP.out; omega
            have hp := parse_any A 48 cap (r.b.take 48) wc ((HNS.out.1.2.2.2.1.bs).take 48 hlen) (by rw [List.length_take]; omega)
            rw [parseP_take, parseE_take, sizeP_take] at hp
            have hqd : (parseP r.b).data = [] := rfl
            have hE : parseE r.b = 0 ∨ parseE r.b = 11 := by unfold parseE; split <;> simp
            have hsz : sizeP r.b < 16777216 := by
              have h1 := pn_range r.b 5 3
              have e : (256 : Int) ^ 3 = 16777216 := by decide
              unfold sizeP
              omega
            generalize hq : parseP r.b = q at hp hqd
            have HQ := Lib.hid hq
            clear hq
            unfold pdA at hp
            have HP := Lib.hid hp
            have HQD := Lib.hid hqd
            have HE := Lib.hid hE
            have HSZ := Lib.hid hsz
            clear hp hqd hE hsz hlen
            have HNS' := HNS
            go_wp2_with fail
            refine HP.out.mono ?_
            rintro e wp ⟨rfl, hsp⟩
            have HSP := Lib.hid hsp
            clear hsp HP c3 c2
            rcases HE.out with hE | hE
            · rw [hE]
              have hif : (if (0 : Int) = 0 then ((sizeP r.b : Nat) : Int) else 0) = ((sizeP r.b : Nat) : Int) := if_pos rfl
              rw [hif]
              clear hif
              have HE0 := Lib.hid hE
              clear hE HE
              have hS24 := HSZ.out
              have hPD := padN_lt (sizeP r.b)
              have HPAD : Hid (∀ W, Calls Try.prog 36 #[.int .i64 ((sizeP r.b : Nat) : Int)] W fun e w' => e = .returned (.int .i64 ((padN (sizeP r.b) : Nat) : Int)) ∧ W = w') := fun W => zero_ok (sizeP r.b) W
              have hall : r.all = r.at_ + (sizeP r.b + padN (sizeP r.b)) + if r.o.ds && decide (0 < sizeP r.b) then 4 else 0 := rfl
              have HALL := Lib.hid hall
              have ha52 : r.at_ ≤ 52 := by rw [HAT.out]; split <;> omega
              have ha48 : 48 ≤ r.at_ := by rw [HAT.out]; omega
              clear hall
              generalize hszv : sizeP r.b = sz at HPAD HALL hS24 hPD ⊢
              have HSV := Lib.hid hszv
              clear hszv
              generalize hpd : padN sz = pd at HPAD HALL hPD
              have HPDV := Lib.hid hpd
              clear hpd
              have hns2 := (HNS.out.same HSP.out)
              have hxb := BoxC.newAt wp (pdC q (.slice none 0 0)) 40 wp.heap.size rfl
              have hns3 := hns2.same ((Upd.refl (fun _ => False) wp).alloc (.cells (pdC q (.slice none 0 0)).toArray 40))
              have HNS3 := Lib.hid hns3
              have HXB2 := Lib.hid hxb
              have c2 := hns3.1.2.1 2 _ rfl
              have c1 := hns3.1.2.1 1 _ rfl
              have c3 := hns3.1.2.1 3 _ rfl
              have hXb : w.heap.size < wp.heap.size := hns2.2.1.lt (by decide)
              have HXR := Lib.hid hXb
              clear hns2 hxb hns3 hXb
              unfold pdC at HNS3 HXB2 c1 c2 c3
              by_cases hm : r.o.most < (sz : Int)
              · have HN := Lib.hid (next_size HD.out H1.out HXB.out HE0.out (by rw [HSV.out]; exact hm))
                clear c1
                go_wp2_with fail
                refine (die_any HNS3.out.1 3).mono ?_
                rintro e wd ⟨rfl, hg⟩
                have HG := Lib.hid hg
                have hbd := NS.die H0.out HNS3.out hg
                have z0 := hbd.1 0 _ rfl
                have z1 := hbd.1 1 _ rfl
                have z2 := hbd.1 2 _ rfl
                have z3 := hbd.1 3 _ rfl
                have z4 := hbd.1 4 _ rfl
                have z5 := hbd.1 5 _ rfl
                have z6 := hbd.1 6 _ rfl
                have z7 := hbd.1 7 _ rfl
                have z8 := hbd.1 8 _ rfl
                have z9 := hbd.1 9 _ rfl
                have z10 := hbd.1 10 _ rfl
                have z11 := hbd.1 11 _ rfl
                have z12 := hbd.1 12 _ rfl
                have z13 := hbd.1 13 _ rfl
                have z14 := hbd.1 14 _ rfl
                have fz := hbd.2
                unfold FzAt at fz
                have HBD := Lib.hid hbd
                clear hg hbd
                go_wp2_with fail
                try rw [Exit.noGoto_ret]
                refine next_ret (b := w.heap.size) noP none 0 0 (x := 3) (y := true) ?_ ?_ ?_ ?_ (BoxTo.full ?_) ?_
                · rfl
                · rfl
                · rfl
                · rfl
                · iterate 15 refine BoxTo.step ?_ (by decide) rfl
                  exact BoxTo.zero noP noP (.slice none 0 0) (.slice none 0 0) HBD.out.1
                · try rw [← HNX.out, HN.out]
                  refine NS.exitDie H0.out HNS3.out HG.out ?_ 3
                  repeat refine Upd.setCell ?_ (by simp) _
                  exact Upd.refl _ _
              · have HM := Lib.hid hm
                exact absurd HK.out (by rw [next_live HD.out H1.out HXB.out HE0.out (by rw [HSV.out]; exact hm)]; simp)
            · rw [hE]
              have hif : (if (11 : Int) = 0 then ((sizeP r.b : Nat) : Int) else 0) = 0 := if_neg (by decide)
              rw [hif]
              clear hif
              have HN := Lib.hid (next_form HD.out H1.out HXB.out (by rw [hE]; decide))
              have hns2 := (HNS.out.same HSP.out).same ((Upd.refl (fun _ => False) wp).alloc (.cells (pdC q (.slice none 0 0)).toArray 40))
              have HNS3 := Lib.hid hns2
              clear hns2 hE HE
              unfold pdC at HNS3
              go_wp2_with fail
              refine (die_any HNS3.out.1 11).mono ?_
              rintro e wd ⟨rfl, hg⟩
              have HG := Lib.hid hg
              have hbd := NS.die H0.out HNS3.out hg
              have z0 := hbd.1 0 _ rfl
              have z1 := hbd.1 1 _ rfl
              have z2 := hbd.1 2 _ rfl
              have z3 := hbd.1 3 _ rfl
              have z4 := hbd.1 4 _ rfl
              have z5 := hbd.1 5 _ rfl
              have z6 := hbd.1 6 _ rfl
              have z7 := hbd.1 7 _ rfl
              have z8 := hbd.1 8 _ rfl
              have z9 := hbd.1 9 _ rfl
              have z10 := hbd.1 10 _ rfl
              have z11 := hbd.1 11 _ rfl
              have z12 := hbd.1 12 _ rfl
              have z13 := hbd.1 13 _ rfl
              have z14 := hbd.1 14 _ rfl
              have fz := hbd.2
              unfold FzAt at fz
              have HBD := Lib.hid hbd
              clear hg hbd
              go_wp2_with fail
              try rw [Exit.noGoto_ret]
              refine next_ret (b := w.heap.size) noP none 0 0 (x := 11) (y := true) ?_ ?_ ?_ ?_ (BoxTo.full ?_) ?_
              · rfl
              · rfl
              · rfl
              · rfl
              · iterate 15 refine BoxTo.step ?_ (by decide) rfl
                exact BoxTo.zero noP noP (.slice none 0 0) (.slice none 0 0) HBD.out.1
              · try rw [← HNX.out, HN.out]
                refine NS.exitDie H0.out HNS3.out HG.out ?_ 11
                repeat refine Upd.setCell ?_ (by simp) _
                exact Upd.refl _ _
          · have HN := Lib.hid (next_hsum HD.out H1.out HXB.out)
            clear c2
            go_wp2_with fail
            refine (die_any HNS.out.1 12).mono ?_
            rintro e wd ⟨rfl, hg⟩
            have HG := Lib.hid hg
            have hbd := NS.die H0.out HNS.out hg
            have z0 := hbd.1 0 _ rfl
            have z1 := hbd.1 1 _ rfl
            have z2 := hbd.1 2 _ rfl
            have z3 := hbd.1 3 _ rfl
            have z4 := hbd.1 4 _ rfl
            have z5 := hbd.1 5 _ rfl
            have z6 := hbd.1 6 _ rfl
            have z7 := hbd.1 7 _ rfl
            have z8 := hbd.1 8 _ rfl
            have z9 := hbd.1 9 _ rfl
            have z10 := hbd.1 10 _ rfl
            have z11 := hbd.1 11 _ rfl
            have z12 := hbd.1 12 _ rfl
            have z13 := hbd.1 13 _ rfl
            have z14 := hbd.1 14 _ rfl
            have fz := hbd.2
            unfold FzAt at fz
            have HBD := Lib.hid hbd
            clear hg hbd
            go_wp2_with fail
            try rw [Exit.noGoto_ret]
            refine next_ret (b := w.heap.size) noP none 0 0 (x := 12) (y := true) ?_ ?_ ?_ ?_ (BoxTo.full ?_) ?_
            · rfl
            · rfl
            · rfl
            · rfl
            · iterate 15 refine BoxTo.step ?_ (by decide) rfl
              exact BoxTo.zero noP noP (.slice none 0 0) (.slice none 0 0) HBD.out.1
            · try rw [← HNX.out, HN.out]
              refine NS.exitDie H0.out HNS.out HG.out ?_ 12
              repeat refine Upd.setCell ?_ (by simp) _
              exact Upd.refl _ _
end Go.Proofs.Ytfafepmghcobdaa
