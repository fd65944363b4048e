/- Letters (chapter 17): the program's Next, its ways out (3). -/
import Derived.Test.YtfafepmghcobdaaPduZ0
import Derived.Test.YtfafepmghcobdaaGa
import Derived.Deep.CutRange
import Derived.Deep.CutBlock
import Derived.Deep.Cut
import Derived.Deep.DeepCutAuto
namespace Go.Proofs.Ytfafepmghcobdaa
open Go.RowKit
set_option linter.unusedVariables false
set_option linter.unusedSimpArgs false
set_option maxRecDepth 100000
set_option maxHeartbeats 8000000
attribute [local go_sem ↓] Go.wp_at_zero Go.wp_at_succ
theorem next_way3 {base : Nat} {w : World} {b : Nat} {v : Value} {r : Rd1} (h : RdV base w b v r) (hbase : base ≤ w.heap.size) (hr : r.b.length ≤ 131072) (hk : r.next.2.2.2.dead = false ∧ r.next.2.2.1 = true ∧ ¬ r.next.2.1 = 0) :
    Calls Try.prog 16 #[.pointer (some ⟨b, 0, none⟩)] w fun e w' => NextPost base w b v r.next e w' := by
  obtain ⟨A, n, cap, rfl⟩ := Fresh.shape h.2.2.2.1
  have hn := h.2.2.2.1.len'
  subst hn
  have H0 := Lib.hid h
  have HR := Lib.hid hr
  have HK := Lib.hid hk
  clear hk
  have HBS := Lib.hid hbase
  clear hbase
  have hns := NS.init h 40
  have HNS := Lib.hid hns
  have hst := state_any b r.o _ r.dead _ hns.1.2.1
  have HST := Lib.hid hst
  clear hst hns h hr
  by_cases hd : r.dead = true
  · have HN := Lib.hid (next_dead hd)
    exact absurd HK.out (by rw [HN.out]; simp [noP, hd])
  · rw [Bool.not_eq_true] at hd
    rw [hd] at HST
    have HD := Lib.hid hd
    clear hd
    have hat : r.at_ = 48 + if r.o.hs then 4 else 0 := by unfold Rd1.at_; split <;> rfl
    have HAT := Lib.hid hat
    clear hat
    generalize hX : r.hbad = X
    have HXB := Lib.hid hX
    clear hX
    generalize hNX : r.next = NX
    have HNX := Lib.hid hNX
    clear hNX
    go_enter Try.func16, Try.ntmps16
    go_wp2_with fail
    go_step3
    go_wp2_with fail
    refine HST.out.mono ?_
    rintro e w1 ⟨rfl, hw1⟩
    have hns1 := HNS.out
    rw [hw1] at hns1
    have HNS1 := Lib.hid hns1
    have c0 := hns1.1.2.1 0 _ rfl
    clear hw1 hns1 HNS HST
    go_upto_if 26 with (fail)
    go_cut [6] from 16 (fun v6 wx => v6 = .int .i64 (r.at_ : Nat) ∧ NS base w wx b (.slice A r.b.length cap) r)
    case first => as_aux_lemma =>
      by_cases hhs : r.o.hs = true
      · have ha := HAT.out
        rw [hhs] at ha c0 ⊢
        clear hhs
        go_wp2_with fail
        go_meet
        exact ⟨by rw [ha]; rfl, HNS1.out⟩
      · rw [Bool.not_eq_true] at hhs
        have ha := HAT.out
        rw [hhs] at ha c0 ⊢
        clear hhs
        go_wp2_with fail
        go_meet
        exact ⟨by rw [ha]; rfl, HNS1.out⟩
    case rest =>
      clear c0 HNS1
      obtain ⟨rfl, hns⟩ := hcut
      have HNS := Lib.hid hns
      have c3 := hns.1.2.1 3 _ rfl
      clear hns
      by_cases h1 : r.b.length < r.at_
      · have HN := Lib.hid (next_short HD.out h1)
        have h1i : (r.b.length : Int) < (r.at_ : Nat) := by omega
        clear h1
        exact absurd HK.out (by rw [HN.out]; simp [Rd1.die, Rd1.rest, HD.out, noP])
      · have h1i : ¬ (r.b.length : Int) < (r.at_ : Nat) := by omega
        have H1 := Lib.hid h1
        clear h1
        go_upto_region 9 with (fail)
        go_cut [6, 56] from 16 (fun v6 v56 wx => v6 = .int .i64 (r.at_ : Nat) ∧ v56 = .bool X ∧ NS base w wx b (.slice A r.b.length cap) r)
        case first => as_aux_lemma =>
          have HCAP := Lib.hid HNS.out.1.2.2.2.1.cap
          have c0 := HNS.out.1.2.1 0 _ rfl
          by_cases hhs : r.o.hs = true
          · rw [hhs] at c0
            have hlen : 52 ≤ r.b.length := by have h1 := HAT.out; rw [hhs] at h1; have h2 := H1.out; simp at h1; omega
            have hat52 : r.at_ = 52 := by rw [HAT.out, hhs]; rfl
            have hb1 := (HNS.out.1.2.2.2.1.bs).take 48 (by omega)
            have hb2 := ((HNS.out.1.2.2.2.1.bs).take 52 (by omega)).drop 48 (by omega)
            have HB1 := Lib.hid hb1
            have HB2 := Lib.hid hb2
            have HA52 := Lib.hid hat52
            rw [hat52]
            clear hat52
            have hc1 : (48 : Int) ≤ (cap : Int) := by have := HCAP.out; omega
            have hc2 : (52 : Int) ≤ (cap : Int) := by have := HCAP.out; omega
            have hc3 : ¬ cap = 48 := by have := HCAP.out; omega
            have hlen1 : 48 ≤ r.b.length := by omega
            have hcm : cap ≤ 9223372036854775807 := HCAP.out.2
            have hS0 : wc.drew.cell? ⟨b, 0, none⟩ = some (.bool true) ∧ wc.drew.cell? ⟨b, 3, none⟩ = some (.slice A r.b.length cap) := ⟨(Upd.refl (fun _ => False) _).drew.cell c0 (fun h => h), (Upd.refl (fun _ => False) _).drew.cell c3 (fun h => h)⟩
            have hb3 : Bs wc (.slice (Option.map (fun x => ({ block := x.block, off := x.off + 48 } : Addr)) A) 4 (cap - 48)) ((r.b.drop 48).take 4) := by
              have h3 := HB2.out
              rw [if_neg hc3, List.drop_take] at h3
              exact h3
            have hX2 : Value.bool (eqB (crcDigest (crcSum (r.b.take 48))) ((r.b.drop 48).take 4)) = .bool (!X) := by
              rw [eqB_beq, ← HXB.out]
              unfold Rd1.hbad
              rw [hhs]
              simp
            clear hb1 hb2 HB2 hhs
            refine wp_region_noPanic ?_
            refine wp_region_need (fun w' => w'.cell? ⟨b, 0, none⟩ = some (.bool true) ∧ w'.cell? ⟨b, 3, none⟩ = some (.slice A r.b.length cap)) (fun _ => true) (by kernel_rfl) (fun hcl => ?_)
            refine wpAnyN_take (i := 0) (v := ?_) rfl (by as_aux_lemma => kernel_rfl) (by as_aux_lemma => kernel_rfl) (by as_aux_lemma => kernel_rfl) (by as_aux_lemma => kernel_rfl) (fun _ _ _ h => h) (by assumption) hS0 (Or.inl ⟨by rfl, ?_⟩) (fun hcl0 => ?_)
            rotate_left
            · (intro wS hSw; (try obtain ⟨hSa, hSb⟩ := hSw); go_simp; (try with_reducible rfl))
            clear hcl
            try simp only [Act.put, List.getElem_toArray, List.getElem_cons_succ, List.getElem_cons_zero, List.setIfInBounds_toArray, List.set_cons_zero, List.set_cons_succ]
            refine wpAnyN_take (i := 1) (v := ?_) rfl (by as_aux_lemma => kernel_rfl) (by as_aux_lemma => kernel_rfl) (by as_aux_lemma => kernel_rfl) (by as_aux_lemma => kernel_rfl) (fun _ _ _ h => h) (by assumption) hS0 (Or.inl ⟨by rfl, ?_⟩) (fun hcl1 => ?_)
            rotate_left
            · (intro wS hSw; (try obtain ⟨hSa, hSb⟩ := hSw); go_simp; (try with_reducible rfl))
            clear hcl0
            try simp only [Act.put, List.getElem_toArray, List.getElem_cons_succ, List.getElem_cons_zero, List.setIfInBounds_toArray, List.set_cons_zero, List.set_cons_succ]
            refine wpAnyN_take (i := 2) (v := ?_) rfl (by as_aux_lemma => kernel_rfl) (by as_aux_lemma => kernel_rfl) (by as_aux_lemma => kernel_rfl) (by as_aux_lemma => kernel_rfl) (fun _ _ _ h => h) (by assumption) hS0 (Or.inl ⟨by rfl, ?_⟩) (fun hcl2 => ?_)
            rotate_left
            · (intro wS hSw; (try obtain ⟨hSa, hSb⟩ := hSw); go_simp; (try with_reducible rfl))
            clear hcl1
            try simp only [Act.put, List.getElem_toArray, List.getElem_cons_succ, List.getElem_cons_zero, List.setIfInBounds_toArray, List.set_cons_zero, List.set_cons_succ]
            refine wpAnyN_take (i := 3) (v := ?_) rfl (by as_aux_lemma => kernel_rfl) (by as_aux_lemma => kernel_rfl) (by as_aux_lemma => kernel_rfl) (by as_aux_lemma => kernel_rfl) (fun _ _ _ h => h) (by assumption) hS0 (Or.inl ⟨by rfl, ?_⟩) (fun hcl3 => ?_)
            rotate_left
            · (intro wS hSw; (try obtain ⟨hSa, hSb⟩ := hSw); go_simp; (try with_reducible rfl))
            clear hcl2
            try simp only [Act.put, List.getElem_toArray, List.getElem_cons_succ, List.getElem_cons_zero, List.setIfInBounds_toArray, List.set_cons_zero, List.set_cons_succ]
            refine wpAnyN_take (i := 4) (v := ?_) rfl (by as_aux_lemma => kernel_rfl) (by as_aux_lemma => kernel_rfl) (by as_aux_lemma => kernel_rfl) (by as_aux_lemma => kernel_rfl) (fun _ _ _ h => h) (by assumption) hS0 (Or.inl ⟨by rfl, ?_⟩) (fun hcl4 => ?_)
            rotate_left
            · (intro wS hSw; (try obtain ⟨hSa, hSb⟩ := hSw); go_simp; (try with_reducible rfl))
            clear hcl3
            try simp only [Act.put, List.getElem_toArray, List.getElem_cons_succ, List.getElem_cons_zero, List.setIfInBounds_toArray, List.set_cons_zero, List.set_cons_succ]
            refine wpAnyN_take (i := 5) (v := ?_) rfl (by as_aux_lemma => kernel_rfl) (by as_aux_lemma => kernel_rfl) (by as_aux_lemma => kernel_rfl) (by as_aux_lemma => kernel_rfl) (fun _ _ _ h => h) (by assumption) hS0 (Or.inl ⟨by rfl, ?_⟩) (fun hcl5 => ?_)
            rotate_left
            · (intro wS hSw; (try obtain ⟨hSa, hSb⟩ := hSw); go_simp; (try with_reducible rfl))
            clear hcl4
            try simp only [Act.put, List.getElem_toArray, List.getElem_cons_succ, List.getElem_cons_zero, List.setIfInBounds_toArray, List.set_cons_zero, List.set_cons_succ]
            refine wpAnyN_take (i := 6) (v := ?_) rfl (by as_aux_lemma => kernel_rfl) (by as_aux_lemma => kernel_rfl) (by as_aux_lemma => kernel_rfl) (by as_aux_lemma => kernel_rfl) (fun _ _ _ h => h) (by assumption) hS0 (Or.inl ⟨by rfl, ?_⟩) (fun hcl6 => ?_)
            rotate_left
            · (intro wS hSw; (try obtain ⟨hSa, hSb⟩ := hSw); go_simp; (try with_reducible rfl))
            clear hcl5
            try simp only [Act.put, List.getElem_toArray, List.getElem_cons_succ, List.getElem_cons_zero, List.setIfInBounds_toArray, List.set_cons_zero, List.set_cons_succ]
            refine wpAnyN_take (i := 7) (v := ?_) rfl (by as_aux_lemma => kernel_rfl) (by as_aux_lemma => kernel_rfl) (by as_aux_lemma => kernel_rfl) (by as_aux_lemma => kernel_rfl) (fun _ _ _ h => h) (by assumption) hS0 (Or.inl ⟨by rfl, ?_⟩) (fun hcl7 => ?_)
            rotate_left
            · (intro wS hSw; (try obtain ⟨hSa, hSb⟩ := hSw); go_simp; (try with_reducible rfl))
            clear hcl6
            try simp only [Act.put, List.getElem_toArray, List.getElem_cons_succ, List.getElem_cons_zero, List.setIfInBounds_toArray, List.set_cons_zero, List.set_cons_succ]
            refine wpAnyN_take (i := 8) (v := ?_) rfl (by as_aux_lemma => kernel_rfl) (by as_aux_lemma => kernel_rfl) (by as_aux_lemma => kernel_rfl) (by as_aux_lemma => kernel_rfl) (fun _ _ _ h => h) (by assumption) hS0 (Or.inl ⟨by rfl, ?_⟩) (fun hcl8 => ?_)
            rotate_left
            · (intro wS hSw; (try obtain ⟨hSa, hSb⟩ := hSw); go_simp; (try with_reducible rfl))
            clear hcl7
            try simp only [Act.put, List.getElem_toArray, List.getElem_cons_succ, List.getElem_cons_zero, List.setIfInBounds_toArray, List.set_cons_zero, List.set_cons_succ]
            refine wpAnyN_take (i := 9) (v := ?_) rfl (by as_aux_lemma => kernel_rfl) (by as_aux_lemma => kernel_rfl) (by as_aux_lemma => kernel_rfl) (by as_aux_lemma => kernel_rfl) (fun _ _ _ h => h) (by assumption) hS0 (Or.inl ⟨by rfl, ?_⟩) (fun hcl9 => ?_)
            rotate_left
            · (intro wS hSw; (try obtain ⟨hSa, hSb⟩ := hSw); go_simp; (try with_reducible rfl))
            clear hcl8
            try simp only [Act.put, List.getElem_toArray, List.getElem_cons_succ, List.getElem_cons_zero, List.setIfInBounds_toArray, List.set_cons_zero, List.set_cons_succ]
            refine wpAnyN_take (i := 10) (v := ?_) rfl (by as_aux_lemma => kernel_rfl) (by as_aux_lemma => kernel_rfl) (by as_aux_lemma => kernel_rfl) (by as_aux_lemma => kernel_rfl) (fun _ _ _ h => h) (by assumption) hS0 (Or.inl ⟨by rfl, ?_⟩) (fun hcl10 => ?_)
            rotate_left
            · (intro wS hSw; (try obtain ⟨hSa, hSb⟩ := hSw); go_simp; (try with_reducible rfl))
            clear hcl9
            try simp only [Act.put, List.getElem_toArray, List.getElem_cons_succ, List.getElem_cons_zero, List.setIfInBounds_toArray, List.set_cons_zero, List.set_cons_succ]
            refine wpAnyN_take (i := 11) (v := ?_) rfl (by as_aux_lemma => kernel_rfl) (by as_aux_lemma => kernel_rfl) (by as_aux_lemma => kernel_rfl) (by as_aux_lemma => kernel_rfl) (fun _ _ _ h => h) (by assumption) hS0 (Or.inl ⟨by rfl, ?_⟩) (fun hcl11 => ?_)
            rotate_left
            · (intro wS hSw; (try obtain ⟨hSa, hSb⟩ := hSw); go_simp; (try with_reducible rfl))
            clear hcl10
            try simp only [Act.put, List.getElem_toArray, List.getElem_cons_succ, List.getElem_cons_zero, List.setIfInBounds_toArray, List.set_cons_zero, List.set_cons_succ]
            refine wpAnyN_take (i := 12) (v := ?_) rfl (by as_aux_lemma => kernel_rfl) (by as_aux_lemma => kernel_rfl) (by as_aux_lemma => kernel_rfl) (by as_aux_lemma => kernel_rfl) (fun _ _ _ h => h) (by assumption) hS0 (Or.inl ⟨by rfl, ?_⟩) (fun hcl12 => ?_)
            rotate_left
            · (intro wS hSw; (try obtain ⟨hSa, hSb⟩ := hSw); go_simp; (try with_reducible rfl))
            clear hcl11
            try simp only [Act.put, List.getElem_toArray, List.getElem_cons_succ, List.getElem_cons_zero, List.setIfInBounds_toArray, List.set_cons_zero, List.set_cons_succ]
            refine wpAnyN_take (i := 13) (v := ?_) rfl (by as_aux_lemma => kernel_rfl) (by as_aux_lemma => kernel_rfl) (by as_aux_lemma => kernel_rfl) (by as_aux_lemma => kernel_rfl) (fun _ _ _ h => h) (by assumption) hS0 (Or.inl ⟨by rfl, ?_⟩) (fun hcl13 => ?_)
            rotate_left
            · (intro wS hSw; (try obtain ⟨hSa, hSb⟩ := hSw); go_simp; (try with_reducible rfl))
            clear hcl12
            try simp only [Act.put, List.getElem_toArray, List.getElem_cons_succ, List.getElem_cons_zero, List.setIfInBounds_toArray, List.set_cons_zero, List.set_cons_succ]
            refine wpAnyN_take (i := 14) (v := ?_) rfl (by as_aux_lemma => kernel_rfl) (by as_aux_lemma => kernel_rfl) (by as_aux_lemma => kernel_rfl) (by as_aux_lemma => kernel_rfl) (fun _ _ _ h => h) (by assumption) hS0 (Or.inl ⟨by rfl, ?_⟩) (fun hcl14 => ?_)
            rotate_left
            · (intro wS hSw; (try obtain ⟨hSa, hSb⟩ := hSw); go_simp; (try with_reducible rfl))
            clear hcl13
            try simp only [Act.put, List.getElem_toArray, List.getElem_cons_succ, List.getElem_cons_zero, List.setIfInBounds_toArray, List.set_cons_zero, List.set_cons_succ]
            refine wpAnyN_take (i := 15) (v := ?_) rfl (by as_aux_lemma => kernel_rfl) (by as_aux_lemma => kernel_rfl) (by as_aux_lemma => kernel_rfl) (by as_aux_lemma => kernel_rfl) (fun _ _ _ h => h) (by assumption) hS0 (Or.inl ⟨by rfl, ?_⟩) (fun hcl15 => ?_)
            rotate_left
            · (intro wS hSw; (try obtain ⟨hSa, hSb⟩ := hSw); go_simp; (try with_reducible rfl))
            clear hcl14
            try simp only [Act.put, List.getElem_toArray, List.getElem_cons_succ, List.getElem_cons_zero, List.setIfInBounds_toArray, List.set_cons_zero, List.set_cons_succ]
            refine wpAnyN_take (i := 16) (v := ?_) rfl (by as_aux_lemma => kernel_rfl) (by as_aux_lemma => kernel_rfl) (by as_aux_lemma => kernel_rfl) (by as_aux_lemma => kernel_rfl) (fun _ _ _ h => h) (by assumption) hS0 (Or.inl ⟨by rfl, ?_⟩) (fun hcl16 => ?_)
            rotate_left
            · (intro wS hSw; (try obtain ⟨hSa, hSb⟩ := hSw); go_simp; (try with_reducible rfl))
            clear hcl15
            try simp only [Act.put, List.getElem_toArray, List.getElem_cons_succ, List.getElem_cons_zero, List.setIfInBounds_toArray, List.set_cons_zero, List.set_cons_succ]
            refine wpAnyN_oneC (i := 17) (by as_aux_lemma => kernel_rfl) rfl (by assumption) (fun hcl17 K' hK' => ?_)
            clear hcl16
            go_simp
            go_at_call 39
            refine (right_bs _ _ _ _ wc.drew (HB1.out.same (Upd.refl _ _).drew) (hb3.same (Upd.refl _ _).drew)).mono ?_
            rintro e w2 ⟨rfl, hs2⟩
            rw [hX2]
            have hS1 : w2.cell? ⟨b, 0, none⟩ = some (.bool true) ∧ w2.cell? ⟨b, 3, none⟩ = some (.slice A r.b.length cap) := ⟨hs2.cell hS0.1 id, hs2.cell hS0.2 id⟩
            have HS2 := Lib.hid hs2
            clear hs2
            refine hK'.out _ _ (fun _ => hS1) ?_
            clear hK' K'
            try simp only [Act.put, List.getElem_toArray, List.getElem_cons_succ, List.getElem_cons_zero, List.setIfInBounds_toArray, List.set_cons_zero, List.set_cons_succ]
            refine wpAnyN_take (i := 18) (v := ?_) rfl (by as_aux_lemma => kernel_rfl) (by as_aux_lemma => kernel_rfl) (by as_aux_lemma => kernel_rfl) (by as_aux_lemma => kernel_rfl) (fun _ _ _ h => h) (by assumption) hS1 (Or.inl ⟨by rfl, ?_⟩) (fun hcl18 => ?_)
            rotate_left
            · (intro wS hSw; (try obtain ⟨hSa, hSb⟩ := hSw); go_simp; (try with_reducible rfl))
            clear hcl17
            try simp only [Act.put, List.getElem_toArray, List.getElem_cons_succ, List.getElem_cons_zero, List.setIfInBounds_toArray, List.set_cons_zero, List.set_cons_succ]
            refine wpAnyN_take (i := 19) (v := ?_) rfl (by as_aux_lemma => kernel_rfl) (by as_aux_lemma => kernel_rfl) (by as_aux_lemma => kernel_rfl) (by as_aux_lemma => kernel_rfl) (fun _ _ _ h => h) (by assumption) hS1 (Or.inl ⟨by rfl, ?_⟩) (fun hcl19 => ?_)
            rotate_left
            · (intro wS hSw; (try obtain ⟨hSa, hSb⟩ := hSw); go_simp; (try with_reducible rfl))
            clear hcl18
            try simp only [Act.put, List.getElem_toArray, List.getElem_cons_succ, List.getElem_cons_zero, List.setIfInBounds_toArray, List.set_cons_zero, List.set_cons_succ]
            refine wpAnyN_done (by as_aux_lemma => kernel_rfl) ?_ _
            refine NoPanic.normal ?_
            go_wp2_with fail
            go_meet
            exact ⟨by rw [HA52.out]; rfl, by simp, HNS.out.same (Same.trans (Upd.refl _ _).drew HS2.out)⟩
          · rw [Bool.not_eq_true] at hhs
            rw [hhs] at c0
            have hXF : X = false := by rw [← HXB.out]; unfold Rd1.hbad; rw [hhs]; rfl
            have HXF := Lib.hid hXF
            have hS0 : wc.drew.cell? ⟨b, 0, none⟩ = some (.bool false) := (Upd.refl (fun _ => False) _).drew.cell c0 (fun h => h)
            clear hXF hhs
            refine wp_region_noPanic ?_
            refine wp_region_need (fun w' => w'.cell? ⟨b, 0, none⟩ = some (.bool false)) (fun _ => true) (by kernel_rfl) (fun hcl => ?_)
            refine wpAnyN_take (i := 0) (v := ?_) rfl (by as_aux_lemma => kernel_rfl) (by as_aux_lemma => kernel_rfl) (by as_aux_lemma => kernel_rfl) (by as_aux_lemma => kernel_rfl) (fun _ _ _ h => h) (by assumption) hS0 (Or.inl ⟨by rfl, ?_⟩) (fun hcl0 => ?_)
            rotate_left
            · (intro wS hSw; (try obtain ⟨hSa, hSb⟩ := hSw); go_simp; (try with_reducible rfl))
            clear hcl
            try simp only [Act.put, List.getElem_toArray, List.getElem_cons_succ, List.getElem_cons_zero, List.setIfInBounds_toArray, List.set_cons_zero, List.set_cons_succ]
            refine wpAnyN_take (i := 1) (v := ?_) rfl (by as_aux_lemma => kernel_rfl) (by as_aux_lemma => kernel_rfl) (by as_aux_lemma => kernel_rfl) (by as_aux_lemma => kernel_rfl) (fun _ _ _ h => h) (by assumption) hS0 (Or.inl ⟨by rfl, ?_⟩) (fun hcl1 => ?_)
            rotate_left
            · (intro wS hSw; (try obtain ⟨hSa, hSb⟩ := hSw); go_simp; (try with_reducible rfl))
            clear hcl0
            try simp only [Act.put, List.getElem_toArray, List.getElem_cons_succ, List.getElem_cons_zero, List.setIfInBounds_toArray, List.set_cons_zero, List.set_cons_succ]
            refine wpAnyN_take (i := 2) (v := ?_) rfl (by as_aux_lemma => kernel_rfl) (by as_aux_lemma => kernel_rfl) (by as_aux_lemma => kernel_rfl) (by as_aux_lemma => kernel_rfl) (fun _ _ _ h => h) (by assumption) hS0 (Or.inl ⟨by rfl, ?_⟩) (fun hcl2 => ?_)
            rotate_left
            · (intro wS hSw; (try obtain ⟨hSa, hSb⟩ := hSw); go_simp; (try with_reducible rfl))
            clear hcl1
            try simp only [Act.put, List.getElem_toArray, List.getElem_cons_succ, List.getElem_cons_zero, List.setIfInBounds_toArray, List.set_cons_zero, List.set_cons_succ]
            refine wpAnyN_take (i := 3) (v := ?_) rfl (by as_aux_lemma => kernel_rfl) (by as_aux_lemma => kernel_rfl) (by as_aux_lemma => kernel_rfl) (by as_aux_lemma => kernel_rfl) (fun _ _ _ h => h) (by assumption) hS0 (Or.inl ⟨by rfl, ?_⟩) (fun hcl3 => ?_)
            rotate_left
            · (intro wS hSw; (try obtain ⟨hSa, hSb⟩ := hSw); go_simp; (try with_reducible rfl))
            clear hcl2
            try simp only [Act.put, List.getElem_toArray, List.getElem_cons_succ, List.getElem_cons_zero, List.setIfInBounds_toArray, List.set_cons_zero, List.set_cons_succ]
            refine wpAnyN_take (i := 4) (v := ?_) rfl (by as_aux_lemma => kernel_rfl) (by as_aux_lemma => kernel_rfl) (by as_aux_lemma => kernel_rfl) (by as_aux_lemma => kernel_rfl) (fun _ _ _ h => h) (by assumption) hS0 (Or.inl ⟨by rfl, ?_⟩) (fun hcl4 => ?_)
            rotate_left
            · (intro wS hSw; (try obtain ⟨hSa, hSb⟩ := hSw); go_simp; (try with_reducible rfl))
            clear hcl3
            try simp only [Act.put, List.getElem_toArray, List.getElem_cons_succ, List.getElem_cons_zero, List.setIfInBounds_toArray, List.set_cons_zero, List.set_cons_succ]
            refine wpAnyN_take (i := 5) (v := ?_) rfl (by as_aux_lemma => kernel_rfl) (by as_aux_lemma => kernel_rfl) (by as_aux_lemma => kernel_rfl) (by as_aux_lemma => kernel_rfl) (fun _ _ _ h => h) (by assumption) hS0 (Or.inl ⟨by rfl, ?_⟩) (fun hcl5 => ?_)
            rotate_left
            · (intro wS hSw; (try obtain ⟨hSa, hSb⟩ := hSw); go_simp; (try with_reducible rfl))
            clear hcl4
            try simp only [Act.put, List.getElem_toArray, List.getElem_cons_succ, List.getElem_cons_zero, List.setIfInBounds_toArray, List.set_cons_zero, List.set_cons_succ]
            refine wpAnyN_take (i := 6) (v := undef) rfl (by as_aux_lemma => kernel_rfl) (by as_aux_lemma => kernel_rfl) (by as_aux_lemma => kernel_rfl) (by as_aux_lemma => kernel_rfl) (fun _ _ _ h => h) (by assumption) hS0 (Or.inr ⟨by rfl, rfl⟩) (fun hcl6 => ?_)
            clear hcl5
            try simp only [Act.put, List.getElem_toArray, List.getElem_cons_succ, List.getElem_cons_zero, List.setIfInBounds_toArray, List.set_cons_zero, List.set_cons_succ]
            refine wpAnyN_take (i := 7) (v := undef) rfl (by as_aux_lemma => kernel_rfl) (by as_aux_lemma => kernel_rfl) (by as_aux_lemma => kernel_rfl) (by as_aux_lemma => kernel_rfl) (fun _ _ _ h => h) (by assumption) hS0 (Or.inr ⟨by rfl, rfl⟩) (fun hcl7 => ?_)
            clear hcl6
            try simp only [Act.put, List.getElem_toArray, List.getElem_cons_succ, List.getElem_cons_zero, List.setIfInBounds_toArray, List.set_cons_zero, List.set_cons_succ]
            refine wpAnyN_take (i := 8) (v := undef) rfl (by as_aux_lemma => kernel_rfl) (by as_aux_lemma => kernel_rfl) (by as_aux_lemma => kernel_rfl) (by as_aux_lemma => kernel_rfl) (fun _ _ _ h => h) (by assumption) hS0 (Or.inr ⟨by rfl, rfl⟩) (fun hcl8 => ?_)
            clear hcl7
            try simp only [Act.put, List.getElem_toArray, List.getElem_cons_succ, List.getElem_cons_zero, List.setIfInBounds_toArray, List.set_cons_zero, List.set_cons_succ]
            refine wpAnyN_take (i := 9) (v := undef) rfl (by as_aux_lemma => kernel_rfl) (by as_aux_lemma => kernel_rfl) (by as_aux_lemma => kernel_rfl) (by as_aux_lemma => kernel_rfl) (fun _ _ _ h => h) (by assumption) hS0 (Or.inr ⟨by rfl, rfl⟩) (fun hcl9 => ?_)
            clear hcl8
            try simp only [Act.put, List.getElem_toArray, List.getElem_cons_succ, List.getElem_cons_zero, List.setIfInBounds_toArray, List.set_cons_zero, List.set_cons_succ]
            refine wpAnyN_take (i := 10) (v := undef) rfl (by as_aux_lemma => kernel_rfl) (by as_aux_lemma => kernel_rfl) (by as_aux_lemma => kernel_rfl) (by as_aux_lemma => kernel_rfl) (fun _ _ _ h => h) (by assumption) hS0 (Or.inr ⟨by rfl, rfl⟩) (fun hcl10 => ?_)
            clear hcl9
            try simp only [Act.put, List.getElem_toArray, List.getElem_cons_succ, List.getElem_cons_zero, List.setIfInBounds_toArray, List.set_cons_zero, List.set_cons_succ]
            refine wpAnyN_take (i := 11) (v := undef) rfl (by as_aux_lemma => kernel_rfl) (by as_aux_lemma => kernel_rfl) (by as_aux_lemma => kernel_rfl) (by as_aux_lemma => kernel_rfl) (fun _ _ _ h => h) (by assumption) hS0 (Or.inr ⟨by rfl, rfl⟩) (fun hcl11 => ?_)
            clear hcl10
            try simp only [Act.put, List.getElem_toArray, List.getElem_cons_succ, List.getElem_cons_zero, List.setIfInBounds_toArray, List.set_cons_zero, List.set_cons_succ]
            refine wpAnyN_take (i := 12) (v := undef) rfl (by as_aux_lemma => kernel_rfl) (by as_aux_lemma => kernel_rfl) (by as_aux_lemma => kernel_rfl) (by as_aux_lemma => kernel_rfl) (fun _ _ _ h => h) (by assumption) hS0 (Or.inr ⟨by rfl, rfl⟩) (fun hcl12 => ?_)
            clear hcl11
            try simp only [Act.put, List.getElem_toArray, List.getElem_cons_succ, List.getElem_cons_zero, List.setIfInBounds_toArray, List.set_cons_zero, List.set_cons_succ]
            refine wpAnyN_take (i := 13) (v := undef) rfl (by as_aux_lemma => kernel_rfl) (by as_aux_lemma => kernel_rfl) (by as_aux_lemma => kernel_rfl) (by as_aux_lemma => kernel_rfl) (fun _ _ _ h => h) (by assumption) hS0 (Or.inr ⟨by rfl, rfl⟩) (fun hcl13 => ?_)
            clear hcl12
            try simp only [Act.put, List.getElem_toArray, List.getElem_cons_succ, List.getElem_cons_zero, List.setIfInBounds_toArray, List.set_cons_zero, List.set_cons_succ]
            refine wpAnyN_take (i := 14) (v := undef) rfl (by as_aux_lemma => kernel_rfl) (by as_aux_lemma => kernel_rfl) (by as_aux_lemma => kernel_rfl) (by as_aux_lemma => kernel_rfl) (fun _ _ _ h => h) (by assumption) hS0 (Or.inr ⟨by rfl, rfl⟩) (fun hcl14 => ?_)
            clear hcl13
            try simp only [Act.put, List.getElem_toArray, List.getElem_cons_succ, List.getElem_cons_zero, List.setIfInBounds_toArray, List.set_cons_zero, List.set_cons_succ]
            refine wpAnyN_take (i := 15) (v := undef) rfl (by as_aux_lemma => kernel_rfl) (by as_aux_lemma => kernel_rfl) (by as_aux_lemma => kernel_rfl) (by as_aux_lemma => kernel_rfl) (fun _ _ _ h => h) (by assumption) hS0 (Or.inr ⟨by rfl, rfl⟩) (fun hcl15 => ?_)
            clear hcl14
            try simp only [Act.put, List.getElem_toArray, List.getElem_cons_succ, List.getElem_cons_zero, List.setIfInBounds_toArray, List.set_cons_zero, List.set_cons_succ]
            refine wpAnyN_take (i := 16) (v := undef) rfl (by as_aux_lemma => kernel_rfl) (by as_aux_lemma => kernel_rfl) (by as_aux_lemma => kernel_rfl) (by as_aux_lemma => kernel_rfl) (fun _ _ _ h => h) (by assumption) hS0 (Or.inr ⟨by rfl, rfl⟩) (fun hcl16 => ?_)
            clear hcl15
            try simp only [Act.put, List.getElem_toArray, List.getElem_cons_succ, List.getElem_cons_zero, List.setIfInBounds_toArray, List.set_cons_zero, List.set_cons_succ]
            refine wpAnyN_take (i := 17) (v := undef) rfl (by as_aux_lemma => kernel_rfl) (by as_aux_lemma => kernel_rfl) (by as_aux_lemma => kernel_rfl) (by as_aux_lemma => kernel_rfl) (fun _ _ _ h => h) (by assumption) hS0 (Or.inr ⟨by rfl, rfl⟩) (fun hcl17 => ?_)
            clear hcl16
            try simp only [Act.put, List.getElem_toArray, List.getElem_cons_succ, List.getElem_cons_zero, List.setIfInBounds_toArray, List.set_cons_zero, List.set_cons_succ]
            refine wpAnyN_take (i := 18) (v := undef) rfl (by as_aux_lemma => kernel_rfl) (by as_aux_lemma => kernel_rfl) (by as_aux_lemma => kernel_rfl) (by as_aux_lemma => kernel_rfl) (fun _ _ _ h => h) (by assumption) hS0 (Or.inr ⟨by rfl, rfl⟩) (fun hcl18 => ?_)
            clear hcl17
            try simp only [Act.put, List.getElem_toArray, List.getElem_cons_succ, List.getElem_cons_zero, List.setIfInBounds_toArray, List.set_cons_zero, List.set_cons_succ]
            refine wpAnyN_take (i := 19) (v := ?_) rfl (by as_aux_lemma => kernel_rfl) (by as_aux_lemma => kernel_rfl) (by as_aux_lemma => kernel_rfl) (by as_aux_lemma => kernel_rfl) (fun _ _ _ h => h) (by assumption) hS0 (Or.inl ⟨by rfl, ?_⟩) (fun hcl19 => ?_)
            rotate_left
            · (intro wS hSw; (try obtain ⟨hSa, hSb⟩ := hSw); go_simp; (try with_reducible rfl))
            clear hcl18
            try simp only [Act.put, List.getElem_toArray, List.getElem_cons_succ, List.getElem_cons_zero, List.setIfInBounds_toArray, List.set_cons_zero, List.set_cons_succ]
            refine wpAnyN_done (by as_aux_lemma => kernel_rfl) ?_ _
            refine NoPanic.normal ?_
            go_wp2_with fail
            go_meet
            exact ⟨rfl, by rw [HXF.out], HNS.out.same (Upd.refl _ _).drew⟩
        case rest =>
          clear c3
          obtain ⟨rfl, rfl, hns⟩ := hcut
          have HNS := Lib.hid hns
          have c3 := hns.1.2.1 3 _ rfl
          have c2 := hns.1.2.1 2 _ rfl
          clear hns
          have HSH := Lib.hid H1.out
          cases X
          · have hlen : 48 ≤ r.b.length := by have h1 := HAT.out; have h2 := H1.out; omega
            have HCAP := Lib.hid HNS.out.1.2.2.2.1.cap
            have hc1 : (48 : Int) ≤ (cap : Int) := by have := HCAP.out; omega
            have hp := parse_any A 48 cap (r.b.take 48) wc ((HNS.out.1.2.2.2.1.bs).take 48 hlen) (by rw [List.length_take]; omega)
            rw [parseP_take, parseE_take, sizeP_take] at hp
            have hqd : (parseP r.b).data = [] := rfl
            have hE : parseE r.b = 0 ∨ parseE r.b = 11 := by unfold parseE; split <;> simp
            have hsz : sizeP r.b < 16777216 := by
              have h1 := pn_range r.b 5 3
              have e : (256 : Int) ^ 3 = 16777216 := by decide
              unfold sizeP
              omega
            generalize hq : parseP r.b = q at hp hqd
            have HQ := Lib.hid hq
            clear hq
            unfold pdA at hp
            have HP := Lib.hid hp
            have HQD := Lib.hid hqd
            have HE := Lib.hid hE
            have HSZ := Lib.hid hsz
            clear hp hqd hE hsz hlen
            have HNS' := HNS
            go_wp2_with fail
            refine HP.out.mono ?_
            rintro e wp ⟨rfl, hsp⟩
            have HSP := Lib.hid hsp
            clear hsp HP c3 c2
            rcases HE.out with hE | hE
            · rw [hE]
              have hif : (if (0 : Int) = 0 then ((sizeP r.b : Nat) : Int) else 0) = ((sizeP r.b : Nat) : Int) := if_pos rfl
              rw [hif]
              clear hif
              have HE0 := Lib.hid hE
              clear hE HE
              have hS24 := HSZ.out
              have hPD := padN_lt (sizeP r.b)
              have HPAD : Hid (∀ W, Calls Try.prog 36 #[.int .i64 ((sizeP r.b : Nat) : Int)] W fun e w' => e = .returned (.int .i64 ((padN (sizeP r.b) : Nat) : Int)) ∧ W = w') := fun W => zero_ok (sizeP r.b) W
              have hall : r.all = r.at_ + (sizeP r.b + padN (sizeP r.b)) + if r.o.ds && decide (0 < sizeP r.b) then 4 else 0 := rfl
              have HALL := Lib.hid hall
              have ha52 : r.at_ ≤ 52 := by rw [HAT.out]; split <;> omega
              have ha48 : 48 ≤ r.at_ := by rw [HAT.out]; omega
              clear hall
              generalize hszv : sizeP r.b = sz at HPAD HALL hS24 hPD ⊢
              have HSV := Lib.hid hszv
              clear hszv
              generalize hpd : padN sz = pd at HPAD HALL hPD
              have HPDV := Lib.hid hpd
              clear hpd
              have hns2 := (HNS.out.same HSP.out)
              have hxb := BoxC.newAt wp (pdC q (.slice none 0 0)) 40 wp.heap.size rfl
              have hns3 := hns2.same ((Upd.refl (fun _ => False) wp).alloc (.cells (pdC q (.slice none 0 0)).toArray 40))
              have HNS3 := Lib.hid hns3
              have HXB2 := Lib.hid hxb
              have c2 := hns3.1.2.1 2 _ rfl
              have c1 := hns3.1.2.1 1 _ rfl
              have c3 := hns3.1.2.1 3 _ rfl
              have hXb : w.heap.size < wp.heap.size := hns2.2.1.lt (by decide)
              have HXR := Lib.hid hXb
              clear hns2 hxb hns3 hXb
              unfold pdC at HNS3 HXB2 c1 c2 c3
              by_cases hm : r.o.most < (sz : Int)
              · have HN := Lib.hid (next_size HD.out H1.out HXB.out HE0.out (by rw [HSV.out]; exact hm))
                clear c1
                exact absurd HK.out (by rw [HN.out]; simp [Rd1.die, Rd1.rest, HD.out, noP])
              · have HM := Lib.hid hm
                have hmi : ¬ r.o.most < (sz : Int) := hm
                have hpc := HPAD.out
                go_wp2_with fail
                refine (HPAD.out _).mono ?_
                rintro e wq ⟨rfl, hwq⟩
                rw [← hwq]
                clear hwq hpc
                obtain ⟨Z, hZ⟩ : ∃ Z, Z = (r.o.ds && decide (0 < sz)) := ⟨_, rfl⟩
                rw [← hZ] at HALL
                have HZ := Lib.hid hZ
                clear hZ
                go_upto_region 18 with (fail)
                go_cut [102] from 16 (fun v102 wx => v102 = .bool Z ∧ NS base w wx b (.slice A r.b.length cap) r ∧ BoxC wx wp.heap.size (pdC q (.slice none 0 0)))
                case first => as_aux_lemma =>
                  by_cases hds : r.o.ds = true
                  · rw [hds] at c1
                    have hzz : Z = decide (0 < sz) := by rw [HZ.out, hds]; simp
                    have HZZ := Lib.hid hzz
                    clear hds hzz
                    go_wp2_with fail
                    go_meet
                    exact ⟨by rw [HZZ.out], HNS3.out, HXB2.out⟩
                  · rw [Bool.not_eq_true] at hds
                    rw [hds] at c1
                    have hzz : Z = false := by rw [HZ.out, hds]; rfl
                    have HZZ := Lib.hid hzz
                    clear hds hzz
                    go_wp2_with fail
                    go_meet
                    exact ⟨by rw [HZZ.out], HNS3.out, HXB2.out⟩
                case rest =>
                obtain ⟨rfl, hns4, hxb4⟩ := hcut
                clear c1 c2 c3
                have HNS4 := Lib.hid hns4
                have HXB4 := Lib.hid hxb4
                clear hns4 hxb4
                go_upto_if 102 with (fail)
                go_cut [10, 11] from 16 (fun v10 v11 wx => v10 = .int .i64 ((r.at_ + (sz + pd) : Nat) : Int) ∧ v11 = .int .i64 ((r.all : Nat) : Int) ∧ NS base w wx b (.slice A r.b.length cap) r ∧ BoxC wx wp.heap.size (pdC q (.slice none 0 0)))
                case first => as_aux_lemma =>
                  have hal := HALL.out
                  have ha52 := ha52
                  cases Z
                  · have HAL := Lib.hid hal
                    clear hal
                    go_wp2_with fail
                    go_meet
                    exact ⟨by push_cast; rw [Int.add_assoc], by rw [HAL.out]; simp only [Bool.false_eq_true, if_false, if_true]; congr 1; push_cast; omega, HNS4.out, HXB4.out⟩
                  · have HAL := Lib.hid hal
                    clear hal
                    go_wp2_with fail
                    go_meet
                    exact ⟨by push_cast; rw [Int.add_assoc], by rw [HAL.out]; simp only [Bool.false_eq_true, if_false, if_true]; congr 1; push_cast; omega, HNS4.out, HXB4.out⟩
                case rest =>
                obtain ⟨rfl, rfl, hns5, hxb5⟩ := hcut
                have HNS5 := Lib.hid hns5
                have HXB5 := Lib.hid hxb5
                have c3 := hns5.1.2.1 3 _ rfl
                clear hns5 hxb5 HNS4 HXB4 HNS3 HXB2 HNS HNS'
                by_cases hw : r.b.length < r.all
                · have hwi : (r.b.length : Int) < ((r.all : Nat) : Int) := by omega
                  have HN := Lib.hid (next_waits HD.out H1.out HXB.out HE0.out (by rw [HSV.out]; have := HM.out; omega) hw)
                  clear hw
                  exact absurd HK.out (by rw [HN.out]; simp [Rd1.die, Rd1.rest, HD.out, noP])
                · have hwi : ¬ (r.b.length : Int) < ((r.all : Nat) : Int) := by omega
                  have HW := Lib.hid hw
                  have hcp := HCAP.out
                  have hal := HALL.out
                  have e1 : (r.at_ : Int) ≤ ((r.at_ + (sz + pd) : Nat) : Int) := by omega
                  have e2 : ((r.at_ + (sz + pd) : Nat) : Int) ≤ (cap : Int) := by omega
                  have e3 : ((r.at_ + (sz + pd) : Nat) : Int) ≤ ((r.all : Nat) : Int) := by omega
                  have e4 : ((r.all : Nat) : Int) ≤ (cap : Int) := by omega
                  have e5 : ((r.all : Nat) : Int) ≤ (r.b.length : Int) := by omega
                  have HEE := Lib.hid (And.intro e1 (And.intro e2 (And.intro e3 (And.intro e4 e5))))
                  have hcm : cap ≤ 9223372036854775807 := hcp.2
                  clear hw hcp hal
                  have hS0 : wc.drew.cell? ⟨b, 3, none⟩ = some (.slice A r.b.length cap) := (Upd.refl (fun _ => False) _).drew.cell c3 (fun h => h)
                  generalize hEN : r.at_ + (sz + pd) = EN at e1 e2 e3 HEE ⊢
                  have HEN := Lib.hid hEN
                  clear hEN
                  go_wp2_with fail
                  refine wp_region_noPanic ?_
                  refine wp_region_need (fun w' => w'.cell? ⟨b, 3, none⟩ = some (.slice A r.b.length cap)) (fun _ => true) (by kernel_rfl) (fun hcl => ?_)
                  refine wpAnyN_take (i := 0) (v := ?_) rfl (by as_aux_lemma => kernel_rfl) (by as_aux_lemma => kernel_rfl) (by as_aux_lemma => kernel_rfl) (by as_aux_lemma => kernel_rfl) (fun _ _ _ h => h) (by assumption) hS0 (Or.inl ⟨by rfl, ?_⟩) (fun hcl0 => ?_)
                  rotate_left
                  · (intro wS hSw; (try obtain ⟨hSa, hSb⟩ := hSw); go_simp; (try with_reducible rfl))
                  clear hcl
                  try simp only [Act.put, List.getElem_toArray, List.getElem_cons_succ, List.getElem_cons_zero, List.setIfInBounds_toArray, List.set_cons_zero, List.set_cons_succ]
                  refine wpAnyN_take (i := 1) (v := ?_) rfl (by as_aux_lemma => kernel_rfl) (by as_aux_lemma => kernel_rfl) (by as_aux_lemma => kernel_rfl) (by as_aux_lemma => kernel_rfl) (fun _ _ _ h => h) (by assumption) hS0 (Or.inl ⟨by rfl, ?_⟩) (fun hcl1 => ?_)
                  rotate_left
                  · (intro wS hSw; (try obtain ⟨hSa, hSb⟩ := hSw); go_simp; (try with_reducible rfl))
                  clear hcl0
                  try simp only [Act.put, List.getElem_toArray, List.getElem_cons_succ, List.getElem_cons_zero, List.setIfInBounds_toArray, List.set_cons_zero, List.set_cons_succ]
                  refine wpAnyN_take (i := 2) (v := ?_) rfl (by as_aux_lemma => kernel_rfl) (by as_aux_lemma => kernel_rfl) (by as_aux_lemma => kernel_rfl) (by as_aux_lemma => kernel_rfl) (fun _ _ _ h => h) (by assumption) hS0 (Or.inl ⟨by rfl, ?_⟩) (fun hcl2 => ?_)
                  rotate_left
                  · (intro wS hSw; (try obtain ⟨hSa, hSb⟩ := hSw); go_simp; (try with_reducible rfl))
                  clear hcl1
                  try simp only [Act.put, List.getElem_toArray, List.getElem_cons_succ, List.getElem_cons_zero, List.setIfInBounds_toArray, List.set_cons_zero, List.set_cons_succ]
                  refine wpAnyN_take (i := 3) (v := ?_) rfl (by as_aux_lemma => kernel_rfl) (by as_aux_lemma => kernel_rfl) (by as_aux_lemma => kernel_rfl) (by as_aux_lemma => kernel_rfl) (fun _ _ _ h => h) (by assumption) hS0 (Or.inl ⟨by rfl, ?_⟩) (fun hcl3 => ?_)
                  rotate_left
                  · (intro wS hSw; (try obtain ⟨hSa, hSb⟩ := hSw); go_simp; (try with_reducible rfl))
                  clear hcl2
                  try simp only [Act.put, List.getElem_toArray, List.getElem_cons_succ, List.getElem_cons_zero, List.setIfInBounds_toArray, List.set_cons_zero, List.set_cons_succ]
                  refine wpAnyN_take (i := 4) (v := ?_) rfl (by as_aux_lemma => kernel_rfl) (by as_aux_lemma => kernel_rfl) (by as_aux_lemma => kernel_rfl) (by as_aux_lemma => kernel_rfl) (fun _ _ _ h => h) (by assumption) hS0 (Or.inl ⟨by rfl, ?_⟩) (fun hcl4 => ?_)
                  rotate_left
                  · (intro wS hSw; (try obtain ⟨hSa, hSb⟩ := hSw); go_simp; (try with_reducible rfl))
                  clear hcl3
                  try simp only [Act.put, List.getElem_toArray, List.getElem_cons_succ, List.getElem_cons_zero, List.setIfInBounds_toArray, List.set_cons_zero, List.set_cons_succ]
                  refine wpAnyN_take (i := 5) (v := ?_) rfl (by as_aux_lemma => kernel_rfl) (by as_aux_lemma => kernel_rfl) (by as_aux_lemma => kernel_rfl) (by as_aux_lemma => kernel_rfl) (fun _ _ _ h => h) (by assumption) hS0 (Or.inl ⟨by rfl, ?_⟩) (fun hcl5 => ?_)
                  rotate_left
                  · (intro wS hSw; (try obtain ⟨hSa, hSb⟩ := hSw); go_simp; (try with_reducible rfl))
                  clear hcl4
                  try simp only [Act.put, List.getElem_toArray, List.getElem_cons_succ, List.getElem_cons_zero, List.setIfInBounds_toArray, List.set_cons_zero, List.set_cons_succ]
                  refine wpAnyN_take (i := 6) (v := ?_) rfl (by as_aux_lemma => kernel_rfl) (by as_aux_lemma => kernel_rfl) (by as_aux_lemma => kernel_rfl) (by as_aux_lemma => kernel_rfl) (fun _ _ _ h => h) (by assumption) hS0 (Or.inl ⟨by rfl, ?_⟩) (fun hcl6 => ?_)
                  rotate_left
                  · (intro wS hSw; (try obtain ⟨hSa, hSb⟩ := hSw); go_simp; (try with_reducible rfl))
                  clear hcl5
                  try simp only [Act.put, List.getElem_toArray, List.getElem_cons_succ, List.getElem_cons_zero, List.setIfInBounds_toArray, List.set_cons_zero, List.set_cons_succ]
                  refine wpAnyN_take (i := 7) (v := ?_) rfl (by as_aux_lemma => kernel_rfl) (by as_aux_lemma => kernel_rfl) (by as_aux_lemma => kernel_rfl) (by as_aux_lemma => kernel_rfl) (fun _ _ _ h => h) (by assumption) hS0 (Or.inl ⟨by rfl, ?_⟩) (fun hcl7 => ?_)
                  rotate_left
                  · (intro wS hSw; (try obtain ⟨hSa, hSb⟩ := hSw); go_simp; (try with_reducible rfl))
                  clear hcl6
                  try simp only [Act.put, List.getElem_toArray, List.getElem_cons_succ, List.getElem_cons_zero, List.setIfInBounds_toArray, List.set_cons_zero, List.set_cons_succ]
                  refine wpAnyN_take (i := 8) (v := ?_) rfl (by as_aux_lemma => kernel_rfl) (by as_aux_lemma => kernel_rfl) (by as_aux_lemma => kernel_rfl) (by as_aux_lemma => kernel_rfl) (fun _ _ _ h => h) (by assumption) hS0 (Or.inl ⟨by rfl, ?_⟩) (fun hcl8 => ?_)
                  rotate_left
                  · (intro wS hSw; (try obtain ⟨hSa, hSb⟩ := hSw); go_simp; (try with_reducible rfl))
                  clear hcl7
                  try simp only [Act.put, List.getElem_toArray, List.getElem_cons_succ, List.getElem_cons_zero, List.setIfInBounds_toArray, List.set_cons_zero, List.set_cons_succ]
                  refine wpAnyN_take (i := 9) (v := ?_) rfl (by as_aux_lemma => kernel_rfl) (by as_aux_lemma => kernel_rfl) (by as_aux_lemma => kernel_rfl) (by as_aux_lemma => kernel_rfl) (fun _ _ _ h => h) (by assumption) hS0 (Or.inl ⟨by rfl, ?_⟩) (fun hcl9 => ?_)
                  rotate_left
                  · (intro wS hSw; (try obtain ⟨hSa, hSb⟩ := hSw); go_simp; (try with_reducible rfl))
                  clear hcl8
                  try simp only [Act.put, List.getElem_toArray, List.getElem_cons_succ, List.getElem_cons_zero, List.setIfInBounds_toArray, List.set_cons_zero, List.set_cons_succ]
                  refine wpAnyN_take (i := 10) (v := ?_) rfl (by as_aux_lemma => kernel_rfl) (by as_aux_lemma => kernel_rfl) (by as_aux_lemma => kernel_rfl) (by as_aux_lemma => kernel_rfl) (fun _ _ _ h => h) (by assumption) hS0 (Or.inl ⟨by rfl, ?_⟩) (fun hcl10 => ?_)
                  rotate_left
                  · (intro wS hSw; (try obtain ⟨hSa, hSb⟩ := hSw); go_simp; (try with_reducible rfl))
                  clear hcl9
                  try simp only [Act.put, List.getElem_toArray, List.getElem_cons_succ, List.getElem_cons_zero, List.setIfInBounds_toArray, List.set_cons_zero, List.set_cons_succ]
                  refine wpAnyN_take (i := 11) (v := ?_) rfl (by as_aux_lemma => kernel_rfl) (by as_aux_lemma => kernel_rfl) (by as_aux_lemma => kernel_rfl) (by as_aux_lemma => kernel_rfl) (fun _ _ _ h => h) (by assumption) hS0 (Or.inl ⟨by rfl, ?_⟩) (fun hcl11 => ?_)
                  rotate_left
                  · (intro wS hSw; (try obtain ⟨hSa, hSb⟩ := hSw); go_simp; (try with_reducible rfl))
                  clear hcl10
                  try simp only [Act.put, List.getElem_toArray, List.getElem_cons_succ, List.getElem_cons_zero, List.setIfInBounds_toArray, List.set_cons_zero, List.set_cons_succ]
                  refine wpAnyN_take (i := 12) (v := ?_) rfl (by as_aux_lemma => kernel_rfl) (by as_aux_lemma => kernel_rfl) (by as_aux_lemma => kernel_rfl) (by as_aux_lemma => kernel_rfl) (fun _ _ _ h => h) (by assumption) hS0 (Or.inl ⟨by rfl, ?_⟩) (fun hcl12 => ?_)
                  rotate_left
                  · (intro wS hSw; (try obtain ⟨hSa, hSb⟩ := hSw); go_simp; (try with_reducible rfl))
                  clear hcl11
                  try simp only [Act.put, List.getElem_toArray, List.getElem_cons_succ, List.getElem_cons_zero, List.setIfInBounds_toArray, List.set_cons_zero, List.set_cons_succ]
                  refine wpAnyN_take (i := 13) (v := ?_) rfl (by as_aux_lemma => kernel_rfl) (by as_aux_lemma => kernel_rfl) (by as_aux_lemma => kernel_rfl) (by as_aux_lemma => kernel_rfl) (fun _ _ _ h => h) (by assumption) hS0 (Or.inl ⟨by rfl, ?_⟩) (fun hcl13 => ?_)
                  rotate_left
                  · (intro wS hSw; (try obtain ⟨hSa, hSb⟩ := hSw); go_simp; (try with_reducible rfl))
                  clear hcl12
                  try simp only [Act.put, List.getElem_toArray, List.getElem_cons_succ, List.getElem_cons_zero, List.setIfInBounds_toArray, List.set_cons_zero, List.set_cons_succ]
                  refine wpAnyN_take (i := 14) (v := ?_) rfl (by as_aux_lemma => kernel_rfl) (by as_aux_lemma => kernel_rfl) (by as_aux_lemma => kernel_rfl) (by as_aux_lemma => kernel_rfl) (fun _ _ _ h => h) (by assumption) hS0 (Or.inl ⟨by rfl, ?_⟩) (fun hcl14 => ?_)
                  rotate_left
                  · (intro wS hSw; (try obtain ⟨hSa, hSb⟩ := hSw); go_simp; (try with_reducible rfl))
                  clear hcl13
                  try simp only [Act.put, List.getElem_toArray, List.getElem_cons_succ, List.getElem_cons_zero, List.setIfInBounds_toArray, List.set_cons_zero, List.set_cons_succ]
                  refine wpAnyN_take (i := 15) (v := ?_) rfl (by as_aux_lemma => kernel_rfl) (by as_aux_lemma => kernel_rfl) (by as_aux_lemma => kernel_rfl) (by as_aux_lemma => kernel_rfl) (fun _ _ _ h => h) (by assumption) hS0 (Or.inl ⟨by rfl, ?_⟩) (fun hcl15 => ?_)
                  rotate_left
                  · (intro wS hSw; (try obtain ⟨hSa, hSb⟩ := hSw); go_simp; (try with_reducible rfl))
                  clear hcl14
                  try simp only [Act.put, List.getElem_toArray, List.getElem_cons_succ, List.getElem_cons_zero, List.setIfInBounds_toArray, List.set_cons_zero, List.set_cons_succ]
                  refine wpAnyN_done (by as_aux_lemma => kernel_rfl) ?_ _
                  refine NoPanic.normal ?_
                  have hk0 := HNS5.out.same ((Upd.refl (fun _ => False) wc).drew)
                  have hkx := HXB5.out.upd (by simp [pdC]) ((Upd.refl (fun _ => False) wc).drew) id
                  have HNS6 := Lib.hid hk0
                  have HXB6 := Lib.hid hkx
                  have e6 : r.all ≤ r.b.length := by have := HEE.out.2.2.2.2; omega
                  have HE6 := Lib.hid e6
                  have HDB : Hid (∀ W, Fresh base W (.slice A r.b.length cap) r.b → Bs W (.slice (if cap = r.at_ then A else Option.map (fun x => x.add r.at_) A) (EN - r.at_) (cap - r.at_)) r.d) := fun W hW => by
                    have h1 := (hW.bs.take EN (by have := HEE.out; omega)).drop r.at_ (by omega)
                    have h2 : (r.b.take EN).drop r.at_ = r.d := by
                      unfold Rd1.d
                      rw [List.drop_take, HSV.out, HPDV.out, ← HEN.out, Nat.add_sub_cancel_left]
                    rw [h2] at h1
                    exact h1
                  have HSB : Hid (∀ W, Fresh base W (.slice A r.b.length cap) r.b → Bs W (.slice (if cap = EN then A else Option.map (fun x => x.add EN) A) (r.all - EN) (cap - EN)) r.sum) := fun W hW => by
                    have h1 := (hW.bs.take r.all e6).drop EN (by omega)
                    have h2 : (r.b.take r.all).drop EN = r.sum := by
                      unfold Rd1.sum
                      rw [List.drop_take, HSV.out, HPDV.out, HALL.out, HZ.out, HEN.out]
                      congr 1
                      omega
                    rw [h2] at h1
                    exact h1
                  generalize (if cap = r.at_ then A else Option.map (fun x => x.add r.at_) A) = PD at HDB ⊢
                  generalize (if cap = EN then A else Option.map (fun x => x.add EN) A) = PS at HSB ⊢
                  clear hk0 hkx e6 HNS5 HXB5 hS0 c3
                  generalize wc.drew = wf at HNS6 HXB6 ⊢
                  go_upto_region 23 with (fail)
                  go_cut [5] from 14 (fun v5 wx => ∃ v2, NextSt base w wx b (.slice A r.b.length cap) v2 r r.rest wp.heap.size q)
                  case first => as_aux_lemma =>
                    have HRST := Lib.hid ((HNS6.out.1.2.2.2.1.bs).drop r.all HE6.out)
                    have c3 := HNS6.out.1.2.1 3 _ rfl
                    have hbl : (r.b.drop r.all).length ≤ 200000000000000 := by rw [List.length_drop]; have := HR.out; omega
                    have HBL := Lib.hid hbl
                    clear hbl
                    by_cases hca : cap = r.all
                    · subst hca
                      have hrs := HRST.out
                      rw [if_pos rfl, Nat.sub_self] at hrs
                      have HRS := Lib.hid hrs
                      clear hrs HRST
                      go_wp2_with fail
                      refine (clone_bs _ _ wf HRS.out HBL.out).mono ?_
                      rintro e wk ⟨v2, rfl, hf2, hs2⟩
                      obtain ⟨A2, n2, cp2, rfl⟩ := Fresh.shape hf2
                      have hst := NextSt.mk' H0.out HNS6.out HXB6.out HXR.out hs2 hf2 HBS.out
                      have c3 := hs2.cell c3 id
                      have fz := (HNS6.out.1.2.2.1.upd hs2 HNS6.out.1.lt id)
                      unfold FzAt at fz
                      have HST2 := Lib.hid hst
                      clear hf2 hs2 hst
                      go_wp2_with fail
                      go_meet
                      exact ⟨_, HST2.out⟩
                    · have hrs := HRST.out
                      rw [if_neg hca] at hrs
                      have HRS := Lib.hid hrs
                      clear hrs HRST
                      go_wp2_with fail
                      refine (clone_bs _ _ wf HRS.out HBL.out).mono ?_
                      rintro e wk ⟨v2, rfl, hf2, hs2⟩
                      obtain ⟨A2, n2, cp2, rfl⟩ := Fresh.shape hf2
                      have hst := NextSt.mk' H0.out HNS6.out HXB6.out HXR.out hs2 hf2 HBS.out
                      have c3 := hs2.cell c3 id
                      have fz := (HNS6.out.1.2.2.1.upd hs2 HNS6.out.1.lt id)
                      unfold FzAt at fz
                      have HST2 := Lib.hid hst
                      clear hf2 hs2 hst
                      go_wp2_with fail
                      go_meet
                      exact ⟨_, HST2.out⟩
                  case rest =>
                  obtain ⟨v2, hst⟩ := hcut
                  have HST3 := Lib.hid hst
                  clear hst HNS6 HXB6
                  generalize hY : r.dbad = Y
                  have HY := Lib.hid hY
                  clear hY
                  go_upto_region 24 with (fail)
                  go_cut [145] from 16 (fun v145 wx => v145 = .bool Y ∧ NextSt base w wx b (.slice A r.b.length cap) v2 r r.rest wp.heap.size q)
                  case first => as_aux_lemma =>
                    have hal := HALL.out
                    have hen := HEN.out
                    have hdb := HDB.out wc HST3.out.old
                    have hsb := HSB.out wc HST3.out.old
                    have hyv : Y = (Z && !(crcDigest (crcSum r.d) == r.sum)) := by
                      rw [← HY.out]
                      unfold Rd1.dbad
                      rw [HSV.out, HZ.out]
                    have HDBW := Lib.hid hdb
                    have HSBW := Lib.hid hsb
                    clear hdb hsb
                    cases Z
                    · have hz0 : r.all - EN = 0 := by rw [hal, ← hen]; simp
                      have hy0 : Y = false := hyv
                      have HY0 := Lib.hid hy0
                      clear hal hen hyv hy0
                      go_wp2_with fail
                      go_meet
                      exact ⟨by rw [HY0.out], HST3.out⟩
                    · have hz4 : (0 : Int) < ((r.all - EN : Nat) : Int) := by rw [hal, ← hen]; simp only [if_true]; omega
                      have hy0 : Value.bool (eqB (crcDigest (crcSum r.d)) r.sum) = .bool (!Y) := by rw [eqB_beq, hyv]; simp
                      have HY0 := Lib.hid hy0
                      clear hal hen hyv hy0
                      go_wp2_with fail
                      refine (right_bs _ _ _ _ wc HDBW.out HSBW.out).mono ?_
                      rintro e wk ⟨rfl, hs⟩
                      have HS := Lib.hid hs
                      clear hs
                      rw [HY0.out]
                      go_wp2_with fail
                      go_meet
                      exact ⟨by simp, HST3.out.same HS.out⟩
                  case rest =>
                  obtain ⟨rfl, hst⟩ := hcut
                  have HST4 := Lib.hid hst
                  clear hst HST3
                  cases Y
                  · go_upto_region 26 with (fail)
                    go_step3
                    go_upto_region 26 with (fail)
                    go_cut [149, 150, 151] from 16 (fun v149 v150 v151 wx => v150 = .int .i64 ((EN - r.at_ - sz : Nat) : Int) ∧ v151 = .int .i64 0 ∧ NextSt base w wx b (.slice A r.b.length cap) v2 r r.rest wp.heap.size q ∧ ∃ PP cp, v149 = .slice PP (EN - r.at_ - sz) cp ∧ Hid (∀ W, Fresh base W (.slice A r.b.length cap) r.b → Bs W (.slice PP (EN - r.at_ - sz) cp) (r.d.drop sz)))
                    case first => as_aux_lemma =>
                      have hen := HEN.out
                      have f1 : (sz : Int) ≤ ((EN - r.at_ : Nat) : Int) := by omega
                      have hsd : sz ≤ EN - r.at_ := by omega
                      have HSD : Hid (∀ W, Fresh base W (.slice A r.b.length cap) r.b → Bs W (.slice (if cap - r.at_ = sz then PD else PD.map (·.add sz)) (EN - r.at_ - sz) (cap - r.at_ - sz)) (r.d.drop sz)) := fun W hW => (HDB.out W hW).drop sz hsd
                      clear hen hsd
                      by_cases hca : cap - r.at_ = sz
                      · have hsd := HSD.out
                        rw [if_pos hca] at hsd
                        rw [hca, Nat.sub_self] at hsd
                        have HSD2 := Lib.hid hsd
                        clear hsd HSD
                        have f2 : ((EN - r.at_ : Nat) : Int) ≤ ((cap - r.at_ : Nat) : Int) := by have := HEE.out; omega
                        go_wp2_with fail
                        go_meet
                        refine ⟨?_, rfl, HST4.out, _, _, ?_, HSD2⟩
                        · rfl
                        · rfl
                      · have hsd := HSD.out
                        rw [if_neg hca] at hsd
                        have HSD2 := Lib.hid hsd
                        clear hsd HSD
                        have f2 : ((EN - r.at_ : Nat) : Int) ≤ ((cap - r.at_ : Nat) : Int) := by have := HEE.out; omega
                        go_wp2_with fail
                        go_meet
                        refine ⟨?_, rfl, HST4.out, _, _, ?_, HSD2⟩
                        · rfl
                        · rfl
                    case rest =>
                    obtain ⟨rfl, rfl, hst, PP, cp, rfl, HSD⟩ := hcut
                    have HST5 := Lib.hid hst
                    clear hst HST4
                    obtain ⟨L, hL⟩ : ∃ L, L = EN - r.at_ - sz := ⟨_, rfl⟩
                    rw [← hL] at HSD ⊢
                    have HLL := Lib.hid hL
                    clear hL
                    obtain ⟨dd, hdd⟩ : ∃ dd, dd = r.d.drop sz := ⟨_, rfl⟩
                    rw [← hdd] at HSD
                    have HDD := Lib.hid hdd
                    clear hdd
                    have hlen : dd.length = L := by
                      obtain ⟨_, _, e, _⟩ := HSD.out wc HST5.out.old
                      injection e with _ e2 _
                      exact e2.symm
                    have HLEN := Lib.hid hlen
                    have hL0 : L ≤ 1000 := by rw [HLL.out, ← HEN.out]; omega
                    clear hlen
                    go_upto_block 0 with (fail)
                    go_cut [9] from 151 (fun v9 wx => NextSt base w wx b (.slice A r.b.length cap) v2 r r.rest wp.heap.size q ∧ ((v9 = .int .i64 0 ∧ (r.d.drop (sizeP r.b)).any (fun c => c != 0) = false) ∨ (v9 = .int .i64 11 ∧ (r.d.drop (sizeP r.b)).any (fun c => c != 0) = true)))
                    case first => as_aux_lemma =>
                      go_wp2_with fail
                      go_loopw [9, 151] (fun v9 v151 wr => ∃ i : Nat, i ≤ L ∧ v9 = .int .i64 0 ∧ v151 = .int .i64 i ∧ Hid (NextSt base w wr b (.slice A r.b.length cap) v2 r r.rest wp.heap.size q ∧ ∀ k, k < i → at8 dd k = 0)) (fun _ v151 _ => L - (intOf v151).toNat)
                      case atStart => exact ⟨0, by omega, rfl, rfl, HST5.out, fun k hk => absurd hk (Nat.not_lt_zero _)⟩
                      case round =>
                        obtain ⟨i, hi, rfl, rfl, hin⟩ := hrel
                        by_cases hi2 : i < L
                        · obtain ⟨pb, po, rfl, hcell⟩ := (HSD.out wr hin.out.1.old).at_ i (by rw [HLEN.out]; exact hi2)
                          have hbr := at8_range dd i
                          by_cases hc : at8 dd i = 0
                          · have HC := Lib.hid hc
                            rw [hc] at hcell hbr
                            clear hc
                            go_wp2_with fail
                            go_roundw
                            case rel => exact ⟨i + 1, by omega, rfl, by go_num, hin.out.1, fun k hk => by
                              rcases Nat.lt_or_ge k i with h | h
                              · exact hin.out.2 k h
                              · have : k = i := by omega
                                rw [this]; exact HC.out⟩
                            case measure => simp [intOf]; omega
                          · have hany : (r.d.drop (sizeP r.b)).any (fun c => c != 0) = true := any_at (by rw [HSV.out, ← HDD.out]; exact hc) (by rw [HSV.out, ← HDD.out, HLEN.out]; exact hi2)
                            have HSX := Lib.hid hin.out.1
                            have HANY := Lib.hid hany
                            have hcn : (at8 dd i == 0) = false := by simpa using hc
                            clear hany hin
                            go_wp2_with fail
                            go_meet
                            exact ⟨HSX.out, .inr ⟨rfl, HANY.out⟩⟩
                        · have hiL : i = L := by omega
                          have hall0 : (r.d.drop (sizeP r.b)).any (fun c => c != 0) = false := any_none (fun k hk => by
                            rw [HSV.out, ← HDD.out] at hk ⊢
                            exact hin.out.2 k (by rw [HLEN.out] at hk; omega))
                          have HSX := Lib.hid hin.out.1
                          have HALL0 := Lib.hid hall0
                          clear hall0 hin
                          go_wp2_with fail
                          go_meet
                          exact ⟨HSX.out, .inl ⟨rfl, HALL0.out⟩⟩
                    case rest =>
                    obtain ⟨hsx, hnine⟩ := hcut
                    have HSX := Lib.hid hsx
                    clear hsx
                    rcases hnine with ⟨rfl, hany⟩ | ⟨rfl, hany⟩
                    · have HN := Lib.hid (next_good HD.out H1.out HXB.out HE0.out (by rw [HSV.out]; have := HM.out; omega) HW.out HY.out hany)
                      exact absurd HK.out (by rw [HN.out]; simp [Rd1.die, Rd1.rest, HD.out, noP])
                    · have HN := Lib.hid (next_pad HD.out H1.out HXB.out HE0.out (by rw [HSV.out]; have := HM.out; omega) HW.out HY.out hany)
                      clear hany
                      have z0 := HSX.out.zero.1 0 _ rfl
                      have z1 := HSX.out.zero.1 1 _ rfl
                      have z2 := HSX.out.zero.1 2 _ rfl
                      have z3 := HSX.out.zero.1 3 _ rfl
                      have z4 := HSX.out.zero.1 4 _ rfl
                      have z5 := HSX.out.zero.1 5 _ rfl
                      have z6 := HSX.out.zero.1 6 _ rfl
                      have z7 := HSX.out.zero.1 7 _ rfl
                      have z8 := HSX.out.zero.1 8 _ rfl
                      have z9 := HSX.out.zero.1 9 _ rfl
                      have z10 := HSX.out.zero.1 10 _ rfl
                      have z11 := HSX.out.zero.1 11 _ rfl
                      have z12 := HSX.out.zero.1 12 _ rfl
                      have z13 := HSX.out.zero.1 13 _ rfl
                      have z14 := HSX.out.zero.1 14 _ rfl
                      have fz := HSX.out.zero.2
                      unfold FzAt at fz
                      have c0 := HSX.out.box.1 0 _ rfl
                      have c1 := HSX.out.box.1 1 _ rfl
                      have c2 := HSX.out.box.1 2 _ rfl
                      have c3 := HSX.out.box.1 3 _ rfl
                      have c4 := HSX.out.box.1 4 _ rfl
                      have c5 := HSX.out.box.1 5 _ rfl
                      have c6 := HSX.out.box.1 6 _ rfl
                      have c7 := HSX.out.box.1 7 _ rfl
                      have c8 := HSX.out.box.1 8 _ rfl
                      have c9 := HSX.out.box.1 9 _ rfl
                      have c10 := HSX.out.box.1 10 _ rfl
                      have c11 := HSX.out.box.1 11 _ rfl
                      have c12 := HSX.out.box.1 12 _ rfl
                      have c13 := HSX.out.box.1 13 _ rfl
                      have c14 := HSX.out.box.1 14 _ rfl
                      go_wp2_with fail
                      try rw [Exit.noGoto_ret]
                      refine next_ret (b := w.heap.size) q none 0 0 (x := 11) (y := true) ?_ ?_ ?_ ?_ (BoxTo.full ?_) ?_
                      · rfl
                      · rfl
                      · rfl
                      · rfl
                      · iterate 15 refine BoxTo.step ?_ (by decide) rfl
                        exact BoxTo.zero _ noP _ (.slice none 0 0) HSX.out.zero.1
                      · rw [← HNX.out, HN.out, HQ.out]
                        refine NextSt.exit H0.out HSX.out HQD.out ?_ 11 true
                        repeat refine Upd.setCell ?_ (by simp) _
                        exact Upd.refl _ _
                  · have HN := Lib.hid (next_dsum HD.out H1.out HXB.out HE0.out (by rw [HSV.out]; have := HM.out; omega) HW.out HY.out)
                    have z0 := HST4.out.zero.1 0 _ rfl
                    have z1 := HST4.out.zero.1 1 _ rfl
                    have z2 := HST4.out.zero.1 2 _ rfl
                    have z3 := HST4.out.zero.1 3 _ rfl
                    have z4 := HST4.out.zero.1 4 _ rfl
                    have z5 := HST4.out.zero.1 5 _ rfl
                    have z6 := HST4.out.zero.1 6 _ rfl
                    have z7 := HST4.out.zero.1 7 _ rfl
                    have z8 := HST4.out.zero.1 8 _ rfl
                    have z9 := HST4.out.zero.1 9 _ rfl
                    have z10 := HST4.out.zero.1 10 _ rfl
                    have z11 := HST4.out.zero.1 11 _ rfl
                    have z12 := HST4.out.zero.1 12 _ rfl
                    have z13 := HST4.out.zero.1 13 _ rfl
                    have z14 := HST4.out.zero.1 14 _ rfl
                    have fz := HST4.out.zero.2
                    unfold FzAt at fz
                    have c0 := HST4.out.box.1 0 _ rfl
                    have c1 := HST4.out.box.1 1 _ rfl
                    have c2 := HST4.out.box.1 2 _ rfl
                    have c3 := HST4.out.box.1 3 _ rfl
                    have c4 := HST4.out.box.1 4 _ rfl
                    have c5 := HST4.out.box.1 5 _ rfl
                    have c6 := HST4.out.box.1 6 _ rfl
                    have c7 := HST4.out.box.1 7 _ rfl
                    have c8 := HST4.out.box.1 8 _ rfl
                    have c9 := HST4.out.box.1 9 _ rfl
                    have c10 := HST4.out.box.1 10 _ rfl
                    have c11 := HST4.out.box.1 11 _ rfl
                    have c12 := HST4.out.box.1 12 _ rfl
                    have c13 := HST4.out.box.1 13 _ rfl
                    have c14 := HST4.out.box.1 14 _ rfl
                    go_wp2_with fail
                    try rw [Exit.noGoto_ret]
                    refine next_ret (b := w.heap.size) q none 0 0 (x := 12) (y := true) ?_ ?_ ?_ ?_ (BoxTo.full ?_) ?_
                    · rfl
                    · rfl
                    · rfl
                    · rfl
                    · iterate 15 refine BoxTo.step ?_ (by decide) rfl
                      exact BoxTo.zero _ noP _ (.slice none 0 0) HST4.out.zero.1
                    · rw [← HNX.out, HN.out, HQ.out]
                      refine NextSt.exit H0.out HST4.out HQD.out ?_ 12 true
                      repeat refine Upd.setCell ?_ (by simp) _
                      exact Upd.refl _ _
            · rw [hE]
              have hif : (if (11 : Int) = 0 then ((sizeP r.b : Nat) : Int) else 0) = 0 := if_neg (by decide)
              rw [hif]
              clear hif
              have HN := Lib.hid (next_form HD.out H1.out HXB.out (by rw [hE]; decide))
              have hns2 := (HNS.out.same HSP.out).same ((Upd.refl (fun _ => False) wp).alloc (.cells (pdC q (.slice none 0 0)).toArray 40))
              have HNS3 := Lib.hid hns2
              clear hns2 hE HE
              unfold pdC at HNS3
              exact absurd HK.out (by rw [HN.out]; simp [Rd1.die, Rd1.rest, HD.out, noP])
          · have HN := Lib.hid (next_hsum HD.out H1.out HXB.out)
            clear c2
            exact absurd HK.out (by rw [HN.out]; simp [Rd1.die, Rd1.rest, HD.out, noP])
end Go.Proofs.Ytfafepmghcobdaa
