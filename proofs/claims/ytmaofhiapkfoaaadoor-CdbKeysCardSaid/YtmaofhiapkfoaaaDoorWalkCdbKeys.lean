/- The walk of CdbKeys. -/
import Derived.Test.YtmaofhiapkfoaaaDoorCdbZ
import Derived.Test.YtmaofhiapkfoaaaDoorCdbK
import Derived.Test.YtmaofhiapkfoaaaDoorLentK
import Derived.Test.YtmaofhiapkfoaaaDoorWalkCdbLong
namespace Go.Proofs.YtmaofhiapkfoaaaDoor
open Go.RowKit
set_option linter.unusedVariables false
set_option linter.unusedSimpArgs false
set_option maxRecDepth 100000
/-- The bytes of the first statement. -/
def SK (x v : Value) (xs bs : List UInt8) (w : World) : Prop := Bs w x xs ∧ Bs w v bs
theorem SK.same {x v : Value} {xs bs : List UInt8} {w w' : World} (h : SK x v xs bs w) (hs : Same w w') : SK x v xs bs w' := ⟨h.1.same hs, h.2.same hs⟩
attribute [local go_sem ↓] Go.wp_at_zero Go.wp_at_succ
set_option maxHeartbeats 4000000 in
theorem cdbKeys_walk (w : World) (hT : Tab15 w) (key : Int) (hk : 0 ≤ key ∧ key ≤ 18446744073709551615) (next : Int) (hn : 0 ≤ next ∧ next ≤ 18446744073709551615) (v : Value) (bs : List UInt8) (h : Bs w v bs) (hl : bs.length ≤ 140737488351232) :
    Calls Tryd.prog 7 #[.int .u64 key, .int .u64 next, v] w fun e w' => e = .returned (.bool true) ∧ Same w w' := by
  have hp := fun u W h => keys_any u bs W h (by omega)
  have hr := fun W h => rkeys_any v bs W h (by omega)
  have hback := keys_back (bs := bs)
  obtain ⟨kp0, kp1, kp2⟩ := keys_put key next hk hn
  have hkx := fun u W h => keys_any u (keysL key next) W h (by rw [keysL_length]; decide)
  rw [kp0, kp1, kp2] at hkx
  have hpx := fun W => putKeys_any key next W
  generalize keysE bs = E at hp hr hback
  generalize keysN bs 0 = n0 at hp hr hback
  generalize keysN bs 1 = n1 at hp hr hback
  obtain ⟨A, cap, rfl, k1, k2, _⟩ := id h
  have HP := Lib.hid hp
  have HR := Lib.hid hr
  have HBK := Lib.hid hback
  have HKX := Lib.hid hkx
  have HPX := Lib.hid hpx
  have HT := Lib.hid hT
  have HB := Lib.hid h
  clear hp hr hback hkx hpx hT h kp0 kp1 kp2
  go_enter Tryd.func7, Tryd.ntmps7
  go_wp2_with fail
  refine (lent_bs _ bs w HB.out hl).mono ?_
  rintro e w1 ⟨v1, rfl, hln, hs1⟩
  obtain ⟨lb, lo, lc, rfl, hlf⟩ := id hln
  have HLN := Lib.hid hln
  have HW1 := Lib.hid hs1
  clear hln hs1 hlf
  go_wp2_with fail
  refine (HPX.out _).mono ?_
  rintro e w2 ⟨vx, rfl, hfx, hs2⟩
  obtain ⟨xA, xc, rfl, _⟩ := id hfx.bs
  have HX2 := Lib.hid hfx.bs
  have HW2 := Lib.hid (Same.trans HW1.out hs2)
  have HLN2 := Lib.hid (HLN.out.same hs2)
  clear hfx hs2 HLN HW1
  go_wp2_with fail
  refine (HP.out _ _ HLN2.out.bs).mono ?_
  rintro e w3 ⟨rfl, hs3⟩
  have HX3 := Lib.hid (HX2.out.same hs3)
  have HW3 := Lib.hid (Same.trans HW2.out hs3)
  have HLN3 := Lib.hid (HLN2.out.same hs3)
  clear hs3 HLN2 HW2 HX2
  go_wp2_with fail
  refine (HR.out _ (HB.out.same HW3.out)).mono ?_
  rintro e w4 ⟨rfl, hs4⟩
  have hS0 : SK (.slice xA (keysL key next).length xc) (.slice A bs.length cap) (keysL key next) bs w4.drew := SK.same ⟨HX3.out.same hs4, HB.out.same (Same.trans HW3.out hs4)⟩ ((Upd.refl (fun _ => False) w4).drew)
  have HW0 := Lib.hid ((Same.trans HW3.out hs4).drew)
  have HLN := Lib.hid (HLN3.out.same (hs4.drew))
  have hst0 : Same w4.drew w4.drew := Upd.refl _ _
  clear hs4 HLN3 HW3 HX3 HP HR HPX
  by_cases hE : E = 0
  · subst hE
    go_wp2_with fail
    refine wp_region_noPanic ?_
    refine wp_region_need (SK (.slice xA (keysL key next).length xc) (.slice A bs.length cap) (keysL key next) bs) (fun _ => true) (by kernel_rfl) (fun hcl => ?_)
    refine wpAnyN_take (i := 0) (v := ?_) rfl (by as_aux_lemma => kernel_rfl) (by as_aux_lemma => kernel_rfl) (by as_aux_lemma => kernel_rfl) (by as_aux_lemma => kernel_rfl) (fun _ _ _ h => h) (by assumption) hS0 (Or.inl ⟨by rfl, ?_⟩) (fun hcl0 => ?_)
    rotate_left
    · (intro wS hSw; (obtain ⟨bx, bb⟩ := hSw; have cv1 := conv_bs (P := Tryd.prog) (src := 25) (dst := 9) Tryd.underlying25 Tryd.underlying5 Tryd.underlying9  bx; have cv2 := conv_bs (P := Tryd.prog) (src := 25) (dst := 9) Tryd.underlying25 Tryd.underlying5 Tryd.underlying9  bb; clear bx bb); go_simp; (try with_reducible rfl))
    clear hcl
    try simp only [Act.put, List.getElem_toArray, List.getElem_cons_succ, List.getElem_cons_zero, List.setIfInBounds_toArray, List.set_cons_zero, List.set_cons_succ]
    refine wpAnyN_take (i := 1) (v := ?_) rfl (by as_aux_lemma => kernel_rfl) (by as_aux_lemma => kernel_rfl) (by as_aux_lemma => kernel_rfl) (by as_aux_lemma => kernel_rfl) (fun _ _ _ h => h) (by assumption) hS0 (Or.inl ⟨by rfl, ?_⟩) (fun hcl1 => ?_)
    rotate_left
    · (intro wS hSw; (obtain ⟨bx, bb⟩ := hSw; have cv1 := conv_bs (P := Tryd.prog) (src := 25) (dst := 9) Tryd.underlying25 Tryd.underlying5 Tryd.underlying9  bx; have cv2 := conv_bs (P := Tryd.prog) (src := 25) (dst := 9) Tryd.underlying25 Tryd.underlying5 Tryd.underlying9  bb; clear bx bb); go_simp; (try with_reducible rfl))
    clear hcl0
    try simp only [Act.put, List.getElem_toArray, List.getElem_cons_succ, List.getElem_cons_zero, List.setIfInBounds_toArray, List.set_cons_zero, List.set_cons_succ]
    refine wpAnyN_take (i := 2) (v := ?_) rfl (by as_aux_lemma => kernel_rfl) (by as_aux_lemma => kernel_rfl) (by as_aux_lemma => kernel_rfl) (by as_aux_lemma => kernel_rfl) (fun _ _ _ h => h) (by assumption) hS0 (Or.inl ⟨by rfl, ?_⟩) (fun hcl2 => ?_)
    rotate_left
    · (intro wS hSw; (obtain ⟨bx, bb⟩ := hSw; have cv1 := conv_bs (P := Tryd.prog) (src := 25) (dst := 9) Tryd.underlying25 Tryd.underlying5 Tryd.underlying9  bx; have cv2 := conv_bs (P := Tryd.prog) (src := 25) (dst := 9) Tryd.underlying25 Tryd.underlying5 Tryd.underlying9  bb; clear bx bb); go_simp; (try with_reducible rfl))
    clear hcl1
    try simp only [Act.put, List.getElem_toArray, List.getElem_cons_succ, List.getElem_cons_zero, List.setIfInBounds_toArray, List.set_cons_zero, List.set_cons_succ]
    refine wpAnyN_take (i := 3) (v := ?_) rfl (by as_aux_lemma => kernel_rfl) (by as_aux_lemma => kernel_rfl) (by as_aux_lemma => kernel_rfl) (by as_aux_lemma => kernel_rfl) (fun _ _ _ h => h) (by assumption) hS0 (Or.inl ⟨by rfl, ?_⟩) (fun hcl3 => ?_)
    rotate_left
    · (intro wS hSw; (obtain ⟨bx, bb⟩ := hSw; have cv1 := conv_bs (P := Tryd.prog) (src := 25) (dst := 9) Tryd.underlying25 Tryd.underlying5 Tryd.underlying9  bx; have cv2 := conv_bs (P := Tryd.prog) (src := 25) (dst := 9) Tryd.underlying25 Tryd.underlying5 Tryd.underlying9  bb; clear bx bb); go_simp; (try with_reducible rfl))
    clear hcl2
    try simp only [Act.put, List.getElem_toArray, List.getElem_cons_succ, List.getElem_cons_zero, List.setIfInBounds_toArray, List.set_cons_zero, List.set_cons_succ]
    refine wpAnyN_oneC (i := 4) (by as_aux_lemma => kernel_rfl) rfl (by assumption) (fun hcl4 K' hK' => ?_)
    clear hcl3
    go_simp
    go_at_call 27
    refine (rputKeys_any key next _).mono ?_
    rintro e x1 ⟨vy1, rfl, hf1, hs1⟩
    have hS1 := SK.same hS0 hs1
    have hst1 := Same.trans hst0 hs1
    obtain ⟨yA1, yc1, rfl, _⟩ := id hf1.bs
    skip
    have cv11 := conv_bs (P := Tryd.prog) (src := 25) (dst := 9) Tryd.underlying25 Tryd.underlying5 Tryd.underlying9  hf1.bs
    clear hf1 hs1
    refine hK'.out _ _ (fun _ => hS1) ?_
    clear hK' K'
    try simp only [Act.put, List.getElem_toArray, List.getElem_cons_succ, List.getElem_cons_zero, List.setIfInBounds_toArray, List.set_cons_zero, List.set_cons_succ]
    refine wpAnyN_oneC (i := 5) (by as_aux_lemma => kernel_rfl) rfl (by assumption) (fun hcl5 K' hK' => ?_)
    clear hcl4
    go_simp
    have hS2 := hS1
    have hst2 := hst1
    refine hK'.out _ _ (fun _ => hS2) ?_
    clear hK' K'
    try simp only [Act.put, List.getElem_toArray, List.getElem_cons_succ, List.getElem_cons_zero, List.setIfInBounds_toArray, List.set_cons_zero, List.set_cons_succ]
    refine wpAnyN_take (i := 6) (v := ?_) rfl (by as_aux_lemma => kernel_rfl) (by as_aux_lemma => kernel_rfl) (by as_aux_lemma => kernel_rfl) (by as_aux_lemma => kernel_rfl) (fun _ _ _ h => h) (by assumption) hS2 (Or.inl ⟨by rfl, ?_⟩) (fun hcl6 => ?_)
    rotate_left
    · (intro wS hSw; (obtain ⟨bx, bb⟩ := hSw; have cv1 := conv_bs (P := Tryd.prog) (src := 25) (dst := 9) Tryd.underlying25 Tryd.underlying5 Tryd.underlying9  bx; have cv2 := conv_bs (P := Tryd.prog) (src := 25) (dst := 9) Tryd.underlying25 Tryd.underlying5 Tryd.underlying9  bb; clear bx bb); go_simp; (try with_reducible rfl))
    clear hcl5
    try simp only [Act.put, List.getElem_toArray, List.getElem_cons_succ, List.getElem_cons_zero, List.setIfInBounds_toArray, List.set_cons_zero, List.set_cons_succ]
    refine wpAnyN_take (i := 7) (v := ?_) rfl (by as_aux_lemma => kernel_rfl) (by as_aux_lemma => kernel_rfl) (by as_aux_lemma => kernel_rfl) (by as_aux_lemma => kernel_rfl) (fun _ _ _ h => h) (by assumption) hS2 (Or.inl ⟨by rfl, ?_⟩) (fun hcl7 => ?_)
    rotate_left
    · (intro wS hSw; (obtain ⟨bx, bb⟩ := hSw; have cv1 := conv_bs (P := Tryd.prog) (src := 25) (dst := 9) Tryd.underlying25 Tryd.underlying5 Tryd.underlying9  bx; have cv2 := conv_bs (P := Tryd.prog) (src := 25) (dst := 9) Tryd.underlying25 Tryd.underlying5 Tryd.underlying9  bb; clear bx bb); go_simp; (try with_reducible rfl))
    clear hcl6
    try simp only [Act.put, List.getElem_toArray, List.getElem_cons_succ, List.getElem_cons_zero, List.setIfInBounds_toArray, List.set_cons_zero, List.set_cons_succ]
    refine wpAnyN_take (i := 8) (v := ?_) rfl (by as_aux_lemma => kernel_rfl) (by as_aux_lemma => kernel_rfl) (by as_aux_lemma => kernel_rfl) (by as_aux_lemma => kernel_rfl) (fun _ _ _ h => h) (by assumption) hS2 (Or.inl ⟨by rfl, ?_⟩) (fun hcl8 => ?_)
    rotate_left
    · (intro wS hSw; (obtain ⟨bx, bb⟩ := hSw; have cv1 := conv_bs (P := Tryd.prog) (src := 25) (dst := 9) Tryd.underlying25 Tryd.underlying5 Tryd.underlying9  bx; have cv2 := conv_bs (P := Tryd.prog) (src := 25) (dst := 9) Tryd.underlying25 Tryd.underlying5 Tryd.underlying9  bb; clear bx bb); go_simp; (try with_reducible rfl))
    clear hcl7
    try simp only [Act.put, List.getElem_toArray, List.getElem_cons_succ, List.getElem_cons_zero, List.setIfInBounds_toArray, List.set_cons_zero, List.set_cons_succ]
    refine wpAnyN_take (i := 9) (v := ?_) rfl (by as_aux_lemma => kernel_rfl) (by as_aux_lemma => kernel_rfl) (by as_aux_lemma => kernel_rfl) (by as_aux_lemma => kernel_rfl) (fun _ _ _ h => h) (by assumption) hS2 (Or.inl ⟨by rfl, ?_⟩) (fun hcl9 => ?_)
    rotate_left
    · (intro wS hSw; (obtain ⟨bx, bb⟩ := hSw; have cv1 := conv_bs (P := Tryd.prog) (src := 25) (dst := 9) Tryd.underlying25 Tryd.underlying5 Tryd.underlying9  bx; have cv2 := conv_bs (P := Tryd.prog) (src := 25) (dst := 9) Tryd.underlying25 Tryd.underlying5 Tryd.underlying9  bb; clear bx bb); go_simp; (try with_reducible rfl))
    clear hcl8
    try simp only [Act.put, List.getElem_toArray, List.getElem_cons_succ, List.getElem_cons_zero, List.setIfInBounds_toArray, List.set_cons_zero, List.set_cons_succ]
    refine wpAnyN_take (i := 10) (v := ?_) rfl (by as_aux_lemma => kernel_rfl) (by as_aux_lemma => kernel_rfl) (by as_aux_lemma => kernel_rfl) (by as_aux_lemma => kernel_rfl) (fun _ _ _ h => h) (by assumption) hS2 (Or.inl ⟨by rfl, ?_⟩) (fun hcl10 => ?_)
    rotate_left
    · (intro wS hSw; (obtain ⟨bx, bb⟩ := hSw; have cv1 := conv_bs (P := Tryd.prog) (src := 25) (dst := 9) Tryd.underlying25 Tryd.underlying5 Tryd.underlying9  bx; have cv2 := conv_bs (P := Tryd.prog) (src := 25) (dst := 9) Tryd.underlying25 Tryd.underlying5 Tryd.underlying9  bb; clear bx bb); go_simp; (try with_reducible rfl))
    clear hcl9
    try simp only [Act.put, List.getElem_toArray, List.getElem_cons_succ, List.getElem_cons_zero, List.setIfInBounds_toArray, List.set_cons_zero, List.set_cons_succ]
    refine wpAnyN_take (i := 11) (v := ?_) rfl (by as_aux_lemma => kernel_rfl) (by as_aux_lemma => kernel_rfl) (by as_aux_lemma => kernel_rfl) (by as_aux_lemma => kernel_rfl) (fun _ _ _ h => h) (by assumption) hS2 (Or.inl ⟨by rfl, ?_⟩) (fun hcl11 => ?_)
    rotate_left
    · (intro wS hSw; (obtain ⟨bx, bb⟩ := hSw; have cv1 := conv_bs (P := Tryd.prog) (src := 25) (dst := 9) Tryd.underlying25 Tryd.underlying5 Tryd.underlying9  bx; have cv2 := conv_bs (P := Tryd.prog) (src := 25) (dst := 9) Tryd.underlying25 Tryd.underlying5 Tryd.underlying9  bb; clear bx bb); go_simp; (try with_reducible rfl))
    clear hcl10
    try simp only [Act.put, List.getElem_toArray, List.getElem_cons_succ, List.getElem_cons_zero, List.setIfInBounds_toArray, List.set_cons_zero, List.set_cons_succ]
    refine wpAnyN_take (i := 12) (v := ?_) rfl (by as_aux_lemma => kernel_rfl) (by as_aux_lemma => kernel_rfl) (by as_aux_lemma => kernel_rfl) (by as_aux_lemma => kernel_rfl) (fun _ _ _ h => h) (by assumption) hS2 (Or.inl ⟨by rfl, ?_⟩) (fun hcl12 => ?_)
    rotate_left
    · (intro wS hSw; (obtain ⟨bx, bb⟩ := hSw; have cv1 := conv_bs (P := Tryd.prog) (src := 25) (dst := 9) Tryd.underlying25 Tryd.underlying5 Tryd.underlying9  bx; have cv2 := conv_bs (P := Tryd.prog) (src := 25) (dst := 9) Tryd.underlying25 Tryd.underlying5 Tryd.underlying9  bb; clear bx bb); go_simp; (try with_reducible rfl))
    clear hcl11
    try simp only [Act.put, List.getElem_toArray, List.getElem_cons_succ, List.getElem_cons_zero, List.setIfInBounds_toArray, List.set_cons_zero, List.set_cons_succ]
    refine wpAnyN_take (i := 13) (v := ?_) rfl (by as_aux_lemma => kernel_rfl) (by as_aux_lemma => kernel_rfl) (by as_aux_lemma => kernel_rfl) (by as_aux_lemma => kernel_rfl) (fun _ _ _ h => h) (by assumption) hS2 (Or.inl ⟨by rfl, ?_⟩) (fun hcl13 => ?_)
    rotate_left
    · (intro wS hSw; (obtain ⟨bx, bb⟩ := hSw; have cv1 := conv_bs (P := Tryd.prog) (src := 25) (dst := 9) Tryd.underlying25 Tryd.underlying5 Tryd.underlying9  bx; have cv2 := conv_bs (P := Tryd.prog) (src := 25) (dst := 9) Tryd.underlying25 Tryd.underlying5 Tryd.underlying9  bb; clear bx bb); go_simp; (try with_reducible rfl))
    clear hcl12
    try simp only [Act.put, List.getElem_toArray, List.getElem_cons_succ, List.getElem_cons_zero, List.setIfInBounds_toArray, List.set_cons_zero, List.set_cons_succ]
    refine wpAnyN_take (i := 14) (v := ?_) rfl (by as_aux_lemma => kernel_rfl) (by as_aux_lemma => kernel_rfl) (by as_aux_lemma => kernel_rfl) (by as_aux_lemma => kernel_rfl) (fun _ _ _ h => h) (by assumption) hS2 (Or.inl ⟨by rfl, ?_⟩) (fun hcl14 => ?_)
    rotate_left
    · (intro wS hSw; (obtain ⟨bx, bb⟩ := hSw; have cv1 := conv_bs (P := Tryd.prog) (src := 25) (dst := 9) Tryd.underlying25 Tryd.underlying5 Tryd.underlying9  bx; have cv2 := conv_bs (P := Tryd.prog) (src := 25) (dst := 9) Tryd.underlying25 Tryd.underlying5 Tryd.underlying9  bb; clear bx bb); go_simp; (try with_reducible rfl))
    clear hcl13
    try simp only [Act.put, List.getElem_toArray, List.getElem_cons_succ, List.getElem_cons_zero, List.setIfInBounds_toArray, List.set_cons_zero, List.set_cons_succ]
    refine wpAnyN_take (i := 15) (v := ?_) rfl (by as_aux_lemma => kernel_rfl) (by as_aux_lemma => kernel_rfl) (by as_aux_lemma => kernel_rfl) (by as_aux_lemma => kernel_rfl) (fun _ _ _ h => h) (by assumption) hS2 (Or.inl ⟨by rfl, ?_⟩) (fun hcl15 => ?_)
    rotate_left
    · (intro wS hSw; (obtain ⟨bx, bb⟩ := hSw; have cv1 := conv_bs (P := Tryd.prog) (src := 25) (dst := 9) Tryd.underlying25 Tryd.underlying5 Tryd.underlying9  bx; have cv2 := conv_bs (P := Tryd.prog) (src := 25) (dst := 9) Tryd.underlying25 Tryd.underlying5 Tryd.underlying9  bb; clear bx bb); go_simp; (try with_reducible rfl))
    clear hcl14
    try simp only [Act.put, List.getElem_toArray, List.getElem_cons_succ, List.getElem_cons_zero, List.setIfInBounds_toArray, List.set_cons_zero, List.set_cons_succ]
    refine wpAnyN_take (i := 16) (v := ?_) rfl (by as_aux_lemma => kernel_rfl) (by as_aux_lemma => kernel_rfl) (by as_aux_lemma => kernel_rfl) (by as_aux_lemma => kernel_rfl) (fun _ _ _ h => h) (by assumption) hS2 (Or.inl ⟨by rfl, ?_⟩) (fun hcl16 => ?_)
    rotate_left
    · (intro wS hSw; (obtain ⟨bx, bb⟩ := hSw; have cv1 := conv_bs (P := Tryd.prog) (src := 25) (dst := 9) Tryd.underlying25 Tryd.underlying5 Tryd.underlying9  bx; have cv2 := conv_bs (P := Tryd.prog) (src := 25) (dst := 9) Tryd.underlying25 Tryd.underlying5 Tryd.underlying9  bb; clear bx bb); go_simp; (try with_reducible rfl))
    clear hcl15
    try simp only [Act.put, List.getElem_toArray, List.getElem_cons_succ, List.getElem_cons_zero, List.setIfInBounds_toArray, List.set_cons_zero, List.set_cons_succ]
    refine wpAnyN_take (i := 17) (v := ?_) rfl (by as_aux_lemma => kernel_rfl) (by as_aux_lemma => kernel_rfl) (by as_aux_lemma => kernel_rfl) (by as_aux_lemma => kernel_rfl) (fun _ _ _ h => h) (by assumption) hS2 (Or.inl ⟨by rfl, ?_⟩) (fun hcl17 => ?_)
    rotate_left
    · (intro wS hSw; (obtain ⟨bx, bb⟩ := hSw; have cv1 := conv_bs (P := Tryd.prog) (src := 25) (dst := 9) Tryd.underlying25 Tryd.underlying5 Tryd.underlying9  bx; have cv2 := conv_bs (P := Tryd.prog) (src := 25) (dst := 9) Tryd.underlying25 Tryd.underlying5 Tryd.underlying9  bb; clear bx bb); go_simp; (try with_reducible rfl))
    clear hcl16
    try simp only [Act.put, List.getElem_toArray, List.getElem_cons_succ, List.getElem_cons_zero, List.setIfInBounds_toArray, List.set_cons_zero, List.set_cons_succ]
    refine wpAnyN_take (i := 18) (v := ?_) rfl (by as_aux_lemma => kernel_rfl) (by as_aux_lemma => kernel_rfl) (by as_aux_lemma => kernel_rfl) (by as_aux_lemma => kernel_rfl) (fun _ _ _ h => h) (by assumption) hS2 (Or.inl ⟨by rfl, ?_⟩) (fun hcl18 => ?_)
    rotate_left
    · (intro wS hSw; (obtain ⟨bx, bb⟩ := hSw; have cv1 := conv_bs (P := Tryd.prog) (src := 25) (dst := 9) Tryd.underlying25 Tryd.underlying5 Tryd.underlying9  bx; have cv2 := conv_bs (P := Tryd.prog) (src := 25) (dst := 9) Tryd.underlying25 Tryd.underlying5 Tryd.underlying9  bb; clear bx bb); go_simp; (try with_reducible rfl))
    clear hcl17
    try simp only [Act.put, List.getElem_toArray, List.getElem_cons_succ, List.getElem_cons_zero, List.setIfInBounds_toArray, List.set_cons_zero, List.set_cons_succ]
    refine wpAnyN_take (i := 19) (v := ?_) rfl (by as_aux_lemma => kernel_rfl) (by as_aux_lemma => kernel_rfl) (by as_aux_lemma => kernel_rfl) (by as_aux_lemma => kernel_rfl) (fun _ _ _ h => h) (by assumption) hS2 (Or.inl ⟨by rfl, ?_⟩) (fun hcl19 => ?_)
    rotate_left
    · (intro wS hSw; (obtain ⟨bx, bb⟩ := hSw; have cv1 := conv_bs (P := Tryd.prog) (src := 25) (dst := 9) Tryd.underlying25 Tryd.underlying5 Tryd.underlying9  bx; have cv2 := conv_bs (P := Tryd.prog) (src := 25) (dst := 9) Tryd.underlying25 Tryd.underlying5 Tryd.underlying9  bb; clear bx bb); go_simp; (try with_reducible rfl))
    clear hcl18
    try simp only [Act.put, List.getElem_toArray, List.getElem_cons_succ, List.getElem_cons_zero, List.setIfInBounds_toArray, List.set_cons_zero, List.set_cons_succ]
    refine wpAnyN_take (i := 20) (v := ?_) rfl (by as_aux_lemma => kernel_rfl) (by as_aux_lemma => kernel_rfl) (by as_aux_lemma => kernel_rfl) (by as_aux_lemma => kernel_rfl) (fun _ _ _ h => h) (by assumption) hS2 (Or.inl ⟨by rfl, ?_⟩) (fun hcl20 => ?_)
    rotate_left
    · (intro wS hSw; (obtain ⟨bx, bb⟩ := hSw; have cv1 := conv_bs (P := Tryd.prog) (src := 25) (dst := 9) Tryd.underlying25 Tryd.underlying5 Tryd.underlying9  bx; have cv2 := conv_bs (P := Tryd.prog) (src := 25) (dst := 9) Tryd.underlying25 Tryd.underlying5 Tryd.underlying9  bb; clear bx bb); go_simp; (try with_reducible rfl))
    clear hcl19
    try simp only [Act.put, List.getElem_toArray, List.getElem_cons_succ, List.getElem_cons_zero, List.setIfInBounds_toArray, List.set_cons_zero, List.set_cons_succ]
    refine wpAnyN_take (i := 21) (v := ?_) rfl (by as_aux_lemma => kernel_rfl) (by as_aux_lemma => kernel_rfl) (by as_aux_lemma => kernel_rfl) (by as_aux_lemma => kernel_rfl) (fun _ _ _ h => h) (by assumption) hS2 (Or.inl ⟨by rfl, ?_⟩) (fun hcl21 => ?_)
    rotate_left
    · (intro wS hSw; (obtain ⟨bx, bb⟩ := hSw; have cv1 := conv_bs (P := Tryd.prog) (src := 25) (dst := 9) Tryd.underlying25 Tryd.underlying5 Tryd.underlying9  bx; have cv2 := conv_bs (P := Tryd.prog) (src := 25) (dst := 9) Tryd.underlying25 Tryd.underlying5 Tryd.underlying9  bb; clear bx bb); go_simp; (try with_reducible rfl))
    clear hcl20
    try simp only [Act.put, List.getElem_toArray, List.getElem_cons_succ, List.getElem_cons_zero, List.setIfInBounds_toArray, List.set_cons_zero, List.set_cons_succ]
    refine wpAnyN_take (i := 22) (v := ?_) rfl (by as_aux_lemma => kernel_rfl) (by as_aux_lemma => kernel_rfl) (by as_aux_lemma => kernel_rfl) (by as_aux_lemma => kernel_rfl) (fun _ _ _ h => h) (by assumption) hS2 (Or.inl ⟨by rfl, ?_⟩) (fun hcl22 => ?_)
    rotate_left
    · (intro wS hSw; (obtain ⟨bx, bb⟩ := hSw; have cv1 := conv_bs (P := Tryd.prog) (src := 25) (dst := 9) Tryd.underlying25 Tryd.underlying5 Tryd.underlying9  bx; have cv2 := conv_bs (P := Tryd.prog) (src := 25) (dst := 9) Tryd.underlying25 Tryd.underlying5 Tryd.underlying9  bb; clear bx bb); go_simp; (try with_reducible rfl))
    clear hcl21
    try simp only [Act.put, List.getElem_toArray, List.getElem_cons_succ, List.getElem_cons_zero, List.setIfInBounds_toArray, List.set_cons_zero, List.set_cons_succ]
    refine wpAnyN_take (i := 23) (v := ?_) rfl (by as_aux_lemma => kernel_rfl) (by as_aux_lemma => kernel_rfl) (by as_aux_lemma => kernel_rfl) (by as_aux_lemma => kernel_rfl) (fun _ _ _ h => h) (by assumption) hS2 (Or.inl ⟨by rfl, ?_⟩) (fun hcl23 => ?_)
    rotate_left
    · (intro wS hSw; (obtain ⟨bx, bb⟩ := hSw; have cv1 := conv_bs (P := Tryd.prog) (src := 25) (dst := 9) Tryd.underlying25 Tryd.underlying5 Tryd.underlying9  bx; have cv2 := conv_bs (P := Tryd.prog) (src := 25) (dst := 9) Tryd.underlying25 Tryd.underlying5 Tryd.underlying9  bb; clear bx bb); go_simp; (try with_reducible rfl))
    clear hcl22
    try simp only [Act.put, List.getElem_toArray, List.getElem_cons_succ, List.getElem_cons_zero, List.setIfInBounds_toArray, List.set_cons_zero, List.set_cons_succ]
    refine wpAnyN_take (i := 24) (v := ?_) rfl (by as_aux_lemma => kernel_rfl) (by as_aux_lemma => kernel_rfl) (by as_aux_lemma => kernel_rfl) (by as_aux_lemma => kernel_rfl) (fun _ _ _ h => h) (by assumption) hS2 (Or.inl ⟨by rfl, ?_⟩) (fun hcl24 => ?_)
    rotate_left
    · (intro wS hSw; (obtain ⟨bx, bb⟩ := hSw; have cv1 := conv_bs (P := Tryd.prog) (src := 25) (dst := 9) Tryd.underlying25 Tryd.underlying5 Tryd.underlying9  bx; have cv2 := conv_bs (P := Tryd.prog) (src := 25) (dst := 9) Tryd.underlying25 Tryd.underlying5 Tryd.underlying9  bb; clear bx bb); go_simp; (try with_reducible rfl))
    clear hcl23
    try simp only [Act.put, List.getElem_toArray, List.getElem_cons_succ, List.getElem_cons_zero, List.setIfInBounds_toArray, List.set_cons_zero, List.set_cons_succ]
    refine wpAnyN_oneC (i := 25) (by as_aux_lemma => kernel_rfl) rfl (by assumption) (fun hcl25 K' hK' => ?_)
    clear hcl24
    go_simp
    go_at_call 20
    refine (kept_bs _ _ bs _ (HLN.out.same hst2) (HB.out.same (Same.trans HW0.out hst2)) hl).mono ?_
    rintro e x3 ⟨rfl, hx3⟩
    subst hx3
    have hS3 := hS2
    have hst3 := hst2
    refine hK'.out _ _ (fun _ => hS3) ?_
    clear hK' K'
    try simp only [Act.put, List.getElem_toArray, List.getElem_cons_succ, List.getElem_cons_zero, List.setIfInBounds_toArray, List.set_cons_zero, List.set_cons_succ]
    refine wpAnyN_take (i := 26) (v := ?_) rfl (by as_aux_lemma => kernel_rfl) (by as_aux_lemma => kernel_rfl) (by as_aux_lemma => kernel_rfl) (by as_aux_lemma => kernel_rfl) (fun _ _ _ h => h) (by assumption) hS3 (Or.inl ⟨by rfl, ?_⟩) (fun hcl26 => ?_)
    rotate_left
    · (intro wS hSw; (obtain ⟨bx, bb⟩ := hSw; have cv1 := conv_bs (P := Tryd.prog) (src := 25) (dst := 9) Tryd.underlying25 Tryd.underlying5 Tryd.underlying9  bx; have cv2 := conv_bs (P := Tryd.prog) (src := 25) (dst := 9) Tryd.underlying25 Tryd.underlying5 Tryd.underlying9  bb; clear bx bb); go_simp; (try with_reducible rfl))
    clear hcl25
    try simp only [Act.put, List.getElem_toArray, List.getElem_cons_succ, List.getElem_cons_zero, List.setIfInBounds_toArray, List.set_cons_zero, List.set_cons_succ]
    refine wpAnyN_take (i := 27) (v := ?_) rfl (by as_aux_lemma => kernel_rfl) (by as_aux_lemma => kernel_rfl) (by as_aux_lemma => kernel_rfl) (by as_aux_lemma => kernel_rfl) (fun _ _ _ h => h) (by assumption) hS3 (Or.inl ⟨by rfl, ?_⟩) (fun hcl27 => ?_)
    rotate_left
    · (intro wS hSw; (obtain ⟨bx, bb⟩ := hSw; have cv1 := conv_bs (P := Tryd.prog) (src := 25) (dst := 9) Tryd.underlying25 Tryd.underlying5 Tryd.underlying9  bx; have cv2 := conv_bs (P := Tryd.prog) (src := 25) (dst := 9) Tryd.underlying25 Tryd.underlying5 Tryd.underlying9  bb; clear bx bb); go_simp; (try with_reducible rfl))
    clear hcl26
    try simp only [Act.put, List.getElem_toArray, List.getElem_cons_succ, List.getElem_cons_zero, List.setIfInBounds_toArray, List.set_cons_zero, List.set_cons_succ]
    refine wpAnyN_take (i := 28) (v := ?_) rfl (by as_aux_lemma => kernel_rfl) (by as_aux_lemma => kernel_rfl) (by as_aux_lemma => kernel_rfl) (by as_aux_lemma => kernel_rfl) (fun _ _ _ h => h) (by assumption) hS3 (Or.inl ⟨by rfl, ?_⟩) (fun hcl28 => ?_)
    rotate_left
    · (intro wS hSw; (obtain ⟨bx, bb⟩ := hSw; have cv1 := conv_bs (P := Tryd.prog) (src := 25) (dst := 9) Tryd.underlying25 Tryd.underlying5 Tryd.underlying9  bx; have cv2 := conv_bs (P := Tryd.prog) (src := 25) (dst := 9) Tryd.underlying25 Tryd.underlying5 Tryd.underlying9  bb; clear bx bb); go_simp; (try with_reducible rfl))
    clear hcl27
    try simp only [Act.put, List.getElem_toArray, List.getElem_cons_succ, List.getElem_cons_zero, List.setIfInBounds_toArray, List.set_cons_zero, List.set_cons_succ]
    refine wpAnyN_take (i := 29) (v := ?_) rfl (by as_aux_lemma => kernel_rfl) (by as_aux_lemma => kernel_rfl) (by as_aux_lemma => kernel_rfl) (by as_aux_lemma => kernel_rfl) (fun _ _ _ h => h) (by assumption) hS3 (Or.inl ⟨by rfl, ?_⟩) (fun hcl29 => ?_)
    rotate_left
    · (intro wS hSw; (obtain ⟨bx, bb⟩ := hSw; have cv1 := conv_bs (P := Tryd.prog) (src := 25) (dst := 9) Tryd.underlying25 Tryd.underlying5 Tryd.underlying9  bx; have cv2 := conv_bs (P := Tryd.prog) (src := 25) (dst := 9) Tryd.underlying25 Tryd.underlying5 Tryd.underlying9  bb; clear bx bb); go_simp; (try with_reducible rfl))
    clear hcl28
    try simp only [Act.put, List.getElem_toArray, List.getElem_cons_succ, List.getElem_cons_zero, List.setIfInBounds_toArray, List.set_cons_zero, List.set_cons_succ]
    refine wpAnyN_take (i := 30) (v := ?_) rfl (by as_aux_lemma => kernel_rfl) (by as_aux_lemma => kernel_rfl) (by as_aux_lemma => kernel_rfl) (by as_aux_lemma => kernel_rfl) (fun _ _ _ h => h) (by assumption) hS3 (Or.inl ⟨by rfl, ?_⟩) (fun hcl30 => ?_)
    rotate_left
    · (intro wS hSw; (obtain ⟨bx, bb⟩ := hSw; have cv1 := conv_bs (P := Tryd.prog) (src := 25) (dst := 9) Tryd.underlying25 Tryd.underlying5 Tryd.underlying9  bx; have cv2 := conv_bs (P := Tryd.prog) (src := 25) (dst := 9) Tryd.underlying25 Tryd.underlying5 Tryd.underlying9  bb; clear bx bb); go_simp; (try with_reducible rfl))
    clear hcl29
    try simp only [Act.put, List.getElem_toArray, List.getElem_cons_succ, List.getElem_cons_zero, List.setIfInBounds_toArray, List.set_cons_zero, List.set_cons_succ]
    refine wpAnyN_take (i := 31) (v := ?_) rfl (by as_aux_lemma => kernel_rfl) (by as_aux_lemma => kernel_rfl) (by as_aux_lemma => kernel_rfl) (by as_aux_lemma => kernel_rfl) (fun _ _ _ h => h) (by assumption) hS3 (Or.inl ⟨by rfl, ?_⟩) (fun hcl31 => ?_)
    rotate_left
    · (intro wS hSw; (obtain ⟨bx, bb⟩ := hSw; have cv1 := conv_bs (P := Tryd.prog) (src := 25) (dst := 9) Tryd.underlying25 Tryd.underlying5 Tryd.underlying9  bx; have cv2 := conv_bs (P := Tryd.prog) (src := 25) (dst := 9) Tryd.underlying25 Tryd.underlying5 Tryd.underlying9  bb; clear bx bb); go_simp; (try with_reducible rfl))
    clear hcl30
    try simp only [Act.put, List.getElem_toArray, List.getElem_cons_succ, List.getElem_cons_zero, List.setIfInBounds_toArray, List.set_cons_zero, List.set_cons_succ]
    refine wpAnyN_take (i := 32) (v := ?_) rfl (by as_aux_lemma => kernel_rfl) (by as_aux_lemma => kernel_rfl) (by as_aux_lemma => kernel_rfl) (by as_aux_lemma => kernel_rfl) (fun _ _ _ h => h) (by assumption) hS3 (Or.inl ⟨by rfl, ?_⟩) (fun hcl32 => ?_)
    rotate_left
    · (intro wS hSw; (obtain ⟨bx, bb⟩ := hSw; have cv1 := conv_bs (P := Tryd.prog) (src := 25) (dst := 9) Tryd.underlying25 Tryd.underlying5 Tryd.underlying9  bx; have cv2 := conv_bs (P := Tryd.prog) (src := 25) (dst := 9) Tryd.underlying25 Tryd.underlying5 Tryd.underlying9  bb; clear bx bb); go_simp; (try with_reducible rfl))
    clear hcl31
    try simp only [Act.put, List.getElem_toArray, List.getElem_cons_succ, List.getElem_cons_zero, List.setIfInBounds_toArray, List.set_cons_zero, List.set_cons_succ]
    refine wpAnyN_take (i := 33) (v := ?_) rfl (by as_aux_lemma => kernel_rfl) (by as_aux_lemma => kernel_rfl) (by as_aux_lemma => kernel_rfl) (by as_aux_lemma => kernel_rfl) (fun _ _ _ h => h) (by assumption) hS3 (Or.inl ⟨by rfl, ?_⟩) (fun hcl33 => ?_)
    rotate_left
    · (intro wS hSw; (obtain ⟨bx, bb⟩ := hSw; have cv1 := conv_bs (P := Tryd.prog) (src := 25) (dst := 9) Tryd.underlying25 Tryd.underlying5 Tryd.underlying9  bx; have cv2 := conv_bs (P := Tryd.prog) (src := 25) (dst := 9) Tryd.underlying25 Tryd.underlying5 Tryd.underlying9  bb; clear bx bb); go_simp; (try with_reducible rfl))
    clear hcl32
    try simp only [Act.put, List.getElem_toArray, List.getElem_cons_succ, List.getElem_cons_zero, List.setIfInBounds_toArray, List.set_cons_zero, List.set_cons_succ]
    refine wpAnyN_take (i := 36) (v := ?_) rfl (by as_aux_lemma => kernel_rfl) (by as_aux_lemma => kernel_rfl) (by as_aux_lemma => kernel_rfl) (by as_aux_lemma => kernel_rfl) (fun _ _ _ h => h) (by assumption) hS3 (Or.inl ⟨by rfl, ?_⟩) (fun hcl36 => ?_)
    rotate_left
    · (intro wS hSw; (obtain ⟨bx, bb⟩ := hSw; have cv1 := conv_bs (P := Tryd.prog) (src := 25) (dst := 9) Tryd.underlying25 Tryd.underlying5 Tryd.underlying9  bx; have cv2 := conv_bs (P := Tryd.prog) (src := 25) (dst := 9) Tryd.underlying25 Tryd.underlying5 Tryd.underlying9  bb; clear bx bb); go_simp; (try with_reducible rfl))
    clear hcl33
    try simp only [Act.put, List.getElem_toArray, List.getElem_cons_succ, List.getElem_cons_zero, List.setIfInBounds_toArray, List.set_cons_zero, List.set_cons_succ]
    refine wpAnyN_take (i := 37) (v := ?_) rfl (by as_aux_lemma => kernel_rfl) (by as_aux_lemma => kernel_rfl) (by as_aux_lemma => kernel_rfl) (by as_aux_lemma => kernel_rfl) (fun _ _ _ h => h) (by assumption) hS3 (Or.inl ⟨by rfl, ?_⟩) (fun hcl37 => ?_)
    rotate_left
    · (intro wS hSw; (obtain ⟨bx, bb⟩ := hSw; have cv1 := conv_bs (P := Tryd.prog) (src := 25) (dst := 9) Tryd.underlying25 Tryd.underlying5 Tryd.underlying9  bx; have cv2 := conv_bs (P := Tryd.prog) (src := 25) (dst := 9) Tryd.underlying25 Tryd.underlying5 Tryd.underlying9  bb; clear bx bb); go_simp; (try with_reducible rfl))
    clear hcl36
    try simp only [Act.put, List.getElem_toArray, List.getElem_cons_succ, List.getElem_cons_zero, List.setIfInBounds_toArray, List.set_cons_zero, List.set_cons_succ]
    refine wpAnyN_oneC (i := 34) (by as_aux_lemma => kernel_rfl) rfl (by assumption) (fun hcl34 K' hK' => ?_)
    clear hcl37
    go_simp
    go_at_call 24
    refine (putKeys_any n0 n1 _).mono ?_
    rintro e x4 ⟨vy4, rfl, hf4, hs4⟩
    have hS4 := SK.same hS3 hs4
    have hst4 := Same.trans hst3 hs4
    obtain ⟨yA4, yc4, rfl, _⟩ := id hf4.bs
    have hkb : strB (keysL n0 n1) = strB bs := by rw [HBK.out (by trivial)]
    have cv14 := conv_bs (P := Tryd.prog) (src := 25) (dst := 9) Tryd.underlying25 Tryd.underlying5 Tryd.underlying9  hf4.bs
    clear hf4 hs4
    refine hK'.out _ _ (fun _ => hS4) ?_
    clear hK' K'
    try simp only [Act.put, List.getElem_toArray, List.getElem_cons_succ, List.getElem_cons_zero, List.setIfInBounds_toArray, List.set_cons_zero, List.set_cons_succ]
    refine wpAnyN_oneC (i := 35) (by as_aux_lemma => kernel_rfl) rfl (by assumption) (fun hcl35 K' hK' => ?_)
    clear hcl34
    go_simp
    have hS5 := hS4
    have hst5 := hst4
    refine hK'.out _ _ (fun _ => hS5) ?_
    clear hK' K'
    try simp only [Act.put, List.getElem_toArray, List.getElem_cons_succ, List.getElem_cons_zero, List.setIfInBounds_toArray, List.set_cons_zero, List.set_cons_succ]
    refine wpAnyN_take (i := 38) (v := ?_) rfl (by as_aux_lemma => kernel_rfl) (by as_aux_lemma => kernel_rfl) (by as_aux_lemma => kernel_rfl) (by as_aux_lemma => kernel_rfl) (fun _ _ _ h => h) (by assumption) hS5 (Or.inl ⟨by rfl, ?_⟩) (fun hcl38 => ?_)
    rotate_left
    · (intro wS hSw; (obtain ⟨bx, bb⟩ := hSw; have cv1 := conv_bs (P := Tryd.prog) (src := 25) (dst := 9) Tryd.underlying25 Tryd.underlying5 Tryd.underlying9  bx; have cv2 := conv_bs (P := Tryd.prog) (src := 25) (dst := 9) Tryd.underlying25 Tryd.underlying5 Tryd.underlying9  bb; clear bx bb); go_simp; (try with_reducible rfl))
    clear hcl35
    try simp only [Act.put, List.getElem_toArray, List.getElem_cons_succ, List.getElem_cons_zero, List.setIfInBounds_toArray, List.set_cons_zero, List.set_cons_succ]
    refine wpAnyN_take (i := 39) (v := ?_) rfl (by as_aux_lemma => kernel_rfl) (by as_aux_lemma => kernel_rfl) (by as_aux_lemma => kernel_rfl) (by as_aux_lemma => kernel_rfl) (fun _ _ _ h => h) (by assumption) hS5 (Or.inl ⟨by rfl, ?_⟩) (fun hcl39 => ?_)
    rotate_left
    · (intro wS hSw; (obtain ⟨bx, bb⟩ := hSw; have cv1 := conv_bs (P := Tryd.prog) (src := 25) (dst := 9) Tryd.underlying25 Tryd.underlying5 Tryd.underlying9  bx; have cv2 := conv_bs (P := Tryd.prog) (src := 25) (dst := 9) Tryd.underlying25 Tryd.underlying5 Tryd.underlying9  bb; clear bx bb); go_simp; (try with_reducible rfl))
    clear hcl38
    try simp only [Act.put, List.getElem_toArray, List.getElem_cons_succ, List.getElem_cons_zero, List.setIfInBounds_toArray, List.set_cons_zero, List.set_cons_succ]
    refine wpAnyN_take (i := 40) (v := ?_) rfl (by as_aux_lemma => kernel_rfl) (by as_aux_lemma => kernel_rfl) (by as_aux_lemma => kernel_rfl) (by as_aux_lemma => kernel_rfl) (fun _ _ _ h => h) (by assumption) hS5 (Or.inl ⟨by rfl, ?_⟩) (fun hcl40 => ?_)
    rotate_left
    · (intro wS hSw; (obtain ⟨bx, bb⟩ := hSw; have cv1 := conv_bs (P := Tryd.prog) (src := 25) (dst := 9) Tryd.underlying25 Tryd.underlying5 Tryd.underlying9  bx; have cv2 := conv_bs (P := Tryd.prog) (src := 25) (dst := 9) Tryd.underlying25 Tryd.underlying5 Tryd.underlying9  bb; clear bx bb); go_simp; (try with_reducible rfl))
    clear hcl39
    try simp only [Act.put, List.getElem_toArray, List.getElem_cons_succ, List.getElem_cons_zero, List.setIfInBounds_toArray, List.set_cons_zero, List.set_cons_succ]
    refine wpAnyN_done (by as_aux_lemma => kernel_rfl) ?_ _
    refine NoPanic.normal ?_
    have hX := hS5.1
    have HWE := Lib.hid (Same.trans HW0.out hst5)
    clear hst0 hst1 hst2 hst3 hst4 hst5
    go_wp2_with fail
    refine (HKX.out _ _ hX).mono ?_
    rintro e y1 ⟨rfl, hsy⟩
    have HWF := Lib.hid (Same.trans HWE.out hsy)
    clear hsy hX
    go_wp2_with fail
    refine (known_any _ (HT.out.same HWF.out)).mono ?_
    rintro e y2 ⟨rfl, hsy2⟩
    go_wp2_with fail
    go_ret
    exact ⟨rfl, Same.trans HWF.out hsy2⟩
  · have hne : (E == 0) = false := by simpa using hE
    have hne2 : (E != 0) = true := by simpa using hE
    clear hE
    go_wp2_with fail
    refine wp_region_noPanic ?_
    refine wp_region_need (SK (.slice xA (keysL key next).length xc) (.slice A bs.length cap) (keysL key next) bs) (fun _ => true) (by kernel_rfl) (fun hcl => ?_)
    refine wpAnyN_take (i := 0) (v := ?_) rfl (by as_aux_lemma => kernel_rfl) (by as_aux_lemma => kernel_rfl) (by as_aux_lemma => kernel_rfl) (by as_aux_lemma => kernel_rfl) (fun _ _ _ h => h) (by assumption) hS0 (Or.inl ⟨by rfl, ?_⟩) (fun hcl0 => ?_)
    rotate_left
    · (intro wS hSw; (obtain ⟨bx, bb⟩ := hSw; have cv1 := conv_bs (P := Tryd.prog) (src := 25) (dst := 9) Tryd.underlying25 Tryd.underlying5 Tryd.underlying9  bx; have cv2 := conv_bs (P := Tryd.prog) (src := 25) (dst := 9) Tryd.underlying25 Tryd.underlying5 Tryd.underlying9  bb; clear bx bb); go_simp; (try with_reducible rfl))
    clear hcl
    try simp only [Act.put, List.getElem_toArray, List.getElem_cons_succ, List.getElem_cons_zero, List.setIfInBounds_toArray, List.set_cons_zero, List.set_cons_succ]
    refine wpAnyN_take (i := 1) (v := ?_) rfl (by as_aux_lemma => kernel_rfl) (by as_aux_lemma => kernel_rfl) (by as_aux_lemma => kernel_rfl) (by as_aux_lemma => kernel_rfl) (fun _ _ _ h => h) (by assumption) hS0 (Or.inl ⟨by rfl, ?_⟩) (fun hcl1 => ?_)
    rotate_left
    · (intro wS hSw; (obtain ⟨bx, bb⟩ := hSw; have cv1 := conv_bs (P := Tryd.prog) (src := 25) (dst := 9) Tryd.underlying25 Tryd.underlying5 Tryd.underlying9  bx; have cv2 := conv_bs (P := Tryd.prog) (src := 25) (dst := 9) Tryd.underlying25 Tryd.underlying5 Tryd.underlying9  bb; clear bx bb); go_simp; (try with_reducible rfl))
    clear hcl0
    try simp only [Act.put, List.getElem_toArray, List.getElem_cons_succ, List.getElem_cons_zero, List.setIfInBounds_toArray, List.set_cons_zero, List.set_cons_succ]
    refine wpAnyN_take (i := 2) (v := ?_) rfl (by as_aux_lemma => kernel_rfl) (by as_aux_lemma => kernel_rfl) (by as_aux_lemma => kernel_rfl) (by as_aux_lemma => kernel_rfl) (fun _ _ _ h => h) (by assumption) hS0 (Or.inl ⟨by rfl, ?_⟩) (fun hcl2 => ?_)
    rotate_left
    · (intro wS hSw; (obtain ⟨bx, bb⟩ := hSw; have cv1 := conv_bs (P := Tryd.prog) (src := 25) (dst := 9) Tryd.underlying25 Tryd.underlying5 Tryd.underlying9  bx; have cv2 := conv_bs (P := Tryd.prog) (src := 25) (dst := 9) Tryd.underlying25 Tryd.underlying5 Tryd.underlying9  bb; clear bx bb); go_simp; (try with_reducible rfl))
    clear hcl1
    try simp only [Act.put, List.getElem_toArray, List.getElem_cons_succ, List.getElem_cons_zero, List.setIfInBounds_toArray, List.set_cons_zero, List.set_cons_succ]
    refine wpAnyN_take (i := 3) (v := ?_) rfl (by as_aux_lemma => kernel_rfl) (by as_aux_lemma => kernel_rfl) (by as_aux_lemma => kernel_rfl) (by as_aux_lemma => kernel_rfl) (fun _ _ _ h => h) (by assumption) hS0 (Or.inl ⟨by rfl, ?_⟩) (fun hcl3 => ?_)
    rotate_left
    · (intro wS hSw; (obtain ⟨bx, bb⟩ := hSw; have cv1 := conv_bs (P := Tryd.prog) (src := 25) (dst := 9) Tryd.underlying25 Tryd.underlying5 Tryd.underlying9  bx; have cv2 := conv_bs (P := Tryd.prog) (src := 25) (dst := 9) Tryd.underlying25 Tryd.underlying5 Tryd.underlying9  bb; clear bx bb); go_simp; (try with_reducible rfl))
    clear hcl2
    try simp only [Act.put, List.getElem_toArray, List.getElem_cons_succ, List.getElem_cons_zero, List.setIfInBounds_toArray, List.set_cons_zero, List.set_cons_succ]
    refine wpAnyN_oneC (i := 4) (by as_aux_lemma => kernel_rfl) rfl (by assumption) (fun hcl4 K' hK' => ?_)
    clear hcl3
    go_simp
    go_at_call 27
    refine (rputKeys_any key next _).mono ?_
    rintro e x1 ⟨vy1, rfl, hf1, hs1⟩
    have hS1 := SK.same hS0 hs1
    have hst1 := Same.trans hst0 hs1
    obtain ⟨yA1, yc1, rfl, _⟩ := id hf1.bs
    skip
    have cv11 := conv_bs (P := Tryd.prog) (src := 25) (dst := 9) Tryd.underlying25 Tryd.underlying5 Tryd.underlying9  hf1.bs
    clear hf1 hs1
    refine hK'.out _ _ (fun _ => hS1) ?_
    clear hK' K'
    try simp only [Act.put, List.getElem_toArray, List.getElem_cons_succ, List.getElem_cons_zero, List.setIfInBounds_toArray, List.set_cons_zero, List.set_cons_succ]
    refine wpAnyN_oneC (i := 5) (by as_aux_lemma => kernel_rfl) rfl (by assumption) (fun hcl5 K' hK' => ?_)
    clear hcl4
    go_simp
    have hS2 := hS1
    have hst2 := hst1
    refine hK'.out _ _ (fun _ => hS2) ?_
    clear hK' K'
    try simp only [Act.put, List.getElem_toArray, List.getElem_cons_succ, List.getElem_cons_zero, List.setIfInBounds_toArray, List.set_cons_zero, List.set_cons_succ]
    refine wpAnyN_take (i := 6) (v := ?_) rfl (by as_aux_lemma => kernel_rfl) (by as_aux_lemma => kernel_rfl) (by as_aux_lemma => kernel_rfl) (by as_aux_lemma => kernel_rfl) (fun _ _ _ h => h) (by assumption) hS2 (Or.inl ⟨by rfl, ?_⟩) (fun hcl6 => ?_)
    rotate_left
    · (intro wS hSw; (obtain ⟨bx, bb⟩ := hSw; have cv1 := conv_bs (P := Tryd.prog) (src := 25) (dst := 9) Tryd.underlying25 Tryd.underlying5 Tryd.underlying9  bx; have cv2 := conv_bs (P := Tryd.prog) (src := 25) (dst := 9) Tryd.underlying25 Tryd.underlying5 Tryd.underlying9  bb; clear bx bb); go_simp; (try with_reducible rfl))
    clear hcl5
    try simp only [Act.put, List.getElem_toArray, List.getElem_cons_succ, List.getElem_cons_zero, List.setIfInBounds_toArray, List.set_cons_zero, List.set_cons_succ]
    refine wpAnyN_take (i := 7) (v := ?_) rfl (by as_aux_lemma => kernel_rfl) (by as_aux_lemma => kernel_rfl) (by as_aux_lemma => kernel_rfl) (by as_aux_lemma => kernel_rfl) (fun _ _ _ h => h) (by assumption) hS2 (Or.inl ⟨by rfl, ?_⟩) (fun hcl7 => ?_)
    rotate_left
    · (intro wS hSw; (obtain ⟨bx, bb⟩ := hSw; have cv1 := conv_bs (P := Tryd.prog) (src := 25) (dst := 9) Tryd.underlying25 Tryd.underlying5 Tryd.underlying9  bx; have cv2 := conv_bs (P := Tryd.prog) (src := 25) (dst := 9) Tryd.underlying25 Tryd.underlying5 Tryd.underlying9  bb; clear bx bb); go_simp; (try with_reducible rfl))
    clear hcl6
    try simp only [Act.put, List.getElem_toArray, List.getElem_cons_succ, List.getElem_cons_zero, List.setIfInBounds_toArray, List.set_cons_zero, List.set_cons_succ]
    refine wpAnyN_take (i := 8) (v := ?_) rfl (by as_aux_lemma => kernel_rfl) (by as_aux_lemma => kernel_rfl) (by as_aux_lemma => kernel_rfl) (by as_aux_lemma => kernel_rfl) (fun _ _ _ h => h) (by assumption) hS2 (Or.inl ⟨by rfl, ?_⟩) (fun hcl8 => ?_)
    rotate_left
    · (intro wS hSw; (obtain ⟨bx, bb⟩ := hSw; have cv1 := conv_bs (P := Tryd.prog) (src := 25) (dst := 9) Tryd.underlying25 Tryd.underlying5 Tryd.underlying9  bx; have cv2 := conv_bs (P := Tryd.prog) (src := 25) (dst := 9) Tryd.underlying25 Tryd.underlying5 Tryd.underlying9  bb; clear bx bb); go_simp; (try with_reducible rfl))
    clear hcl7
    try simp only [Act.put, List.getElem_toArray, List.getElem_cons_succ, List.getElem_cons_zero, List.setIfInBounds_toArray, List.set_cons_zero, List.set_cons_succ]
    refine wpAnyN_take (i := 9) (v := ?_) rfl (by as_aux_lemma => kernel_rfl) (by as_aux_lemma => kernel_rfl) (by as_aux_lemma => kernel_rfl) (by as_aux_lemma => kernel_rfl) (fun _ _ _ h => h) (by assumption) hS2 (Or.inl ⟨by rfl, ?_⟩) (fun hcl9 => ?_)
    rotate_left
    · (intro wS hSw; (obtain ⟨bx, bb⟩ := hSw; have cv1 := conv_bs (P := Tryd.prog) (src := 25) (dst := 9) Tryd.underlying25 Tryd.underlying5 Tryd.underlying9  bx; have cv2 := conv_bs (P := Tryd.prog) (src := 25) (dst := 9) Tryd.underlying25 Tryd.underlying5 Tryd.underlying9  bb; clear bx bb); go_simp; (try with_reducible rfl))
    clear hcl8
    try simp only [Act.put, List.getElem_toArray, List.getElem_cons_succ, List.getElem_cons_zero, List.setIfInBounds_toArray, List.set_cons_zero, List.set_cons_succ]
    refine wpAnyN_take (i := 10) (v := ?_) rfl (by as_aux_lemma => kernel_rfl) (by as_aux_lemma => kernel_rfl) (by as_aux_lemma => kernel_rfl) (by as_aux_lemma => kernel_rfl) (fun _ _ _ h => h) (by assumption) hS2 (Or.inl ⟨by rfl, ?_⟩) (fun hcl10 => ?_)
    rotate_left
    · (intro wS hSw; (obtain ⟨bx, bb⟩ := hSw; have cv1 := conv_bs (P := Tryd.prog) (src := 25) (dst := 9) Tryd.underlying25 Tryd.underlying5 Tryd.underlying9  bx; have cv2 := conv_bs (P := Tryd.prog) (src := 25) (dst := 9) Tryd.underlying25 Tryd.underlying5 Tryd.underlying9  bb; clear bx bb); go_simp; (try with_reducible rfl))
    clear hcl9
    try simp only [Act.put, List.getElem_toArray, List.getElem_cons_succ, List.getElem_cons_zero, List.setIfInBounds_toArray, List.set_cons_zero, List.set_cons_succ]
    refine wpAnyN_take (i := 11) (v := ?_) rfl (by as_aux_lemma => kernel_rfl) (by as_aux_lemma => kernel_rfl) (by as_aux_lemma => kernel_rfl) (by as_aux_lemma => kernel_rfl) (fun _ _ _ h => h) (by assumption) hS2 (Or.inl ⟨by rfl, ?_⟩) (fun hcl11 => ?_)
    rotate_left
    · (intro wS hSw; (obtain ⟨bx, bb⟩ := hSw; have cv1 := conv_bs (P := Tryd.prog) (src := 25) (dst := 9) Tryd.underlying25 Tryd.underlying5 Tryd.underlying9  bx; have cv2 := conv_bs (P := Tryd.prog) (src := 25) (dst := 9) Tryd.underlying25 Tryd.underlying5 Tryd.underlying9  bb; clear bx bb); go_simp; (try with_reducible rfl))
    clear hcl10
    try simp only [Act.put, List.getElem_toArray, List.getElem_cons_succ, List.getElem_cons_zero, List.setIfInBounds_toArray, List.set_cons_zero, List.set_cons_succ]
    refine wpAnyN_take (i := 12) (v := ?_) rfl (by as_aux_lemma => kernel_rfl) (by as_aux_lemma => kernel_rfl) (by as_aux_lemma => kernel_rfl) (by as_aux_lemma => kernel_rfl) (fun _ _ _ h => h) (by assumption) hS2 (Or.inl ⟨by rfl, ?_⟩) (fun hcl12 => ?_)
    rotate_left
    · (intro wS hSw; (obtain ⟨bx, bb⟩ := hSw; have cv1 := conv_bs (P := Tryd.prog) (src := 25) (dst := 9) Tryd.underlying25 Tryd.underlying5 Tryd.underlying9  bx; have cv2 := conv_bs (P := Tryd.prog) (src := 25) (dst := 9) Tryd.underlying25 Tryd.underlying5 Tryd.underlying9  bb; clear bx bb); go_simp; (try with_reducible rfl))
    clear hcl11
    try simp only [Act.put, List.getElem_toArray, List.getElem_cons_succ, List.getElem_cons_zero, List.setIfInBounds_toArray, List.set_cons_zero, List.set_cons_succ]
    refine wpAnyN_take (i := 13) (v := ?_) rfl (by as_aux_lemma => kernel_rfl) (by as_aux_lemma => kernel_rfl) (by as_aux_lemma => kernel_rfl) (by as_aux_lemma => kernel_rfl) (fun _ _ _ h => h) (by assumption) hS2 (Or.inl ⟨by rfl, ?_⟩) (fun hcl13 => ?_)
    rotate_left
    · (intro wS hSw; (obtain ⟨bx, bb⟩ := hSw; have cv1 := conv_bs (P := Tryd.prog) (src := 25) (dst := 9) Tryd.underlying25 Tryd.underlying5 Tryd.underlying9  bx; have cv2 := conv_bs (P := Tryd.prog) (src := 25) (dst := 9) Tryd.underlying25 Tryd.underlying5 Tryd.underlying9  bb; clear bx bb); go_simp; (try with_reducible rfl))
    clear hcl12
    try simp only [Act.put, List.getElem_toArray, List.getElem_cons_succ, List.getElem_cons_zero, List.setIfInBounds_toArray, List.set_cons_zero, List.set_cons_succ]
    refine wpAnyN_take (i := 14) (v := ?_) rfl (by as_aux_lemma => kernel_rfl) (by as_aux_lemma => kernel_rfl) (by as_aux_lemma => kernel_rfl) (by as_aux_lemma => kernel_rfl) (fun _ _ _ h => h) (by assumption) hS2 (Or.inl ⟨by rfl, ?_⟩) (fun hcl14 => ?_)
    rotate_left
    · (intro wS hSw; (obtain ⟨bx, bb⟩ := hSw; have cv1 := conv_bs (P := Tryd.prog) (src := 25) (dst := 9) Tryd.underlying25 Tryd.underlying5 Tryd.underlying9  bx; have cv2 := conv_bs (P := Tryd.prog) (src := 25) (dst := 9) Tryd.underlying25 Tryd.underlying5 Tryd.underlying9  bb; clear bx bb); go_simp; (try with_reducible rfl))
    clear hcl13
    try simp only [Act.put, List.getElem_toArray, List.getElem_cons_succ, List.getElem_cons_zero, List.setIfInBounds_toArray, List.set_cons_zero, List.set_cons_succ]
    refine wpAnyN_take (i := 15) (v := ?_) rfl (by as_aux_lemma => kernel_rfl) (by as_aux_lemma => kernel_rfl) (by as_aux_lemma => kernel_rfl) (by as_aux_lemma => kernel_rfl) (fun _ _ _ h => h) (by assumption) hS2 (Or.inl ⟨by rfl, ?_⟩) (fun hcl15 => ?_)
    rotate_left
    · (intro wS hSw; (obtain ⟨bx, bb⟩ := hSw; have cv1 := conv_bs (P := Tryd.prog) (src := 25) (dst := 9) Tryd.underlying25 Tryd.underlying5 Tryd.underlying9  bx; have cv2 := conv_bs (P := Tryd.prog) (src := 25) (dst := 9) Tryd.underlying25 Tryd.underlying5 Tryd.underlying9  bb; clear bx bb); go_simp; (try with_reducible rfl))
    clear hcl14
    try simp only [Act.put, List.getElem_toArray, List.getElem_cons_succ, List.getElem_cons_zero, List.setIfInBounds_toArray, List.set_cons_zero, List.set_cons_succ]
    refine wpAnyN_take (i := 16) (v := ?_) rfl (by as_aux_lemma => kernel_rfl) (by as_aux_lemma => kernel_rfl) (by as_aux_lemma => kernel_rfl) (by as_aux_lemma => kernel_rfl) (fun _ _ _ h => h) (by assumption) hS2 (Or.inl ⟨by rfl, ?_⟩) (fun hcl16 => ?_)
    rotate_left
    · (intro wS hSw; (obtain ⟨bx, bb⟩ := hSw; have cv1 := conv_bs (P := Tryd.prog) (src := 25) (dst := 9) Tryd.underlying25 Tryd.underlying5 Tryd.underlying9  bx; have cv2 := conv_bs (P := Tryd.prog) (src := 25) (dst := 9) Tryd.underlying25 Tryd.underlying5 Tryd.underlying9  bb; clear bx bb); go_simp; (try with_reducible rfl))
    clear hcl15
    try simp only [Act.put, List.getElem_toArray, List.getElem_cons_succ, List.getElem_cons_zero, List.setIfInBounds_toArray, List.set_cons_zero, List.set_cons_succ]
    refine wpAnyN_take (i := 17) (v := ?_) rfl (by as_aux_lemma => kernel_rfl) (by as_aux_lemma => kernel_rfl) (by as_aux_lemma => kernel_rfl) (by as_aux_lemma => kernel_rfl) (fun _ _ _ h => h) (by assumption) hS2 (Or.inl ⟨by rfl, ?_⟩) (fun hcl17 => ?_)
    rotate_left
    · (intro wS hSw; (obtain ⟨bx, bb⟩ := hSw; have cv1 := conv_bs (P := Tryd.prog) (src := 25) (dst := 9) Tryd.underlying25 Tryd.underlying5 Tryd.underlying9  bx; have cv2 := conv_bs (P := Tryd.prog) (src := 25) (dst := 9) Tryd.underlying25 Tryd.underlying5 Tryd.underlying9  bb; clear bx bb); go_simp; (try with_reducible rfl))
    clear hcl16
    try simp only [Act.put, List.getElem_toArray, List.getElem_cons_succ, List.getElem_cons_zero, List.setIfInBounds_toArray, List.set_cons_zero, List.set_cons_succ]
    refine wpAnyN_take (i := 18) (v := ?_) rfl (by as_aux_lemma => kernel_rfl) (by as_aux_lemma => kernel_rfl) (by as_aux_lemma => kernel_rfl) (by as_aux_lemma => kernel_rfl) (fun _ _ _ h => h) (by assumption) hS2 (Or.inl ⟨by rfl, ?_⟩) (fun hcl18 => ?_)
    rotate_left
    · (intro wS hSw; (obtain ⟨bx, bb⟩ := hSw; have cv1 := conv_bs (P := Tryd.prog) (src := 25) (dst := 9) Tryd.underlying25 Tryd.underlying5 Tryd.underlying9  bx; have cv2 := conv_bs (P := Tryd.prog) (src := 25) (dst := 9) Tryd.underlying25 Tryd.underlying5 Tryd.underlying9  bb; clear bx bb); go_simp; (try with_reducible rfl))
    clear hcl17
    try simp only [Act.put, List.getElem_toArray, List.getElem_cons_succ, List.getElem_cons_zero, List.setIfInBounds_toArray, List.set_cons_zero, List.set_cons_succ]
    refine wpAnyN_take (i := 19) (v := ?_) rfl (by as_aux_lemma => kernel_rfl) (by as_aux_lemma => kernel_rfl) (by as_aux_lemma => kernel_rfl) (by as_aux_lemma => kernel_rfl) (fun _ _ _ h => h) (by assumption) hS2 (Or.inl ⟨by rfl, ?_⟩) (fun hcl19 => ?_)
    rotate_left
    · (intro wS hSw; (obtain ⟨bx, bb⟩ := hSw; have cv1 := conv_bs (P := Tryd.prog) (src := 25) (dst := 9) Tryd.underlying25 Tryd.underlying5 Tryd.underlying9  bx; have cv2 := conv_bs (P := Tryd.prog) (src := 25) (dst := 9) Tryd.underlying25 Tryd.underlying5 Tryd.underlying9  bb; clear bx bb); go_simp; (try with_reducible rfl))
    clear hcl18
    try simp only [Act.put, List.getElem_toArray, List.getElem_cons_succ, List.getElem_cons_zero, List.setIfInBounds_toArray, List.set_cons_zero, List.set_cons_succ]
    refine wpAnyN_take (i := 20) (v := ?_) rfl (by as_aux_lemma => kernel_rfl) (by as_aux_lemma => kernel_rfl) (by as_aux_lemma => kernel_rfl) (by as_aux_lemma => kernel_rfl) (fun _ _ _ h => h) (by assumption) hS2 (Or.inl ⟨by rfl, ?_⟩) (fun hcl20 => ?_)
    rotate_left
    · (intro wS hSw; (obtain ⟨bx, bb⟩ := hSw; have cv1 := conv_bs (P := Tryd.prog) (src := 25) (dst := 9) Tryd.underlying25 Tryd.underlying5 Tryd.underlying9  bx; have cv2 := conv_bs (P := Tryd.prog) (src := 25) (dst := 9) Tryd.underlying25 Tryd.underlying5 Tryd.underlying9  bb; clear bx bb); go_simp; (try with_reducible rfl))
    clear hcl19
    try simp only [Act.put, List.getElem_toArray, List.getElem_cons_succ, List.getElem_cons_zero, List.setIfInBounds_toArray, List.set_cons_zero, List.set_cons_succ]
    refine wpAnyN_take (i := 21) (v := ?_) rfl (by as_aux_lemma => kernel_rfl) (by as_aux_lemma => kernel_rfl) (by as_aux_lemma => kernel_rfl) (by as_aux_lemma => kernel_rfl) (fun _ _ _ h => h) (by assumption) hS2 (Or.inl ⟨by rfl, ?_⟩) (fun hcl21 => ?_)
    rotate_left
    · (intro wS hSw; (obtain ⟨bx, bb⟩ := hSw; have cv1 := conv_bs (P := Tryd.prog) (src := 25) (dst := 9) Tryd.underlying25 Tryd.underlying5 Tryd.underlying9  bx; have cv2 := conv_bs (P := Tryd.prog) (src := 25) (dst := 9) Tryd.underlying25 Tryd.underlying5 Tryd.underlying9  bb; clear bx bb); go_simp; (try with_reducible rfl))
    clear hcl20
    try simp only [Act.put, List.getElem_toArray, List.getElem_cons_succ, List.getElem_cons_zero, List.setIfInBounds_toArray, List.set_cons_zero, List.set_cons_succ]
    refine wpAnyN_take (i := 22) (v := ?_) rfl (by as_aux_lemma => kernel_rfl) (by as_aux_lemma => kernel_rfl) (by as_aux_lemma => kernel_rfl) (by as_aux_lemma => kernel_rfl) (fun _ _ _ h => h) (by assumption) hS2 (Or.inl ⟨by rfl, ?_⟩) (fun hcl22 => ?_)
    rotate_left
    · (intro wS hSw; (obtain ⟨bx, bb⟩ := hSw; have cv1 := conv_bs (P := Tryd.prog) (src := 25) (dst := 9) Tryd.underlying25 Tryd.underlying5 Tryd.underlying9  bx; have cv2 := conv_bs (P := Tryd.prog) (src := 25) (dst := 9) Tryd.underlying25 Tryd.underlying5 Tryd.underlying9  bb; clear bx bb); go_simp; (try with_reducible rfl))
    clear hcl21
    try simp only [Act.put, List.getElem_toArray, List.getElem_cons_succ, List.getElem_cons_zero, List.setIfInBounds_toArray, List.set_cons_zero, List.set_cons_succ]
    refine wpAnyN_take (i := 23) (v := ?_) rfl (by as_aux_lemma => kernel_rfl) (by as_aux_lemma => kernel_rfl) (by as_aux_lemma => kernel_rfl) (by as_aux_lemma => kernel_rfl) (fun _ _ _ h => h) (by assumption) hS2 (Or.inl ⟨by rfl, ?_⟩) (fun hcl23 => ?_)
    rotate_left
    · (intro wS hSw; (obtain ⟨bx, bb⟩ := hSw; have cv1 := conv_bs (P := Tryd.prog) (src := 25) (dst := 9) Tryd.underlying25 Tryd.underlying5 Tryd.underlying9  bx; have cv2 := conv_bs (P := Tryd.prog) (src := 25) (dst := 9) Tryd.underlying25 Tryd.underlying5 Tryd.underlying9  bb; clear bx bb); go_simp; (try with_reducible rfl))
    clear hcl22
    try simp only [Act.put, List.getElem_toArray, List.getElem_cons_succ, List.getElem_cons_zero, List.setIfInBounds_toArray, List.set_cons_zero, List.set_cons_succ]
    refine wpAnyN_take (i := 24) (v := ?_) rfl (by as_aux_lemma => kernel_rfl) (by as_aux_lemma => kernel_rfl) (by as_aux_lemma => kernel_rfl) (by as_aux_lemma => kernel_rfl) (fun _ _ _ h => h) (by assumption) hS2 (Or.inl ⟨by rfl, ?_⟩) (fun hcl24 => ?_)
    rotate_left
    · (intro wS hSw; (obtain ⟨bx, bb⟩ := hSw; have cv1 := conv_bs (P := Tryd.prog) (src := 25) (dst := 9) Tryd.underlying25 Tryd.underlying5 Tryd.underlying9  bx; have cv2 := conv_bs (P := Tryd.prog) (src := 25) (dst := 9) Tryd.underlying25 Tryd.underlying5 Tryd.underlying9  bb; clear bx bb); go_simp; (try with_reducible rfl))
    clear hcl23
    try simp only [Act.put, List.getElem_toArray, List.getElem_cons_succ, List.getElem_cons_zero, List.setIfInBounds_toArray, List.set_cons_zero, List.set_cons_succ]
    refine wpAnyN_oneC (i := 25) (by as_aux_lemma => kernel_rfl) rfl (by assumption) (fun hcl25 K' hK' => ?_)
    clear hcl24
    go_simp
    go_at_call 20
    refine (kept_bs _ _ bs _ (HLN.out.same hst2) (HB.out.same (Same.trans HW0.out hst2)) hl).mono ?_
    rintro e x3 ⟨rfl, hx3⟩
    subst hx3
    have hS3 := hS2
    have hst3 := hst2
    refine hK'.out _ _ (fun _ => hS3) ?_
    clear hK' K'
    try simp only [Act.put, List.getElem_toArray, List.getElem_cons_succ, List.getElem_cons_zero, List.setIfInBounds_toArray, List.set_cons_zero, List.set_cons_succ]
    refine wpAnyN_take (i := 26) (v := ?_) rfl (by as_aux_lemma => kernel_rfl) (by as_aux_lemma => kernel_rfl) (by as_aux_lemma => kernel_rfl) (by as_aux_lemma => kernel_rfl) (fun _ _ _ h => h) (by assumption) hS3 (Or.inl ⟨by rfl, ?_⟩) (fun hcl26 => ?_)
    rotate_left
    · (intro wS hSw; (obtain ⟨bx, bb⟩ := hSw; have cv1 := conv_bs (P := Tryd.prog) (src := 25) (dst := 9) Tryd.underlying25 Tryd.underlying5 Tryd.underlying9  bx; have cv2 := conv_bs (P := Tryd.prog) (src := 25) (dst := 9) Tryd.underlying25 Tryd.underlying5 Tryd.underlying9  bb; clear bx bb); go_simp; (try with_reducible rfl))
    clear hcl25
    try simp only [Act.put, List.getElem_toArray, List.getElem_cons_succ, List.getElem_cons_zero, List.setIfInBounds_toArray, List.set_cons_zero, List.set_cons_succ]
    refine wpAnyN_take (i := 27) (v := ?_) rfl (by as_aux_lemma => kernel_rfl) (by as_aux_lemma => kernel_rfl) (by as_aux_lemma => kernel_rfl) (by as_aux_lemma => kernel_rfl) (fun _ _ _ h => h) (by assumption) hS3 (Or.inl ⟨by rfl, ?_⟩) (fun hcl27 => ?_)
    rotate_left
    · (intro wS hSw; (obtain ⟨bx, bb⟩ := hSw; have cv1 := conv_bs (P := Tryd.prog) (src := 25) (dst := 9) Tryd.underlying25 Tryd.underlying5 Tryd.underlying9  bx; have cv2 := conv_bs (P := Tryd.prog) (src := 25) (dst := 9) Tryd.underlying25 Tryd.underlying5 Tryd.underlying9  bb; clear bx bb); go_simp; (try with_reducible rfl))
    clear hcl26
    try simp only [Act.put, List.getElem_toArray, List.getElem_cons_succ, List.getElem_cons_zero, List.setIfInBounds_toArray, List.set_cons_zero, List.set_cons_succ]
    refine wpAnyN_take (i := 28) (v := ?_) rfl (by as_aux_lemma => kernel_rfl) (by as_aux_lemma => kernel_rfl) (by as_aux_lemma => kernel_rfl) (by as_aux_lemma => kernel_rfl) (fun _ _ _ h => h) (by assumption) hS3 (Or.inl ⟨by rfl, ?_⟩) (fun hcl28 => ?_)
    rotate_left
    · (intro wS hSw; (obtain ⟨bx, bb⟩ := hSw; have cv1 := conv_bs (P := Tryd.prog) (src := 25) (dst := 9) Tryd.underlying25 Tryd.underlying5 Tryd.underlying9  bx; have cv2 := conv_bs (P := Tryd.prog) (src := 25) (dst := 9) Tryd.underlying25 Tryd.underlying5 Tryd.underlying9  bb; clear bx bb); go_simp; (try with_reducible rfl))
    clear hcl27
    try simp only [Act.put, List.getElem_toArray, List.getElem_cons_succ, List.getElem_cons_zero, List.setIfInBounds_toArray, List.set_cons_zero, List.set_cons_succ]
    refine wpAnyN_take (i := 29) (v := ?_) rfl (by as_aux_lemma => kernel_rfl) (by as_aux_lemma => kernel_rfl) (by as_aux_lemma => kernel_rfl) (by as_aux_lemma => kernel_rfl) (fun _ _ _ h => h) (by assumption) hS3 (Or.inl ⟨by rfl, ?_⟩) (fun hcl29 => ?_)
    rotate_left
    · (intro wS hSw; (obtain ⟨bx, bb⟩ := hSw; have cv1 := conv_bs (P := Tryd.prog) (src := 25) (dst := 9) Tryd.underlying25 Tryd.underlying5 Tryd.underlying9  bx; have cv2 := conv_bs (P := Tryd.prog) (src := 25) (dst := 9) Tryd.underlying25 Tryd.underlying5 Tryd.underlying9  bb; clear bx bb); go_simp; (try with_reducible rfl))
    clear hcl28
    try simp only [Act.put, List.getElem_toArray, List.getElem_cons_succ, List.getElem_cons_zero, List.setIfInBounds_toArray, List.set_cons_zero, List.set_cons_succ]
    refine wpAnyN_take (i := 30) (v := ?_) rfl (by as_aux_lemma => kernel_rfl) (by as_aux_lemma => kernel_rfl) (by as_aux_lemma => kernel_rfl) (by as_aux_lemma => kernel_rfl) (fun _ _ _ h => h) (by assumption) hS3 (Or.inl ⟨by rfl, ?_⟩) (fun hcl30 => ?_)
    rotate_left
    · (intro wS hSw; (obtain ⟨bx, bb⟩ := hSw; have cv1 := conv_bs (P := Tryd.prog) (src := 25) (dst := 9) Tryd.underlying25 Tryd.underlying5 Tryd.underlying9  bx; have cv2 := conv_bs (P := Tryd.prog) (src := 25) (dst := 9) Tryd.underlying25 Tryd.underlying5 Tryd.underlying9  bb; clear bx bb); go_simp; (try with_reducible rfl))
    clear hcl29
    try simp only [Act.put, List.getElem_toArray, List.getElem_cons_succ, List.getElem_cons_zero, List.setIfInBounds_toArray, List.set_cons_zero, List.set_cons_succ]
    refine wpAnyN_take (i := 31) (v := ?_) rfl (by as_aux_lemma => kernel_rfl) (by as_aux_lemma => kernel_rfl) (by as_aux_lemma => kernel_rfl) (by as_aux_lemma => kernel_rfl) (fun _ _ _ h => h) (by assumption) hS3 (Or.inl ⟨by rfl, ?_⟩) (fun hcl31 => ?_)
    rotate_left
    · (intro wS hSw; (obtain ⟨bx, bb⟩ := hSw; have cv1 := conv_bs (P := Tryd.prog) (src := 25) (dst := 9) Tryd.underlying25 Tryd.underlying5 Tryd.underlying9  bx; have cv2 := conv_bs (P := Tryd.prog) (src := 25) (dst := 9) Tryd.underlying25 Tryd.underlying5 Tryd.underlying9  bb; clear bx bb); go_simp; (try with_reducible rfl))
    clear hcl30
    try simp only [Act.put, List.getElem_toArray, List.getElem_cons_succ, List.getElem_cons_zero, List.setIfInBounds_toArray, List.set_cons_zero, List.set_cons_succ]
    refine wpAnyN_skip (i := 32) rfl (by as_aux_lemma => kernel_rfl) (by as_aux_lemma => kernel_rfl) (by as_aux_lemma => kernel_rfl) (by as_aux_lemma => kernel_rfl) rfl (fun _ _ _ h => h) (by assumption) hS3 rfl (fun hcl32 => ?_)
    clear hcl31
    refine wpAnyN_skip (i := 33) rfl (by as_aux_lemma => kernel_rfl) (by as_aux_lemma => kernel_rfl) (by as_aux_lemma => kernel_rfl) (by as_aux_lemma => kernel_rfl) rfl (fun _ _ _ h => h) (by assumption) hS3 rfl (fun hcl33 => ?_)
    clear hcl32
    refine wpAnyN_skip (i := 34) rfl (by as_aux_lemma => kernel_rfl) (by as_aux_lemma => kernel_rfl) (by as_aux_lemma => kernel_rfl) (by as_aux_lemma => kernel_rfl) rfl (fun _ _ _ h => h) (by assumption) hS3 rfl (fun hcl34 => ?_)
    clear hcl33
    refine wpAnyN_skip (i := 35) rfl (by as_aux_lemma => kernel_rfl) (by as_aux_lemma => kernel_rfl) (by as_aux_lemma => kernel_rfl) (by as_aux_lemma => kernel_rfl) rfl (fun _ _ _ h => h) (by assumption) hS3 rfl (fun hcl35 => ?_)
    clear hcl34
    refine wpAnyN_skip (i := 36) rfl (by as_aux_lemma => kernel_rfl) (by as_aux_lemma => kernel_rfl) (by as_aux_lemma => kernel_rfl) (by as_aux_lemma => kernel_rfl) rfl (fun _ _ _ h => h) (by assumption) hS3 rfl (fun hcl36 => ?_)
    clear hcl35
    refine wpAnyN_skip (i := 37) rfl (by as_aux_lemma => kernel_rfl) (by as_aux_lemma => kernel_rfl) (by as_aux_lemma => kernel_rfl) (by as_aux_lemma => kernel_rfl) rfl (fun _ _ _ h => h) (by assumption) hS3 rfl (fun hcl37 => ?_)
    clear hcl36
    refine wpAnyN_skip (i := 38) rfl (by as_aux_lemma => kernel_rfl) (by as_aux_lemma => kernel_rfl) (by as_aux_lemma => kernel_rfl) (by as_aux_lemma => kernel_rfl) rfl (fun _ _ _ h => h) (by assumption) hS3 rfl (fun hcl38 => ?_)
    clear hcl37
    refine wpAnyN_take (i := 39) (v := ?_) rfl (by as_aux_lemma => kernel_rfl) (by as_aux_lemma => kernel_rfl) (by as_aux_lemma => kernel_rfl) (by as_aux_lemma => kernel_rfl) (fun _ _ _ h => h) (by assumption) hS3 (Or.inl ⟨by rfl, ?_⟩) (fun hcl39 => ?_)
    rotate_left
    · (intro wS hSw; (obtain ⟨bx, bb⟩ := hSw; have cv1 := conv_bs (P := Tryd.prog) (src := 25) (dst := 9) Tryd.underlying25 Tryd.underlying5 Tryd.underlying9  bx; have cv2 := conv_bs (P := Tryd.prog) (src := 25) (dst := 9) Tryd.underlying25 Tryd.underlying5 Tryd.underlying9  bb; clear bx bb); go_simp; (try with_reducible rfl))
    clear hcl38
    try simp only [Act.put, List.getElem_toArray, List.getElem_cons_succ, List.getElem_cons_zero, List.setIfInBounds_toArray, List.set_cons_zero, List.set_cons_succ]
    refine wpAnyN_take (i := 40) (v := ?_) rfl (by as_aux_lemma => kernel_rfl) (by as_aux_lemma => kernel_rfl) (by as_aux_lemma => kernel_rfl) (by as_aux_lemma => kernel_rfl) (fun _ _ _ h => h) (by assumption) hS3 (Or.inl ⟨by rfl, ?_⟩) (fun hcl40 => ?_)
    rotate_left
    · (intro wS hSw; (obtain ⟨bx, bb⟩ := hSw; have cv1 := conv_bs (P := Tryd.prog) (src := 25) (dst := 9) Tryd.underlying25 Tryd.underlying5 Tryd.underlying9  bx; have cv2 := conv_bs (P := Tryd.prog) (src := 25) (dst := 9) Tryd.underlying25 Tryd.underlying5 Tryd.underlying9  bb; clear bx bb); go_simp; (try with_reducible rfl))
    clear hcl39
    try simp only [Act.put, List.getElem_toArray, List.getElem_cons_succ, List.getElem_cons_zero, List.setIfInBounds_toArray, List.set_cons_zero, List.set_cons_succ]
    refine wpAnyN_done (by as_aux_lemma => kernel_rfl) ?_ _
    refine NoPanic.normal ?_
    have hX := hS3.1
    have HWE := Lib.hid (Same.trans HW0.out hst3)
    clear hst0 hst1 hst2 hst3
    go_wp2_with fail
    refine (HKX.out _ _ hX).mono ?_
    rintro e y1 ⟨rfl, hsy⟩
    have HWF := Lib.hid (Same.trans HWE.out hsy)
    clear hsy hX
    go_wp2_with fail
    refine (known_any _ (HT.out.same HWF.out)).mono ?_
    rintro e y2 ⟨rfl, hsy2⟩
    go_wp2_with fail
    go_ret
    exact ⟨rfl, Same.trans HWF.out hsy2⟩
end Go.Proofs.YtmaofhiapkfoaaaDoor
