/- The world: Take, Drop, Double of one that is there. -/
import Derived.Test.YtppphelihimidaaWorV
namespace Go.Proofs.Ytppphelihimidaa
open Go.RowKit
set_option linter.unusedVariables false
set_option linter.unusedSimpArgs false
attribute [local go_sem ↓] Go.wp_at_zero Go.wp_at_succ
section
variable {base : Nat} {D : Nat → Prop} {W : World} {p : Nat} {s : WrS} {ls : List Lt} {cs : List Int}
/-- Some are on their way no more; the counts have turned. -/
def GoneR (base : Nat) (D : Nat → Prop) (W : World) (p : Nat) (s : WrS) (ls' : List Lt) (cs : List Int) (tk lo : Int) (w' : World) : Prop :=
  ∃ vl', WoV base D w' p { s with vl := vl', tk := tk, lo := lo } ls' cs ∧ room vl' = room s.vl ∧ Upd (wfoot D p s) W w'
theorem foot_vl {vl' : Value} (h : room vl' = room s.vl) {tk lo : Int} : ∀ k, wfoot D p { s with vl := vl', tk := tk, lo := lo } k → wfoot D p s k := by
  rintro k (hk | hk | hk | hk)
  · exact .inl hk
  · exact .inr (.inl (by rw [← h]; exact hk))
  · exact .inr (.inr (.inl hk))
  · exact .inr (.inr (.inr hk))
set_option maxHeartbeats 2000000 in
theorem drop_ok (h : WoV base D W p s ls cs) (hb : base ≤ W.heap.size) (k : Nat) (hk : k < ls.length) (hl : ls.length ≤ 20000) (hlo : 0 ≤ s.lo ∧ s.lo ≤ 1000000000) :
    Calls Try.prog 16 #[.pointer (some ⟨p, 0, none⟩), .int .i64 k] W fun e w' => e = .returned (.int .i64 0) ∧ GoneR base D W p s (ls.take k ++ ls.drop (k + 1)) cs s.tk (s.lo + 1) w' := by
  have HL := Lib.hid (away_ok h hb k hk hl)
  have hp := h.2.1.lt
  generalize ls[k]'hk = x at HL
  clear h hk
  go_enter Try.func16, Try.ntmps16
  go_wp2_with fail
  refine HL.out.mono ?_
  rintro e w1 ⟨v', vl', rfl, hf, hq, hrm, hu⟩
  obtain ⟨A2, n2, c2, rfl, -⟩ := Own.open_ hf
  unfold letV
  have hq2 := hq.same ((Upd.refl (fun _ => False) w1).alloc (.cells #[.int .i64 x.f, .int .i64 x.t, .slice A2 n2 c2] 40))
  have c5 := hq2.2.1.1.2.2.2.2.2.1
  have f5 := hq2.2.1.2 5 (by decide)
  have HQ := Lib.hid hq
  have HRM := Lib.hid hrm
  have HU := Lib.hid hu
  have hp1 := Nat.lt_of_lt_of_le hp hu.size
  have HAD := Lib.hid (add_any ⟨p, 5, none⟩ s.lo 1 _ c5 f5 ⟨hlo.1, by omega⟩ (by decide))
  clear hf hq hrm hu hq2
  go_wp2_with fail
  refine HAD.out.mono ?_
  rintro e w2 ⟨rfl, rfl⟩
  go_wp2_with fail
  go_ret
  obtain ⟨r1, r2⟩ := HQ.out.num 5 (.int .i64 (s.lo + 1)) _ (HQ.out.2.1.s5 (s.lo + 1)) rfl rfl
  exact ⟨rfl, vl', r1.same ((Upd.refl _ _).alloc _), HRM.out, (Upd.trans HU.out r2 fun k _ e => foot_vl (tk := s.tk) (lo := s.lo) HRM.out k e).alloc _⟩
set_option maxHeartbeats 4000000 in
theorem take_ok (h : WoV base D W p s ls cs) (hb : base ≤ W.heap.size) (k : Nat) (hk : k < ls.length) (hl : ls.length ≤ 20000) (hc5 : cs.length ≤ 5) (hm : 0 ≤ s.mask ∧ s.mask < 32) (hcnt : 0 ≤ s.tk ∧ s.tk ≤ 1000000000) (ha : apartB s.mask cs.length (ls[k]'hk).f (ls[k]'hk).t = false) :
    Calls Try.prog 14 #[.pointer (some ⟨p, 0, none⟩), .int .i64 k] W fun e w' => ∃ v', e = .returned (letV (ls[k]'hk).f (ls[k]'hk).t v' 0) ∧ Fresh W.heap.size w' v' (ls[k]'hk).bs ∧ GoneR base D W p s (ls.take k ++ ls.drop (k + 1)) cs (s.tk + 1) s.lo w' := by
  have HBX := Lib.hid (Box3.new W (.int .i64 0) (.int .i64 0) (.slice none 0 0) 40 _ rfl)
  have hs0 := (Upd.refl (fun _ => False) W).alloc (.cells #[.int .i64 0, .int .i64 0, .slice none 0 0] 40)
  have HL := Lib.hid (away_ok (h.same hs0) (Nat.le_trans hb hs0.size) k hk hl)
  have hp := h.2.1.lt
  have hft := h.foot
  have HFT := Lib.hid hft
  have HS0 := Lib.hid hs0
  generalize ls[k]'hk = x at HL ha ⊢
  obtain ⟨f, t, xA, xn, xc, bs⟩ := x
  simp only at HL ha ⊢
  clear h hk hs0 hft
  go_enter Try.func14, Try.ntmps14
  go_wp2_with fail
  refine HL.out.mono ?_
  rintro e w1 ⟨v', vl', rfl, hf, hq, hrm, hu⟩
  obtain ⟨A2, n2, c2, rfl, -⟩ := Own.open_ hf
  unfold letV
  have hbn : ¬ wfoot D p s W.heap.size := fun e => by have := (HFT.out _ e).2; omega
  have hb4 := (HBX.out.upd hu hbn)
  have hb4' := hb4.upd ((Upd.refl (fun _ => False) _).alloc (.cells #[.int .i64 f, .int .i64 t, .slice A2 n2 c2] 40)) (fun h => h)
  have hb6 := Box3.new w1 (.int .i64 f) (.int .i64 t) (.slice A2 n2 c2) 40 _ rfl
  have hq2 := hq.same ((Upd.refl (fun _ => False) w1).alloc (.cells #[.int .i64 f, .int .i64 t, .slice A2 n2 c2] 40))
  have hap := apart_any hq2.2.1 hq2.2.2.2.1.rdr f t hc5 hm
  rw [ha] at hap
  have hz1 := hb4.lt
  have hp1 := Nat.lt_of_lt_of_le hp (Nat.le_trans HS0.out.size hu.size)
  have HAP := Lib.hid hap
  have HQ2 := Lib.hid hq2
  have HB4 := Lib.hid hb4'
  have HB6 := Lib.hid hb6
  have HRM := Lib.hid hrm
  have HU := Lib.hid hu
  have HF := Lib.hid hf
  clear hf hq hrm hu hq2 hb4 hb4' hb6 hap
  go_wp2_with fail
  refine HAP.out.mono ?_
  rintro e w2 ⟨rfl, hs2⟩
  have hq3 := HQ2.out.same hs2
  have c4 := hq3.2.1.1.2.2.2.2.1
  have f4 := hq3.2.1.2 4 (by decide)
  have n1 : ¬ p = W.heap.size := by omega
  have n2' : ¬ p = w1.heap.size := by omega
  have n3' : ¬ W.heap.size = w1.heap.size := by omega
  obtain ⟨r1, r2⟩ := hq3.num 4 (.int .i64 (s.tk + 1)) _ (hq3.2.1.s4 (s.tk + 1)) rfl rfl
  have HAD := Lib.hid (add_any ⟨p, 4, none⟩ s.tk 1 w2 c4 f4 ⟨hcnt.1, by omega⟩ (by decide))
  have u3 : Upd (fun j => j = p) w2 (w2.setCell ⟨p, 4, none⟩ (.int .i64 (s.tk + 1))) := (Upd.refl (fun j => j = p) w2).setCell (p := ⟨p, 4, none⟩) (fun _ => rfl) _
  obtain ⟨⟨a0, a1, a2⟩, -⟩ := (HB6.out.upd hs2 (fun h => h)).upd u3 (fun e => n2' e.symm)
  obtain ⟨⟨k0, k1, k2⟩, kf⟩ := (HB4.out.upd hs2 (fun h => h)).upd u3 (fun e => n1 e.symm)
  have hz2 := hs2.size
  simp only [World.size_alloc] at hz2
  have HS2 := Lib.hid hs2
  have HR := Lib.hid (And.intro r1 r2)
  have hp2 : p < w2.heap.size := by omega
  clear hs2 hq3 r1 r2 HB6 HB4
  go_wp2_with fail
  refine HAD.out.mono ?_
  rintro e w3 ⟨rfl, hw3⟩
  rw [← hw3] at a0 a1 a2 k0 k1 k2 kf HR u3
  have kf0 := kf 0 (by decide)
  have kf1 := kf 1 (by decide)
  have kf2 := kf 2 (by decide)
  have hz3 := u3.size
  have HU3 := Lib.hid u3
  clear kf u3 hw3
  go_wp2_with fail
  have hbx := box3_put w3 W.heap.size (.int .i64 f) (.int .i64 t) (.slice A2 n2 c2)
  have hst : Upd (wfoot D p s) W w3 := Upd.trans (Upd.trans (Same.then HS0.out HU.out) ((Upd.refl (fun _ => False) w1).alloc (.cells #[.int .i64 f, .int .i64 t, .slice A2 n2 c2] 40) |>.trans HS2.out fun _ _ h => h) fun _ _ h => h.elim) HR.out.2 fun j _ e => foot_vl (tk := s.tk) (lo := s.lo) HRM.out j e
  refine bodyPost_ret (v := letV f t (.slice A2 n2 c2) 0) (by simp [results, Try.results14, go_sem, letV, k0, k1, k2]) rfl ⟨_, rfl, ?_, vl', HR.out.1.upd hbx (fun j hj e => ?_), HRM.out, Upd.trans hst hbx fun j hj e => by omega⟩
  · have hf2 : Fresh (W.heap.size + 1) w1 (.slice A2 n2 c2) bs := by simpa using HF.out
    have hf3 := (hf2.same ((Upd.refl (fun _ => False) w1).alloc (.cells #[.int .i64 f, .int .i64 t, .slice A2 n2 c2] 40))).same HS2.out
    have hf4 := hf3.upd HU3.out (Fresh.off hf3 fun j hj e => by omega)
    exact (hf4.upd hbx (Fresh.off hf4 fun j hj e => by omega)).mono (by omega)
  · exact hbn (by rw [← e]; exact foot_vl (tk := s.tk + 1) (lo := s.lo) HRM.out j hj)
set_option maxHeartbeats 4000000 in
theorem take_apart (h : WoV base D W p s ls cs) (hb : base ≤ W.heap.size) (k : Nat) (hk : k < ls.length) (hl : ls.length ≤ 20000) (hc5 : cs.length ≤ 5) (hm : 0 ≤ s.mask ∧ s.mask < 32) (hcnt : 0 ≤ s.lo ∧ s.lo ≤ 1000000000) (ha : apartB s.mask cs.length (ls[k]'hk).f (ls[k]'hk).t = true) :
    Calls Try.prog 14 #[.pointer (some ⟨p, 0, none⟩), .int .i64 k] W fun e w' => e = .returned (noLet 5) ∧ GoneR base D W p s (ls.take k ++ ls.drop (k + 1)) cs s.tk (s.lo + 1) w' := by
  have HBX := Lib.hid (Box3.new W (.int .i64 0) (.int .i64 0) (.slice none 0 0) 40 _ rfl)
  have hs0 := (Upd.refl (fun _ => False) W).alloc (.cells #[.int .i64 0, .int .i64 0, .slice none 0 0] 40)
  have HL := Lib.hid (away_ok (h.same hs0) (Nat.le_trans hb hs0.size) k hk hl)
  have hp := h.2.1.lt
  have hft := h.foot
  have HFT := Lib.hid hft
  have HS0 := Lib.hid hs0
  generalize ls[k]'hk = x at HL ha
  obtain ⟨f, t, xA, xn, xc, bs⟩ := x
  simp only at HL ha
  clear h hk hs0 hft
  go_enter Try.func14, Try.ntmps14
  go_wp2_with fail
  refine HL.out.mono ?_
  rintro e w1 ⟨v', vl', rfl, hf, hq, hrm, hu⟩
  obtain ⟨A2, n2, c2, rfl, -⟩ := Own.open_ hf
  unfold letV
  have hbn : ¬ wfoot D p s W.heap.size := fun e => by have := (HFT.out _ e).2; omega
  have hb4 := (HBX.out.upd hu hbn)
  have hb4' := hb4.upd ((Upd.refl (fun _ => False) _).alloc (.cells #[.int .i64 f, .int .i64 t, .slice A2 n2 c2] 40)) (fun h => h)
  have hb6 := Box3.new w1 (.int .i64 f) (.int .i64 t) (.slice A2 n2 c2) 40 _ rfl
  have hq2 := hq.same ((Upd.refl (fun _ => False) w1).alloc (.cells #[.int .i64 f, .int .i64 t, .slice A2 n2 c2] 40))
  have hap := apart_any hq2.2.1 hq2.2.2.2.1.rdr f t hc5 hm
  rw [ha] at hap
  have hz1 := hb4.lt
  have hp1 := Nat.lt_of_lt_of_le hp (Nat.le_trans HS0.out.size hu.size)
  have HAP := Lib.hid hap
  have HQ2 := Lib.hid hq2
  have HB4 := Lib.hid hb4'
  have HB6 := Lib.hid hb6
  have HRM := Lib.hid hrm
  have HU := Lib.hid hu
  have HF := Lib.hid hf
  clear hf hq hrm hu hq2 hb4 hb4' hb6 hap
  go_wp2_with fail
  refine HAP.out.mono ?_
  rintro e w2 ⟨rfl, hs2⟩
  have hq3 := HQ2.out.same hs2
  have c4 := hq3.2.1.1.2.2.2.2.2.1
  have f4 := hq3.2.1.2 5 (by decide)
  have n1 : ¬ p = W.heap.size := by omega
  have n2' : ¬ p = w1.heap.size := by omega
  have n3' : ¬ W.heap.size = w1.heap.size := by omega
  obtain ⟨r1, r2⟩ := hq3.num 5 (.int .i64 (s.lo + 1)) _ (hq3.2.1.s5 (s.lo + 1)) rfl rfl
  have HAD := Lib.hid (add_any ⟨p, 5, none⟩ s.lo 1 w2 c4 f4 ⟨hcnt.1, by omega⟩ (by decide))
  have u3 : Upd (fun j => j = p) w2 (w2.setCell ⟨p, 5, none⟩ (.int .i64 (s.lo + 1))) := (Upd.refl (fun j => j = p) w2).setCell (p := ⟨p, 5, none⟩) (fun _ => rfl) _
  obtain ⟨⟨a0, a1, a2⟩, -⟩ := (HB6.out.upd hs2 (fun h => h)).upd u3 (fun e => n2' e.symm)
  obtain ⟨⟨k0, k1, k2⟩, kf⟩ := (HB4.out.upd hs2 (fun h => h)).upd u3 (fun e => n1 e.symm)
  have hz2 := hs2.size
  simp only [World.size_alloc] at hz2
  have HS2 := Lib.hid hs2
  have HR := Lib.hid (And.intro r1 r2)
  have hp2 : p < w2.heap.size := by omega
  clear hs2 hq3 r1 r2 HB6 HB4
  go_wp2_with fail
  refine HAD.out.mono ?_
  rintro e w3 ⟨rfl, hw3⟩
  rw [← hw3] at a0 a1 a2 k0 k1 k2 kf HR u3
  have kf0 := kf 0 (by decide)
  have kf1 := kf 1 (by decide)
  have kf2 := kf 2 (by decide)
  have hz3 := u3.size
  have HU3 := Lib.hid u3
  clear kf u3 hw3
  go_wp2_with fail
  have hbx := box3_put w3 W.heap.size (.int .i64 0) (.int .i64 0) (.slice none 0 0)
  have hst : Upd (wfoot D p s) W w3 := Upd.trans (Upd.trans (Same.then HS0.out HU.out) ((Upd.refl (fun _ => False) w1).alloc (.cells #[.int .i64 f, .int .i64 t, .slice A2 n2 c2] 40) |>.trans HS2.out fun _ _ h => h) fun _ _ h => h.elim) HR.out.2 fun j _ e => foot_vl (tk := s.tk) (lo := s.lo) HRM.out j e
  refine bodyPost_ret (v := letV 0 0 (.slice none 0 0) 5) (by simp [results, Try.results14, go_sem, letV, k0, k1, k2]) rfl ⟨rfl, vl', HR.out.1.upd hbx (fun j hj e => ?_), HRM.out, Upd.trans hst hbx fun j hj e => by omega⟩
  exact hbn (by rw [← e]; exact foot_vl (tk := s.tk) (lo := s.lo + 1) HRM.out j hj)
end
end Go.Proofs.Ytppphelihimidaa
