/- The world: away, Take, Drop, Double, Send. -/
import Derived.Test.YtppphelihimidaaWorQ
namespace Go.Proofs.Ytppphelihimidaa
open Go.RowKit
set_option linter.unusedVariables false
set_option linter.unusedSimpArgs false
attribute [local go_sem ↓] Go.wp_at_zero Go.wp_at_succ
theorem WoV.congr {base : Nat} {D D' : Nat → Prop} {W : World} {p : Nat} {s : WrS} {ls : List Lt} {cs : List Int} (h : WoV base D W p s ls cs) (e : ∀ k, D k ↔ D' k) : WoV base D' W p s ls cs := by
  have : D = D' := funext fun k => propext (e k)
  rw [← this]
  exact h
theorem away_err (pv : Value) (k c : Int) (hc : c ≠ 0) (W : World) (hl : ∀ w', Same W w' → Calls Try.prog 17 #[pv, .int .i64 k] w' fun e w'' => e = .returned (noLet c) ∧ Same w' w'') :
    Calls Try.prog 33 #[pv, .int .i64 k] W fun e w' => e = .returned (noLet c) ∧ Same W w' := by
  have HBX := Lib.hid (Box3.new W (.int .i64 0) (.int .i64 0) (.slice none 0 0) 40 _ rfl)
  have HS0 := Lib.hid ((Upd.refl (fun _ => False) W).alloc (.cells #[.int .i64 0, .int .i64 0, .slice none 0 0] 40))
  have HL := Lib.hid hl
  have hcb : (c == 0) = false := by simpa using hc
  clear hl hc
  go_enter Try.func33, Try.ntmps33
  go_wp2_with fail
  refine (HL.out _ HS0.out).mono ?_
  rintro e w1 ⟨rfl, hs1⟩
  unfold noLet letV
  have hs2 := Same.trans HS0.out hs1
  obtain ⟨⟨k0, k1, k2⟩, kf⟩ := HBX.out.upd hs1 (fun h => h)
  have kf0 := kf 0 (by decide)
  have kf1 := kf 1 (by decide)
  have kf2 := kf 2 (by decide)
  have hz := World.block_lt_of_cell? w1 _ k0
  have HS2 := Lib.hid hs2
  clear hs1 hs2 kf
  go_wp2_with fail
  exact bodyPost_ret (v := letV 0 0 (.slice none 0 0) c) (by simp [results, Try.results33, go_sem, letV, k0, k1, k2, hz]) rfl ⟨rfl, (Same.into HS2.out (box3_put _ _ _ _ _) (fun k hk => by omega)).alloc _⟩
section
variable {base : Nat} {D : Nat → Prop} {W : World} {p : Nat} {s : WrS} {ls : List Lt} {cs : List Int}
/-- One is on its way no more. -/
def AwayR (base : Nat) (D : Nat → Prop) (W : World) (p : Nat) (s : WrS) (ls : List Lt) (cs : List Int) (x : Lt) (k : Nat) (e : Ending) (w' : World) : Prop :=
  ∃ v' vl', e = .returned (letV x.f x.t v' 0) ∧ Fresh W.heap.size w' v' x.bs ∧ WoV base D w' p { s with vl := vl' } (ls.take k ++ ls.drop (k + 1)) cs ∧ room vl' = room s.vl ∧ Upd (wfoot D p s) W w'
set_option maxHeartbeats 2000000 in
theorem away_ok (h : WoV base D W p s ls cs) (hb : base ≤ W.heap.size) (k : Nat) (hk : k < ls.length) (hl : ls.length ≤ 20000) :
    Calls Try.prog 33 #[.pointer (some ⟨p, 0, none⟩), .int .i64 k] W (AwayR base D W p s ls cs (ls[k]'hk) k) := by
  have HBX := Lib.hid (Box3.new W (.int .i64 0) (.int .i64 0) (.slice none 0 0) 40 _ rfl)
  have HS0 := Lib.hid ((Upd.refl (fun _ => False) W).alloc (.cells #[.int .i64 0, .int .i64 0, .slice none 0 0] 40))
  have HL := Lib.hid (fun w' (hs : Same W w') => look_ok (h.same hs) k hk hl)
  have HDL := Lib.hid (fun w' (hs : Same W w') => by have q := ldelete_any s.vl k ls w' (Own.same h.2.2.1 hs) (Nat.le_trans hb hs.size) hk hl; rw [show ((k + 1 : Nat) : Int) = (k : Int) + 1 by omega] at q; exact q)
  obtain ⟨A, cap, hvl, hlc, hcm⟩ := h.len
  have c1 := h.2.1.1.2.1
  rw [hvl] at c1 HDL
  have f1 := h.2.1.2 1 (by decide)
  have hp := h.2.1.lt
  have HNR : Hid (¬ room (.slice A ls.length cap) = some p) := Lib.hid (by rw [← hvl]; exact h.2.2.2.2.2.2.1)
  have HGE : Hid (∀ j, room (.slice A ls.length cap) = some j → j < W.heap.size) := Lib.hid (by rw [← hvl]; exact fun j hj => (Own.ge h.2.2.1 (by decide) j hj).2)
  have H := Lib.hid h
  have HVL := Lib.hid hvl
  have HK := Lib.hid hk
  have hkl : (k : Int) ≤ 20000 := by omega
  generalize ls[k]'hk = x at HL ⊢
  obtain ⟨f, t, xA, xn, xc, bs⟩ := x
  simp only at HL
  clear h hk hvl
  go_enter Try.func33, Try.ntmps33
  go_wp2_with fail
  refine (HL.out _ HS0.out).mono ?_
  rintro e w1 ⟨v', rfl, hf, hs1⟩
  obtain ⟨A2, n2, c2, rfl, -⟩ := Own.open_ hf
  unfold letV
  have hs2 := Same.trans HS0.out hs1
  have b4 := HBX.out.upd hs1 (fun h => h)
  have d1 := hs2.cell c1 (fun h => h)
  have e1 := (hs2.frozen (p := ⟨p, 1, none⟩) hp (fun h => h)).trans f1
  have hp1 := Nat.lt_of_lt_of_le hp hs2.size
  have hz1 := b4.lt
  have HB4 := Lib.hid b4
  have HS2 := Lib.hid hs2
  have HF := Lib.hid hf
  clear hs1 hs2 hf b4
  go_wp2_with fail
  refine (HDL.out _ (HS2.out.alloc _)).mono ?_
  rintro e w3 ⟨v3, rfl, hl3, hu3, hr3⟩
  obtain ⟨A3, n3, c3, rfl, -⟩ := Own.open_ hl3
  have hb6 := (Box3.new w1 (.int .i64 f) (.int .i64 t) (.slice A2 n2 c2) 40 _ rfl).upd hu3 (fun e => by have := HGE.out _ e; have := HS2.out.size; omega)
  have hb4 := (HB4.out.upd ((Upd.refl (fun _ => False) _).alloc (.cells #[.int .i64 f, .int .i64 t, .slice A2 n2 c2] 40)) (fun h => h)).upd hu3 (fun e => by have := HGE.out _ e; omega)
  have m1 := hu3.cell (((Upd.refl (fun _ => False) _).alloc (.cells #[.int .i64 f, .int .i64 t, .slice A2 n2 c2] 40)).cell d1 (fun h => h)) HNR.out
  have m2 := (hu3.frozen (p := ⟨p, 1, none⟩) (by simp; omega) HNR.out).trans ((((Upd.refl (fun _ => False) _).alloc (.cells #[.int .i64 f, .int .i64 t, .slice A2 n2 c2] 40)).frozen (p := ⟨p, 1, none⟩) hp1 (fun h => h)).trans e1)
  have HL3 := Lib.hid hl3
  have HU3 := Lib.hid hu3
  have HR3 := Lib.hid hr3
  have n1 : ¬ p = W.heap.size := by omega
  have n2' : ¬ p = w1.heap.size := by omega
  have n3' : ¬ W.heap.size = w1.heap.size := by omega
  obtain ⟨⟨a0, a1, a2⟩, -⟩ := hb6
  obtain ⟨⟨k0, k1, k2⟩, kf⟩ := hb4
  have kf0 := kf 0 (by decide)
  have kf1 := kf 1 (by decide)
  have kf2 := kf 2 (by decide)
  clear hl3 hu3 hr3 kf
  go_wp2_with fail
  obtain ⟨r1, r2, r3⟩ := H.out.rowN (fun _ => False) (fun k hk => hk.elim) (W1 := w1.alloc (.cells #[.int .i64 f, .int .i64 t, .slice A2 n2 c2] 40)) (HS2.out.alloc _) HL3.out (by rw [HVL.out]; exact HU3.out) (fun j hj => .inl (by rw [HVL.out, ← HR3.out]; exact hj)) hb
    (fun x hx => .inl ((List.mem_append.1 hx).elim List.mem_of_mem_take List.mem_of_mem_drop))
  have hq := r1.congr (D' := D) (fun k => by simp)
  have hbx := box3_put (w3.setCell ⟨p, 1, none⟩ (.slice A3 n3 c3)) W.heap.size (.int .i64 f) (.int .i64 t) (.slice A2 n2 c2)
  refine bodyPost_ret (v := letV f t (.slice A2 n2 c2) 0) (by simp [results, Try.results33, go_sem, letV, k0, k1, k2, n1]) rfl ⟨_, _, rfl, ?_, hq.upd hbx (fun j hj e => ?_), by rw [HVL.out]; exact HR3.out, Upd.trans r3 hbx fun j hj e => by omega⟩
  · have hf2 : Fresh (W.heap.size + 1) w1 (.slice A2 n2 c2) bs := by simpa using HF.out
    have hf3 := ((hf2.same ((Upd.refl (fun _ => False) _).alloc (.cells #[.int .i64 f, .int .i64 t, .slice A2 n2 c2] 40))).upd HU3.out (Fresh.off hf2 fun j hj e => by have := HGE.out _ e; omega))
    have hf4 := hf3.upd ((Upd.refl (fun j => j = p) w3).setCell (p := ⟨p, 1, none⟩) (fun _ => rfl) (.slice A3 n3 c3)) (Fresh.off hf3 fun j hj e => by omega)
    exact (hf4.upd hbx (Fresh.off hf4 fun j hj e => by omega)).mono (by omega)
  · rcases hj with hj | hj | hj | hj
    · omega
    · have hj2 : room (.slice A3 n3 c3) = some j := hj
      rw [HR3.out] at hj2
      have := HGE.out _ hj2
      omega
    · have := (H.out.2.2.2.1.ge (by decide) j hj).2; omega
    · have := (H.out.2.2.2.2.2.1 j hj).2; omega
end
end Go.Proofs.Ytppphelihimidaa
