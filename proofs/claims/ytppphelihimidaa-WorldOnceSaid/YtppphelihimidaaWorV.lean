/- The world: Take, Drop. -/
import Derived.Test.YtppphelihimidaaWorA
import Derived.Test.YtppphelihimidaaWorS
namespace Go.Proofs.Ytppphelihimidaa
open Go.RowKit
set_option linter.unusedVariables false
set_option linter.unusedSimpArgs false
attribute [local go_sem ↓] Go.wp_at_zero Go.wp_at_succ
theorem WC.s2 {W : World} {p : Nat} {s : WrS} (hc : WC W p s) (x : Int) : WC (W.setCell ⟨p, 2, none⟩ (.int .i64 x)) p { s with mask := x } := by
  obtain ⟨⟨c0, c1, c2, c3, c4, c5, c6, c7, c8, c9⟩, hf⟩ := hc
  refine ⟨⟨?_, ?_, World.cell?_setCell_same _ _ _ c2, ?_, ?_, ?_, ?_, ?_, ?_, ?_⟩, fun j hj => by rw [World.frozen?_setCell]; exact hf j hj⟩
  all_goals (rw [World.cell?_setCell_other _ _ _ _ (woff_ne p (by decide))]; assumption)
theorem WC.s4 {W : World} {p : Nat} {s : WrS} (hc : WC W p s) (x : Int) : WC (W.setCell ⟨p, 4, none⟩ (.int .i64 x)) p { s with tk := x } := by
  obtain ⟨⟨c0, c1, c2, c3, c4, c5, c6, c7, c8, c9⟩, hf⟩ := hc
  refine ⟨⟨?_, ?_, ?_, ?_, World.cell?_setCell_same _ _ _ c4, ?_, ?_, ?_, ?_, ?_⟩, fun j hj => by rw [World.frozen?_setCell]; exact hf j hj⟩
  all_goals (rw [World.cell?_setCell_other _ _ _ _ (woff_ne p (by decide))]; assumption)
theorem WC.s5 {W : World} {p : Nat} {s : WrS} (hc : WC W p s) (x : Int) : WC (W.setCell ⟨p, 5, none⟩ (.int .i64 x)) p { s with lo := x } := by
  obtain ⟨⟨c0, c1, c2, c3, c4, c5, c6, c7, c8, c9⟩, hf⟩ := hc
  refine ⟨⟨?_, ?_, ?_, ?_, ?_, World.cell?_setCell_same _ _ _ c5, ?_, ?_, ?_, ?_⟩, fun j hj => by rw [World.frozen?_setCell]; exact hf j hj⟩
  all_goals (rw [World.cell?_setCell_other _ _ _ _ (woff_ne p (by decide))]; assumption)
section
variable {base : Nat} {D : Nat → Prop} {W : World} {p : Nat} {s : WrS} {ls : List Lt} {cs : List Int}
/-- A cell of the object's own block is written. -/
theorem WoV.num (h : WoV base D W p s ls cs) (j : Nat) (u : Value) (s' : WrS) (hc : WC (W.setCell ⟨p, j, none⟩ u) p s') (h1 : s'.vl = s.vl) (h2 : s'.vc = s.vc) : WoV base D (W.setCell ⟨p, j, none⟩ u) p s' ls cs ∧ Upd (wfoot D p s) W (W.setCell ⟨p, j, none⟩ u) := by
  obtain ⟨a1, a2, a3, a4, a5, a6, a7, a8, a9, a10⟩ := h
  have hu : Upd (fun k => k = p) W (W.setCell ⟨p, j, none⟩ u) := (Upd.refl (fun k => k = p) W).setCell (p := ⟨p, j, none⟩) (fun _ => rfl) _
  refine ⟨⟨a1, hc, ?_, ?_, fun x hx => ⟨(a5 x hx).1.upd hu fun k hk e => (a10 k ((a5 x hx).2.1 k hk)).1 e, (a5 x hx).2⟩, a6.mono hu.size, by rw [h1]; exact a7, by rw [h2]; exact a8, by rw [h1, h2]; exact a9, by rw [h1, h2]; exact a10⟩, hu.mono fun k _ e => .inl e⟩
  · rw [h1]; exact Own.upd a3 hu fun k hk e => a7 (by rw [hk, e])
  · rw [h2]; exact a4.upd hu fun k hk e => a8 (by rw [hk, e])
theorem take_err (pv : Value) (k c : Int) (hc : c ≠ 0) (W : World) (hl : ∀ w', Same W w' → Calls Try.prog 17 #[pv, .int .i64 k] w' fun e w'' => e = .returned (noLet c) ∧ Same w' w'') :
    Calls Try.prog 14 #[pv, .int .i64 k] W fun e w' => e = .returned (noLet c) ∧ Same W w' := by
  have HBX := Lib.hid (Box3.new W (.int .i64 0) (.int .i64 0) (.slice none 0 0) 40 _ rfl)
  have HS0 := Lib.hid ((Upd.refl (fun _ => False) W).alloc (.cells #[.int .i64 0, .int .i64 0, .slice none 0 0] 40))
  have HL := Lib.hid (fun w' (hs : Same W w') => away_err pv k c hc w' fun w'' hs2 => hl w'' (Same.trans hs hs2))
  have hcb : (c == 0) = false := by simpa using hc
  have hcb2 : (c != 0) = true := by simpa using hc
  clear hl hc
  go_enter Try.func14, Try.ntmps14
  go_wp2_with fail
  refine (HL.out _ HS0.out).mono ?_
  rintro e w1 ⟨rfl, hs1⟩
  unfold noLet letV
  have hs2 := Same.trans HS0.out hs1
  obtain ⟨⟨k0, k1, k2⟩, kf⟩ := HBX.out.upd hs1 (fun h => h)
  have kf0 := kf 0 (by decide)
  have kf1 := kf 1 (by decide)
  have kf2 := kf 2 (by decide)
  have hz := World.block_lt_of_cell? w1 _ k0
  have HS2 := Lib.hid hs2
  clear hs1 hs2 kf
  go_wp2_with fail
  exact bodyPost_ret (v := letV 0 0 (.slice none 0 0) c) (by simp [results, Try.results14, go_sem, letV, k0, k1, k2, hz]) rfl ⟨rfl, (Same.into HS2.out (box3_put _ _ _ _ _) (fun k hk => by omega)).alloc _⟩
theorem drop_err (pv : Value) (k c : Int) (hc : c ≠ 0) (W : World) (hl : ∀ w', Same W w' → Calls Try.prog 17 #[pv, .int .i64 k] w' fun e w'' => e = .returned (noLet c) ∧ Same w' w'') :
    Calls Try.prog 16 #[pv, .int .i64 k] W fun e w' => e = .returned (.int .i64 c) ∧ Same W w' := by
  have HL := Lib.hid (away_err pv k c hc W hl)
  have hcb : (c == 0) = false := by simpa using hc
  clear hl hc
  go_enter Try.func16, Try.ntmps16
  go_wp2_with fail
  refine HL.out.mono ?_
  rintro e w1 ⟨rfl, hs1⟩
  unfold noLet letV
  have HS2 := Lib.hid hs1
  clear hs1
  go_wp2_with fail
  go_ret
  exact ⟨rfl, HS2.out.alloc _⟩
theorem double_err (pv : Value) (k c : Int) (hc : c ≠ 0) (W : World) (hl : ∀ w', Same W w' → Calls Try.prog 17 #[pv, .int .i64 k] w' fun e w'' => e = .returned (noLet c) ∧ Same w' w'') :
    Calls Try.prog 18 #[pv, .int .i64 k] W fun e w' => e = .returned (.int .i64 c) ∧ Same W w' := by
  have HL := Lib.hid (hl W (Upd.refl _ _))
  have hcb : (c == 0) = false := by simpa using hc
  have hcb2 : (c != 0) = true := by simpa using hc
  clear hl hc
  go_enter Try.func18, Try.ntmps18
  go_wp2_with fail
  refine HL.out.mono ?_
  rintro e w1 ⟨rfl, hs1⟩
  unfold noLet letV
  have HS2 := Lib.hid hs1
  clear hs1
  go_wp2_with fail
  go_ret
  exact ⟨rfl, HS2.out.alloc _⟩
end
end Go.Proofs.Ytppphelihimidaa
