/- The world: Look. -/
import Derived.Test.YtppphelihimidaaWorB
namespace Go.Proofs.Ytppphelihimidaa
open Go.RowKit
set_option linter.unusedVariables false
set_option linter.unusedSimpArgs false
attribute [local go_sem ↓] Go.wp_at_zero Go.wp_at_succ
/-- A letter, and a code. -/
def letV (f t : Int) (v : Value) (c : Int) : Value := .tuple #[.agg #[.int .i64 f, .int .i64 t, v], .int .i64 c]
/-- No letter, and a code. -/
def noLet (c : Int) : Value := letV 0 0 (.slice none 0 0) c
/-- Three cells of a box of the call's own are written. -/
theorem box3_put (W : World) (B : Nat) (u0 u1 u2 : Value) : Upd (fun k => k = B) W (((W.setCell ⟨B, 0, none⟩ u0).setCell ⟨B, 1, none⟩ u1).setCell ⟨B, 2, none⟩ u2) :=
  (((Upd.refl (fun k => k = B) W).setCell (p := ⟨B, 0, none⟩) (fun _ => rfl) _).setCell (p := ⟨B, 1, none⟩) (fun _ => rfl) _).setCell (p := ⟨B, 2, none⟩) (fun _ => rfl) _
section
variable {base : Nat} {D : Nat → Prop} {W : World} {p : Nat} {s : WrS} {ls : List Lt} {cs : List Int}
/-- Where letter k lies. -/
theorem WoV.at_ (h : WoV base D W p s ls cs) (k : Nat) (hk : k < ls.length) : ∃ b off cap, s.vl = .slice (some ⟨b, off, none⟩) ls.length cap ∧ W.cell? ⟨b, off + k * 3, none⟩ = some (.int .i64 (ls[k]'hk).f) ∧ W.cell? ⟨b, off + k * 3 + 1, none⟩ = some (.int .i64 (ls[k]'hk).t) ∧ W.cell? ⟨b, off + k * 3 + 2, none⟩ = some (ls[k]'hk).v := by
  obtain ⟨A, cap, e, -⟩ := h.len
  have hr := Own.rdr h.2.2.1
  rw [e] at hr
  obtain ⟨b, off, rfl, hc⟩ := Rdr.elem lC_len (by decide) hr k hk
  exact ⟨b, off, cap, e, hc 0 _ (by decide) rfl, hc 1 _ (by decide) rfl, hc 2 _ (by decide) rfl⟩
theorem look_nil (k : Int) (w : World) : Calls Try.prog 17 #[.pointer none, .int .i64 k] w fun e w' => e = .returned (noLet 2) ∧ Same w w' := by
  go_enter Try.func17, Try.ntmps17
  go_wp2_with fail
  exact bodyPost_ret (v := noLet 2) (by simp [results, Try.results17, go_sem, noLet, letV]) rfl ⟨rfl, (Upd.refl _ _).alloc _⟩
theorem look_out (h : WoV base D W p s ls cs) (k : Int) (hk : k < 0 ∨ (ls.length : Int) ≤ k) : Calls Try.prog 17 #[.pointer (some ⟨p, 0, none⟩), .int .i64 k] W fun e w' => e = .returned (noLet 1) ∧ Same W w' := by
  obtain ⟨A, cap, hvl, h1, h2⟩ := h.len
  have c1 := h.2.1.1.2.1
  have hp := h.2.1.lt
  rw [hvl] at c1
  clear h hvl
  by_cases h0 : k < 0
  · go_enter Try.func17, Try.ntmps17
    go_wp2_with fail
    exact bodyPost_ret (v := noLet 1) (by simp [results, Try.results17, go_sem, noLet, letV]) rfl ⟨rfl, (Upd.refl _ _).alloc _⟩
  · have g1 : (ls.length : Int) ≤ k := by omega
    go_enter Try.func17, Try.ntmps17
    go_wp2_with fail
    exact bodyPost_ret (v := noLet 1) (by simp [results, Try.results17, go_sem, noLet, letV]) rfl ⟨rfl, (Upd.refl _ _).alloc _⟩
set_option maxHeartbeats 1000000 in
theorem look_ok (h : WoV base D W p s ls cs) (k : Nat) (hk : k < ls.length) (hl : ls.length ≤ 20000) : Calls Try.prog 17 #[.pointer (some ⟨p, 0, none⟩), .int .i64 k] W fun e w' => ∃ v', e = .returned (letV (ls[k]'hk).f (ls[k]'hk).t v' 0) ∧ Fresh W.heap.size w' v' (ls[k]'hk).bs ∧ Same W w' := by
  obtain ⟨b, off, cap, hvl, x0, x1, x2⟩ := h.at_ k hk
  obtain ⟨hbs, -, hbl⟩ := h.2.2.2.2.1 _ (List.getElem_mem hk)
  have c1 := h.2.1.1.2.1
  have hp := h.2.1.lt
  rw [hvl] at c1
  have hb := World.block_lt_of_cell? W _ x0
  have hs0 := (Upd.refl (fun _ => False) W).alloc (.cells #[.int .i64 0, .int .i64 0, .slice none 0 0] 40)
  have hbx := Box3.new W (.int .i64 0) (.int .i64 0) (.slice none 0 0) 40 _ rfl
  generalize ls[k]'hk = x at x0 x1 x2 hbs hbl ⊢
  obtain ⟨f, t, A, n, cap2, bs⟩ := x
  simp only [Lt.v] at x0 x1 x2 hbs hbl ⊢
  have HOW := Lib.hid (fun w' (hs : Same W w') => own_any w' f t _ bs (hbs.same hs) (by omega))
  have HS0 := Lib.hid hs0
  have HBX := Lib.hid hbx
  have g1 : (k : Int) < (ls.length : Int) := by omega
  clear h hvl hbs hbl hs0 hbx
  go_enter Try.func17, Try.ntmps17
  go_wp2_with fail
  refine (HOW.out _ HS0.out).mono ?_
  rintro e w1 ⟨v', rfl, hf, hs1⟩
  obtain ⟨A2, n2, c2, rfl, -⟩ := Own.open_ hf
  obtain ⟨⟨k0, k1, k2⟩, kf⟩ := HBX.out.upd hs1 (fun h => h)
  have kf0 := kf 0 (by decide)
  have kf1 := kf 1 (by decide)
  have kf2 := kf 2 (by decide)
  have HS1 := Lib.hid (Same.trans HS0.out hs1)
  have HF := Lib.hid hf
  clear hs1 hf kf
  go_wp2_with fail
  have hu := box3_put w1 W.heap.size (.int .i64 f) (.int .i64 t) (.slice A2 n2 c2)
  refine bodyPost_ret (v := letV f t (.slice A2 n2 c2) 0) (by simp [results, Try.results17, go_sem, letV, k0, k1, k2]) rfl ⟨_, rfl, ?_, Same.into HS1.out hu fun k hk => by omega⟩
  have hf2 : Fresh (W.heap.size + 1) w1 (.slice A2 n2 c2) bs := by simpa using HF.out
  exact (hf2.upd hu (Fresh.off hf2 fun k hk e => by omega)).mono (by omega)
end
end Go.Proofs.Ytppphelihimidaa
