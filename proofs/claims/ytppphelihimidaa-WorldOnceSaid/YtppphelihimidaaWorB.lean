/- The world's object: letters; own, put. -/
import Derived.Test.YtppphelihimidaaLetD
import Derived.Test.YtppphelihimidaaClone
import Derived.Deep.DrawnRows
namespace Go.Proofs.Ytppphelihimidaa
open Go.RowKit
set_option linter.unusedVariables false
set_option linter.unusedSimpArgs false
attribute [local go_sem ↓] Go.wp_at_zero Go.wp_at_succ
/-- What a letter says. -/
abbrev Msg := Int × Int × List UInt8
def Lt.msg (x : Lt) : Msg := (x.f, x.t, x.bs)
/-- A letter's data are there, in blocks of D. -/
def Lt.At (base : Nat) (D : Nat → Prop) (W : World) (x : Lt) : Prop := Bs W x.v x.bs ∧ (∀ k, room x.v = some k → D k) ∧ x.bs.length ≤ 65536
/-- The world's object: its cells, its letters (their data in D), its clocks. -/
def WoV (base : Nat) (D : Nat → Prop) (W : World) (p : Nat) (s : WrS) (ls : List Lt) (cs : List Int) : Prop :=
  base ≤ p ∧ WC W p s ∧ LetOwn base W s.vl ls ∧ Own base W s.vc 1 (cs.map nC) ∧ (∀ x ∈ ls, x.At base D W) ∧ Foot base D W ∧ ¬ room s.vl = some p ∧ ¬ room s.vc = some p ∧ (∀ k, room s.vl = some k → ¬ room s.vc = some k) ∧ (∀ k, D k → k ≠ p ∧ ¬ room s.vl = some k ∧ ¬ room s.vc = some k)
def wfoot (D : Nat → Prop) (p : Nat) (s : WrS) : Nat → Prop := fun k => k = p ∨ room s.vl = some k ∨ room s.vc = some k ∨ D k
section
variable {base : Nat} {D : Nat → Prop} {W W' : World} {p : Nat} {s : WrS} {ls : List Lt} {cs : List Int}
theorem WoV.upd {S : Nat → Prop} (h : WoV base D W p s ls cs) (hu : Upd S W W') (hn : ∀ k, wfoot D p s k → ¬ S k) : WoV base D W' p s ls cs := by
  obtain ⟨h1, h2, h3, h4, h5, h6, h7, h8, h9, h10⟩ := h
  exact ⟨h1, h2.upd hu (hn p (.inl rfl)), Own.upd h3 hu (fun k hk => hn k (.inr (.inl hk))), h4.upd hu (fun k hk => hn k (.inr (.inr (.inl hk)))), fun x hx => ⟨(h5 x hx).1.upd hu (fun k hk => hn k (.inr (.inr (.inr ((h5 x hx).2.1 k hk))))), (h5 x hx).2⟩, h6.mono hu.size, h7, h8, h9, h10⟩
theorem WoV.same (h : WoV base D W p s ls cs) (hs : Same W W') : WoV base D W' p s ls cs := h.upd hs fun _ _ h => h
theorem WoV.foot (h : WoV base D W p s ls cs) : Foot base (wfoot D p s) W := by
  obtain ⟨h1, h2, h3, h4, h5, h6, h7, h8, h9, h10⟩ := h
  rintro k (rfl | hk | hk | hk)
  · exact ⟨h1, h2.lt⟩
  · exact Own.ge h3 (by decide) k hk
  · exact h4.ge (by decide) k hk
  · exact h6 k hk
theorem WoV.len (h : WoV base D W p s ls cs) : ∃ A cap, s.vl = .slice A ls.length cap ∧ ls.length ≤ cap ∧ cap ≤ 9223372036854775807 := by
  obtain ⟨A, n, cap, e, h1, h2, h3⟩ := Own.open_ h.2.2.1
  rw [flat_length lC_len] at h1
  obtain rfl : ls.length = n := by omega
  exact ⟨A, cap, e, h2, h3⟩
end
/-- A box of three cells. -/
def Box3 (W : World) (B : Nat) (x y z : Value) : Prop := (W.cell? ⟨B, 0, none⟩ = some x ∧ W.cell? ⟨B, 1, none⟩ = some y ∧ W.cell? ⟨B, 2, none⟩ = some z) ∧ ∀ j, j < 3 → W.frozen? ⟨B, j, none⟩ = false
theorem Box3.new (W : World) (x y z : Value) (t : TypeId) (B : Nat) (hB : B = W.heap.size) : Box3 (W.alloc (.cells #[x, y, z] t)) B x y z := by
  subst hB
  have hn := heap_alloc_new W (.cells #[x, y, z] t)
  refine ⟨⟨?_, ?_, ?_⟩, fun j hj => ?_⟩
  all_goals first | (rw [cell_of_row _ _ _ _ t (0, 0) hn]; rfl) | (unfold World.frozen?; rw [hn]; simp)
theorem Box3.lt {W : World} {B : Nat} {x y z : Value} (h : Box3 W B x y z) : B < W.heap.size := World.block_lt_of_cell? W _ h.1.1
theorem Box3.upd {S : Nat → Prop} {W W' : World} {B : Nat} {x y z : Value} (h : Box3 W B x y z) (hu : Upd S W W') (hn : ¬ S B) : Box3 W' B x y z := by
  have hlt := h.lt
  obtain ⟨⟨c0, c1, c2⟩, hf⟩ := h
  exact ⟨⟨hu.cell c0 hn, hu.cell c1 hn, hu.cell c2 hn⟩, fun j hj => (hu.frozen (p := ⟨B, j, none⟩) hlt hn).trans (hf j hj)⟩
theorem Box3.s2 {W : World} {B : Nat} {x y z : Value} (h : Box3 W B x y z) (u : Value) : Box3 (W.setCell ⟨B, 2, none⟩ u) B x y u := by
  obtain ⟨⟨c0, c1, c2⟩, hf⟩ := h
  refine ⟨⟨?_, ?_, World.cell?_setCell_same _ _ _ c2⟩, fun j hj => by rw [World.frozen?_setCell]; exact hf j hj⟩
  all_goals (rw [World.cell?_setCell_other _ _ _ _ (woff_ne B (by decide))]; assumption)
set_option maxHeartbeats 1000000 in
theorem own_any (W : World) (f t : Int) (v : Value) (bs : List UInt8) (h : Bs W v bs) (hl : bs.length ≤ 200000000) :
    Calls Try.prog 35 #[.agg #[.int .i64 f, .int .i64 t, v]] W fun e w' => ∃ v', e = .returned (.agg #[.int .i64 f, .int .i64 t, v']) ∧ Fresh W.heap.size w' v' bs ∧ Same W w' := by
  obtain ⟨A, cap, rfl, -⟩ := id h
  have hs0 := ((Upd.refl (fun _ => False) W).alloc (.cells #[.int .i64 f, .int .i64 t, .slice A bs.length cap] 40)).alloc (.cells #[.int .i64 0, .int .i64 0, .slice none 0 0] 40)
  have HCL := Lib.hid (fun w' (hs : Same W w') => clone_bs _ bs w' (h.same hs) (by omega))
  have HS0 := Lib.hid hs0
  clear h hs0
  go_enter Try.func35, Try.ntmps35
  go_wp2_with fail
  refine (HCL.out _ HS0.out).mono ?_
  rintro e w1 ⟨v', rfl, hf, hs1⟩
  obtain ⟨A2, n2, cap2, rfl, -⟩ := Own.open_ hf
  have hb1 := ((Box3.new W (.int .i64 f) (.int .i64 t) (.slice A bs.length cap) 40 _ rfl).upd ((Upd.refl (fun _ => False) _).alloc (.cells #[.int .i64 0, .int .i64 0, .slice none 0 0] 40)) (fun h => h)).upd hs1 (fun h => h)
  have hb2 := (Box3.new (W.alloc (.cells #[.int .i64 f, .int .i64 t, .slice A bs.length cap] 40)) (.int .i64 0) (.int .i64 0) (.slice none 0 0) 40 (W.heap.size + 1) (by simp)).upd hs1 (fun h => h)
  have hs2 := Same.trans HS0.out hs1
  have HS2 := Lib.hid hs2
  have HF := Lib.hid hf
  have hz := hs1.size
  simp only [World.size_alloc] at hz
  have hne : ¬ W.heap.size + 1 = W.heap.size := by omega
  clear hs1 hs2 hf
  obtain ⟨⟨m0, m1, m2⟩, mf⟩ := hb1
  obtain ⟨⟨k0, k1, k2⟩, kf⟩ := hb2
  have mf2 := mf 2 (by decide)
  have kf0 := kf 0 (by decide)
  have kf1 := kf 1 (by decide)
  have kf2 := kf 2 (by decide)
  clear mf kf
  go_wp2_with fail
  have hu : Upd (fun k => k = W.heap.size ∨ k = W.heap.size + 1) w1 ((((w1.setCell ⟨W.heap.size, 2, none⟩ (.slice A2 n2 cap2)).setCell ⟨W.heap.size + 1, 0, none⟩ (.int .i64 f)).setCell ⟨W.heap.size + 1, 1, none⟩ (.int .i64 t)).setCell ⟨W.heap.size + 1, 2, none⟩ (.slice A2 n2 cap2)) :=
    ((((Upd.refl _ w1).setCell (p := ⟨W.heap.size, 2, none⟩) (fun _ => .inl rfl) _).setCell (p := ⟨W.heap.size + 1, 0, none⟩) (fun _ => .inr rfl) _).setCell (p := ⟨W.heap.size + 1, 1, none⟩) (fun _ => .inr rfl) _).setCell (p := ⟨W.heap.size + 1, 2, none⟩) (fun _ => .inr rfl) _
  refine bodyPost_ret (v := .agg #[.int .i64 f, .int .i64 t, .slice A2 n2 cap2]) (by simp [results, Try.results35, go_sem, k0, k1, k2]) rfl ⟨_, rfl, ?_, Same.into HS2.out hu fun k hk => by omega⟩
  have hf2 : Fresh (W.heap.size + 2) w1 (.slice A2 n2 cap2) bs := by simpa using HF.out
  exact (hf2.upd hu (Fresh.off hf2 fun k hk e => by omega)).mono (by omega)
theorem WC.s1 {W : World} {p : Nat} {s : WrS} (hc : WC W p s) (u : Value) : WC (W.setCell ⟨p, 1, none⟩ u) p { s with vl := u } := by
  obtain ⟨⟨c0, c1, c2, c3, c4, c5, c6, c7, c8, c9⟩, hf⟩ := hc
  refine ⟨⟨?_, World.cell?_setCell_same _ _ _ c1, ?_, ?_, ?_, ?_, ?_, ?_, ?_, ?_⟩, fun j hj => by rw [World.frozen?_setCell]; exact hf j hj⟩
  all_goals (rw [World.cell?_setCell_other _ _ _ _ (woff_ne p (by decide))]; assumption)
/-- The object has turned: it lies in what it lay in and in new blocks. -/
def WMore (base : Nat) (D : Nat → Prop) (W : World) (p : Nat) (s : WrS) (W' : World) (s' : WrS) (ls' : List Lt) (cs' : List Int) : Prop :=
  ∃ D', WoV base D' W' p s' ls' cs' ∧ (∀ k, wfoot D' p s' k → wfoot D p s k ∨ W.heap.size ≤ k) ∧ Upd (wfoot D p s) W W'
section
variable {base : Nat} {D : Nat → Prop} {W W1 W2 : World} {p : Nat} {s : WrS} {ls ls' : List Lt} {cs : List Int} {v' : Value}
theorem WMore.same (h : WoV base D W p s ls cs) (hs : Same W W1) : WMore base D W p s W1 s ls cs := ⟨D, h.same hs, fun k hk => .inl hk, hs.mono fun _ _ h => h.elim⟩
/-- Another row of letters takes its place; the letters' data may be new. -/
theorem WoV.rowN (h : WoV base D W p s ls cs) (N : Nat → Prop) (hN : ∀ k, N k → W.heap.size ≤ k ∧ k < W1.heap.size) (hs : Same W W1) (hf : LetOwn base W2 v' ls') (hu : Upd (fun k => room s.vl = some k) W1 W2) (hr : ∀ k, room v' = some k → room s.vl = some k ∨ W1.heap.size ≤ k)
    (hb : base ≤ W.heap.size) (hx : ∀ x ∈ ls', x ∈ ls ∨ (Fresh W.heap.size W1 x.v x.bs ∧ (∀ k, room x.v = some k → N k) ∧ x.bs.length ≤ 65536)) :
    WoV base (fun k => D k ∨ N k) (W2.setCell ⟨p, 1, none⟩ v') p { s with vl := v' } ls' cs ∧ (∀ k, wfoot (fun k => D k ∨ N k) p { s with vl := v' } k → wfoot D p s k ∨ W.heap.size ≤ k) ∧ Upd (wfoot D p s) W (W2.setCell ⟨p, 1, none⟩ v') := by
  obtain ⟨h1, h2, h3, h4, h5, h6, h7, h8, h9, h10⟩ := h
  have hp := h2.lt
  have hsz := hs.size
  have u3 : Upd (fun k => k = p) W2 (W2.setCell ⟨p, 1, none⟩ v') := (Upd.refl (fun k => k = p) W2).setCell (p := ⟨p, 1, none⟩) (fun _ => rfl) _
  have n1 : ¬ room v' = some p := fun e => by
    rcases hr p e with e | e
    · exact h7 e
    · omega
  have hD : ∀ k, (D k ∨ N k) → k ≠ p ∧ ¬ room v' = some k ∧ ¬ room s.vc = some k := by
    rintro k (hk | hk)
    · obtain ⟨a1, a2, a3⟩ := h10 k hk
      refine ⟨a1, fun e => ?_, a3⟩
      rcases hr k e with e | e
      · exact a2 e
      · have := (h6 k hk).2; omega
    · have hk := hN k hk
      refine ⟨by omega, fun e => ?_, fun e => ?_⟩
      · rcases hr k e with e | e
        · have := (Own.ge h3 (by decide) k e).2; omega
        · omega
      · have := (h4.ge (by decide) k e).2; omega
  refine ⟨⟨h1, ((h2.upd hs (fun h => h)).upd hu h7).s1 v', ?_, ?_, fun x hxx => ?_, ?_, n1, h8, fun k hk e => ?_, hD⟩, ?_, ?_⟩
  · exact Own.upd hf u3 fun k hk e => n1 (by rw [hk, e])
  · exact ((h4.same hs).upd hu (fun k hk e => h9 k e hk)).upd u3 fun k hk e => h8 (by rw [hk, e])
  · rcases hx x hxx with hx | ⟨hx, hx2, hl⟩
    · obtain ⟨a1, a2, a3⟩ := h5 x hx
      refine ⟨((a1.same hs).upd hu fun k hk e => (h10 k (a2 k hk)).2.1 e).upd u3 fun k hk e => (h10 k (a2 k hk)).1 e, fun k hk => .inl (a2 k hk), a3⟩
    · refine ⟨(hx.bs.upd hu fun k hk e => ?_).upd u3 fun k hk e => ?_, fun k hk => .inr (hx2 k hk), hl⟩
      · have := (hx.ge k hk).1; have := (Own.ge h3 (by decide) k e).2; omega
      · have := (hx.ge k hk).1; omega
  · rintro k (hk | hk)
    · have h6k := h6 k hk; have := u3.size; have := hu.size; exact ⟨h6k.1, by omega⟩
    · have hk := hN k hk; have := u3.size; have := hu.size; omega
  · rcases hr k hk with e2 | e2
    · exact h9 k e2 e
    · have := (h4.ge (by decide) k e).2; omega
  · rintro k (hk | hk | hk | hk | hk)
    · exact .inl (.inl hk)
    · rcases hr k hk with e | e
      · exact .inl (.inr (.inl e))
      · exact .inr (by omega)
    · exact .inl (.inr (.inr (.inl hk)))
    · exact .inl (.inr (.inr (.inr hk)))
    · exact .inr (hN k hk).1
  · exact Upd.trans (Same.then hs hu |>.mono fun k _ e => .inr (.inl e)) u3 fun k _ e => .inl e
theorem WoV.row (h : WoV base D W p s ls cs) (hs : Same W W1) (hf : LetOwn base W2 v' ls') (hu : Upd (fun k => room s.vl = some k) W1 W2) (hr : ∀ k, room v' = some k → room s.vl = some k ∨ W1.heap.size ≤ k)
    (hb : base ≤ W.heap.size) (hx : ∀ x ∈ ls', x ∈ ls ∨ (Fresh W.heap.size W1 x.v x.bs ∧ x.bs.length ≤ 65536)) : WMore base D W p s (W2.setCell ⟨p, 1, none⟩ v') { s with vl := v' } ls' cs :=
  ⟨_, h.rowN (fun k => W.heap.size ≤ k ∧ k < W1.heap.size) (fun k hk => hk) hs hf hu hr hb fun x hxx => (hx x hxx).imp id fun ⟨a, b⟩ => ⟨a, fun k hk => a.ge k hk, b⟩⟩
theorem put_full (h : WoV base D W p s ls cs) (f t : Int) (v : Value) (hv : ∃ A n cap, v = .slice A n cap) (hl : 10000 ≤ ls.length) :
    Calls Try.prog 32 #[.pointer (some ⟨p, 0, none⟩), .agg #[.int .i64 f, .int .i64 t, v]] W fun e w' => e = .returned (.int .i64 4) ∧ Same W w' := by
  obtain ⟨A, cap, hvl, h1, h2⟩ := h.len
  have c1 := h.2.1.1.2.1
  rw [hvl] at c1
  obtain ⟨A2, n2, cap2, rfl⟩ := hv
  have g1 : (10000 : Int) ≤ (ls.length : Int) := by omega
  have hp := h.2.1.lt
  clear h hvl
  go_enter Try.func32, Try.ntmps32
  go_wp2_with fail
  go_ret
  exact ⟨rfl, (Upd.refl _ _).alloc _⟩
set_option maxHeartbeats 1000000 in
theorem put_ok (h : WoV base D W p s ls cs) (hb : base ≤ W.heap.size) (f t : Int) (v : Value) (bs : List UInt8) (hv : Bs W v bs) (hbl : bs.length ≤ 65536) (hl : ls.length < 10000) :
    Calls Try.prog 32 #[.pointer (some ⟨p, 0, none⟩), .agg #[.int .i64 f, .int .i64 t, v]] W fun e w' => e = .returned (.int .i64 0) ∧ ∃ v' x, WMore base D W p s w' { s with vl := v' } (ls ++ [x]) cs ∧ x.msg = (f, t, bs) := by
  obtain ⟨A, cap, hvl, h1, h2⟩ := h.len
  have c1 := h.2.1.1.2.1
  have f1 := h.2.1.2 1 (by decide)
  rw [hvl] at c1
  obtain ⟨A2, cap2, rfl, -⟩ := id hv
  have g1 : ¬ (10000 : Int) ≤ (ls.length : Int) := by omega
  have hs0 := ((Upd.refl (fun _ => False) W).alloc (.cells #[.int .i64 f, .int .i64 t, .slice A2 bs.length cap2] 40))
  have HOW := Lib.hid (fun w' (hs : Same W w') => own_any w' f t _ bs (hv.same hs) (by omega))
  have HB := Lib.hid (Box3.new W (.int .i64 f) (.int .i64 t) (.slice A2 bs.length cap2) 40 _ rfl)
  have HS0 := Lib.hid hs0
  have H := Lib.hid h
  have HLL := Lib.hid hl
  have hvlO : LetOwn base W (.slice A ls.length cap) ls := by rw [← hvl]; exact h.2.2.1
  have HVO := Lib.hid hvlO
  have HNR : Hid (¬ room (.slice A ls.length cap) = some p) := Lib.hid (by rw [← hvl]; exact h.2.2.2.2.2.2.1)
  have HVL := Lib.hid hvl
  have hp := h.2.1.lt
  clear h hvl hv hs0 hl hvlO
  go_enter Try.func32, Try.ntmps32
  go_wp2_with fail
  go_region_law (first
    | (go_simp; go_at_call 35; refine (HOW.out _ HS0.out.drew).mono ?_; rintro r w4 ⟨v4, rfl, hf4, hs4⟩; obtain ⟨A4, n4, cap4, rfl, -⟩ := Own.open_ hf4; have hs5 := Same.trans HS0.out.drew hs4; have d1 := hs5.cell c1 (fun h => h); have hp4 := Nat.lt_of_lt_of_le hp hs5.size; have e1 := (hs5.frozen (p := ⟨p, 1, none⟩) hp (fun h => h)).trans f1; have HF4 := Lib.hid hf4; have HS5 := Lib.hid hs5; clear hf4 hs4 hs5)
    | (refine step_append_own rfl (.tmp 15) (.tmp 18) 57 rfl Try.underlying57 hinfo_letter rfl (by decide) (.slice A ls.length cap) _ rfl rfl (Own.same HVO.out ((HS5.out.alloc _))) (Rdr.box _ [.int .i64 f, .int .i64 t, .slice A4 n4 cap4] _ _ _ rfl 3 rfl) (by simp; exact ⟨rfl, rfl, rfl⟩) (by have := HS5.out.size; simp; omega) ls.length 1 (flat_length lC_len ls) rfl (by have := HLL.out; omega) (by have := HLL.out; omega) ?_; intro v6 w6 hf6 hu6 hr6; obtain ⟨zA, zn, zc, rfl, -⟩ := Own.open_ hf6; have HU6 := Lib.hid hu6; have m1 := hu6.cell (((Upd.refl (fun _ => False) _).alloc _).cell d1 (fun h => h)) HNR.out; have m2 := (hu6.frozen (p := ⟨p, 1, none⟩) (by simp; omega) HNR.out).trans ((((Upd.refl (fun _ => False) _).alloc _).frozen (p := ⟨p, 1, none⟩) hp4 (fun h => h)).trans e1); have HF6 := Lib.hid hf6; have HR6 := Lib.hid hr6; clear hf6 hu6 hr6))
  all_goals
    go_wp2_with fail
    go_ret
    have hfx : Fresh W.heap.size (w4.alloc (.cells #[.int .i64 f, .int .i64 t, .slice A4 n4 cap4] 40)) (.slice A4 n4 cap4) bs := (HF4.out.same ((Upd.refl _ _).alloc _)).mono (by simp)
    exact ⟨rfl, _, ⟨f, t, A4, n4, cap4, bs⟩, H.out.row (W1 := w4.alloc (.cells #[.int .i64 f, .int .i64 t, .slice A4 n4 cap4] 40)) (HS5.out.alloc _) (by unfold LetOwn; rw [List.flatMap_append]; exact HF6.out) (by rw [HVL.out]; exact HU6.out) (by rw [HVL.out]; exact HR6.out) hb (fun x hx => by
      rcases List.mem_append.1 hx with hx | hx
      · exact .inl hx
      · simp at hx; subst hx; exact .inr ⟨hfx, hbl⟩), rfl⟩
end
end Go.Proofs.Ytppphelihimidaa
