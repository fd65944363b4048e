/- A window as a whole: what it holds, as lists; its object. -/
import Derived.Test.YtjfcdinobhmmeaaWinDelW
import Derived.Test.YtjfcdinobhmmeaaWinNil
import Derived.Test.YtjfcdinobhmmeaaFoot
namespace Go.Proofs.Ytjfcdinobhmmeaa
open Go.RowKit
set_option linter.unusedVariables false
set_option linter.unusedSimpArgs false

/-- A window: the number that is expected, how many places, how many are being done; what is held; what waits to be told. -/
structure WSt where
  nx : Int
  sz : Int
  bz : Int
  ls : List (Int × Int)
  ts : List (Int × Bool)
def idC (t : Int × Bool) : Value := .int .i64 t.1
def nowC (t : Int × Bool) : Value := .bool t.2
/-- How many of those that wait to be told came now. -/
def early (ts : List (Int × Bool)) : Nat := (ts.filter (·.2)).length
theorem early_snoc (ts : List (Int × Bool)) (i : Int) (b : Bool) : early (ts ++ [(i, b)]) = early ts + (if b then 1 else 0) := by
  unfold early
  cases b <;> simp
theorem early_cons (t : Int × Bool) (ts : List (Int × Bool)) : early (t :: ts) = early ts + (if t.2 then 1 else 0) := by
  unfold early
  rcases t with ⟨i, b⟩
  cases b <;> simp
/-- The window's values. -/
structure WV where
  l : Value
  t : Value
  n : Value
/-- Its rows lie apart from it and from each other. -/
def WApart (p : Nat) (V : WV) : Prop :=
  (∀ k, room V.l = some k → k ≠ p ∧ ¬ room V.t = some k ∧ ¬ room V.n = some k) ∧ (∀ k, room V.t = some k → k ≠ p ∧ ¬ room V.n = some k) ∧ (∀ k, room V.n = some k → k ≠ p)
/-- What it may write. -/
def wfoot (p : Nat) (V : WV) : Nat → Prop := fun k => k = p ∨ room V.l = some k ∨ room V.t = some k ∨ room V.n = some k
def WinV (base : Nat) (W : World) (p : Nat) (V : WV) (s : WSt) : Prop :=
  base ≤ p ∧ WinC W p s.nx s.sz s.bz V.l V.t V.n (early s.ts) ∧ HeldOwn base W V.l s.ls ∧ Own base W V.t 1 (s.ts.map idC) ∧ Own base W V.n 1 (s.ts.map nowC) ∧ WApart p V
/-- A window's object: in block p, its rows in F. -/
def WinO (base : Nat) (F : Nat → Prop) (W : World) (p : Nat) (s : WSt) : Prop := ∃ V, WinV base W p V s ∧ (∀ k, wfoot p V k → F k) ∧ Foot base F W
theorem WinV.upd {base : Nat} {S : Nat → Prop} {W W' : World} {p : Nat} {V : WV} {s : WSt} (h : WinV base W p V s) (hu : Upd S W W') (hn : ∀ k, wfoot p V k → ¬ S k) : WinV base W' p V s :=
  ⟨h.1, h.2.1.upd hu (hn p (.inl rfl)), h.2.2.1.upd hu (fun k hk => hn k (.inr (.inl hk))), h.2.2.2.1.upd hu (fun k hk => hn k (.inr (.inr (.inl hk)))), h.2.2.2.2.1.upd hu (fun k hk => hn k (.inr (.inr (.inr hk)))), h.2.2.2.2.2⟩
theorem WinV.foot {base : Nat} {W : World} {p : Nat} {V : WV} {s : WSt} (h : WinV base W p V s) : Foot base (wfoot p V) W := by
  rintro k (rfl | hk | hk | hk)
  · exact ⟨h.1, h.2.1.lt⟩
  · exact Own.ge h.2.2.1 (by decide) k hk
  · exact h.2.2.2.1.ge (by decide) k hk
  · exact h.2.2.2.2.1.ge (by decide) k hk
theorem WinV.o {base : Nat} {W : World} {p : Nat} {V : WV} {s : WSt} (h : WinV base W p V s) : WinO base (wfoot p V) W p s := ⟨V, h, fun _ h => h, h.foot⟩
theorem WinO.upd {base : Nat} {F S : Nat → Prop} {W W' : World} {p : Nat} {s : WSt} (h : WinO base F W p s) (hu : Upd S W W') (hn : ∀ k, F k → ¬ S k) : WinO base F W' p s := by
  obtain ⟨V, h1, h2, h3⟩ := h
  exact ⟨V, h1.upd hu fun k hk => hn k (h2 k hk), h2, h3.mono hu.size⟩
theorem WinO.same {base : Nat} {F : Nat → Prop} {W W' : World} {p : Nat} {s : WSt} (h : WinO base F W p s) (hu : Same W W') : WinO base F W' p s := h.upd hu fun _ _ h => h
/-- Behind some doings of a window. -/
def WGrew (base : Nat) (F : Nat → Prop) (W : World) (p : Nat) (W' : World) (s' : WSt) : Prop := ∃ F', WinO base F' W' p s' ∧ Step F F' W W'
theorem WGrew.same {base : Nat} {F : Nat → Prop} {W W' : World} {p : Nat} {s : WSt} (h : WinO base F W p s) (hs : Same W W') : WGrew base F W p W' s := ⟨F, h.same hs, Step.same hs⟩
theorem WGrew.trans {base : Nat} {F F1 : Nat → Prop} {a b c : World} {p : Nat} {s' : WSt} (h : Step F F1 a b) (k : WGrew base F1 b p c s') : WGrew base F a p c s' := by
  obtain ⟨F', h1, h2⟩ := k
  exact ⟨F', h1, h.trans h2⟩
/-- A window of given values, behind some doings of one that lay in F. -/
theorem WGrew.mk {base : Nat} {F : Nat → Prop} {W W' : World} {p : Nat} {V' : WV} {s' : WSt} (hu : Upd F W W') (h : WinV base W' p V' s') (hb : base ≤ W.heap.size) (hr : ∀ k, wfoot p V' k → F k ∨ W.heap.size ≤ k) (hF : Foot base F W) : WGrew base F W p W' s' :=
  ⟨wfoot p V', h.o, hu, hr⟩
section
variable {base : Nat} {F : Nat → Prop} {W : World} {p : Nat} {V : WV} {s : WSt}
theorem WinC.early {nx sz bz er : Int} {vl vt vn : Value} (h : WinC W p nx sz bz vl vt vn er) (b : Int) : WinC (W.setCell ⟨p, 6, none⟩ (.int .i64 b)) p nx sz bz vl vt vn b := by
  obtain ⟨⟨c0, c1, c2, c3, c4, c5, c6⟩, hf⟩ := h
  refine ⟨⟨?_, ?_, ?_, ?_, ?_, ?_, World.cell?_setCell_same _ _ _ c6⟩, fun j hj => by rw [World.frozen?_setCell]; exact hf j hj⟩
  all_goals (rw [World.cell?_setCell_other _ _ _ _ (off_ne p (by decide))]; assumption)
theorem WinC.next {nx sz bz er : Int} {vl vt vn : Value} (h : WinC W p nx sz bz vl vt vn er) (b : Int) : WinC (W.setCell ⟨p, 0, none⟩ (.int .u32 b)) p b sz bz vl vt vn er := by
  obtain ⟨⟨c0, c1, c2, c3, c4, c5, c6⟩, hf⟩ := h
  refine ⟨⟨World.cell?_setCell_same _ _ _ c0, ?_, ?_, ?_, ?_, ?_, ?_⟩, fun j hj => by rw [World.frozen?_setCell]; exact hf j hj⟩
  all_goals (rw [World.cell?_setCell_other _ _ _ _ (off_ne p (by decide))]; assumption)
theorem WinC.vl {nx sz bz er : Int} {vl vt vn : Value} (h : WinC W p nx sz bz vl vt vn er) (b : Value) : WinC (W.setCell ⟨p, 3, none⟩ b) p nx sz bz b vt vn er := by
  obtain ⟨⟨c0, c1, c2, c3, c4, c5, c6⟩, hf⟩ := h
  refine ⟨⟨?_, ?_, ?_, World.cell?_setCell_same _ _ _ c3, ?_, ?_, ?_⟩, fun j hj => by rw [World.frozen?_setCell]; exact hf j hj⟩
  all_goals (rw [World.cell?_setCell_other _ _ _ _ (off_ne p (by decide))]; assumption)
theorem WinC.vt {nx sz bz er : Int} {vl vt vn : Value} (h : WinC W p nx sz bz vl vt vn er) (b : Value) : WinC (W.setCell ⟨p, 4, none⟩ b) p nx sz bz vl b vn er := by
  obtain ⟨⟨c0, c1, c2, c3, c4, c5, c6⟩, hf⟩ := h
  refine ⟨⟨?_, ?_, ?_, ?_, World.cell?_setCell_same _ _ _ c4, ?_, ?_⟩, fun j hj => by rw [World.frozen?_setCell]; exact hf j hj⟩
  all_goals (rw [World.cell?_setCell_other _ _ _ _ (off_ne p (by decide))]; assumption)
theorem WinC.vn {nx sz bz er : Int} {vl vt vn : Value} (h : WinC W p nx sz bz vl vt vn er) (b : Value) : WinC (W.setCell ⟨p, 5, none⟩ b) p nx sz bz vl vt b er := by
  obtain ⟨⟨c0, c1, c2, c3, c4, c5, c6⟩, hf⟩ := h
  refine ⟨⟨?_, ?_, ?_, ?_, ?_, World.cell?_setCell_same _ _ _ c5, ?_⟩, fun j hj => by rw [World.frozen?_setCell]; exact hf j hj⟩
  all_goals (rw [World.cell?_setCell_other _ _ _ _ (off_ne p (by decide))]; assumption)
/-- A number of the window's own cells was set. -/
theorem WinV.cellset {s' : WSt} {j : Nat} {u : Value} (h : WinV base W p V s) (hc : WinC (W.setCell ⟨p, j, none⟩ u) p s'.nx s'.sz s'.bz V.l V.t V.n (early s'.ts)) (hl : s'.ls = s.ls) (ht : s'.ts = s.ts) : WinV base (W.setCell ⟨p, j, none⟩ u) p V s' := by
  have hu : Upd (fun k => k = p) W (W.setCell ⟨p, j, none⟩ u) := (Upd.refl (fun k => k = p) W).setCell (p := ⟨p, j, none⟩) (fun _ => rfl) _
  obtain ⟨h1, h2, h3, h4, h5, h6⟩ := h
  refine ⟨h1, hc, ?_, ?_, ?_, h6⟩
  · rw [hl]; exact h3.upd hu fun k hk e => (h6.1 k hk).1 e
  · rw [ht]; exact h4.upd hu fun k hk e => (h6.2.1 k hk).1 e
  · rw [ht]; exact h5.upd hu fun k hk e => h6.2.2 k hk e
/-- Another row takes the place of what is held. -/
theorem WinV.setl {w1 : World} {v1 : Value} {ls' : List (Int × Int)} {S : Nat → Prop} (h : WinV base W p V s) (hb : base ≤ W.heap.size) (hf : Own base w1 v1 2 (ls'.flatMap heldC)) (hu : Upd (fun k => room V.l = some k) W w1) (hr : ∀ k, room v1 = some k → room V.l = some k ∨ W.heap.size ≤ k) :
    WGrew base (wfoot p V) W p (w1.setCell ⟨p, 3, none⟩ v1) { s with ls := ls' } := by
  have hF := h.foot
  obtain ⟨h1, h2, h3, h4, h5, h6⟩ := h
  have hp := h2.lt
  have htr := h4.ge (by decide)
  have hnr := h5.ge (by decide)
  have s1 := hu.size
  have a1 : ∀ k, room v1 = some k → k ≠ p ∧ ¬ room V.t = some k ∧ ¬ room V.n = some k := by
    intro k hk
    rcases hr k hk with e | e
    · exact h6.1 k e
    · exact ⟨by omega, fun e2 => by have := (htr k e2).2; omega, fun e2 => by have := (hnr k e2).2; omega⟩
  have u3 : Upd (fun k => k = p) w1 (w1.setCell ⟨p, 3, none⟩ v1) := (Upd.refl (fun k => k = p) w1).setCell (p := ⟨p, 3, none⟩) (fun _ => rfl) _
  refine WGrew.mk (V' := ⟨v1, V.t, V.n⟩) (Upd.trans (hu.mono fun k _ e => .inr (.inl e)) u3 fun k _ e => .inl e) ⟨h1, (h2.upd hu fun e => (h6.1 p e).1 rfl).vl v1, ?_, ?_, ?_, a1, h6.2.1, h6.2.2⟩ hb ?_ hF
  · exact Own.upd hf u3 fun k hk e => (a1 k hk).1 e
  · exact (h4.upd hu fun k hk e => (h6.1 k e).2.1 hk).upd u3 fun k hk e => (h6.2.1 k hk).1 e
  · exact (h5.upd hu fun k hk e => (h6.1 k e).2.2 hk).upd u3 fun k hk e => h6.2.2 k hk e
  · rintro k (e | e | e | e)
    · exact .inl (.inl e)
    · rcases hr k e with e | e
      · exact .inl (.inr (.inl e))
      · exact .inr e
    · exact .inl (.inr (.inr (.inl e)))
    · exact .inl (.inr (.inr (.inr e)))
/-- What put's first statement leaves. -/
def PutMid (base : Nat) (W : World) (p : Nat) (V : WV) (s : WSt) (id : Int) (b : Bool) (wx : World) : Prop :=
  ∃ V' : WV, (WinC wx p s.nx s.sz s.bz V'.l V'.t V'.n (early s.ts) ∧ HeldOwn base wx V'.l s.ls ∧ Own base wx V'.t 1 ((s.ts ++ [(id, b)]).map idC) ∧ Own base wx V'.n 1 ((s.ts ++ [(id, b)]).map nowC)) ∧ WApart p V' ∧
      Upd (wfoot p V) W wx ∧ ∀ k, wfoot p V' k → wfoot p V k ∨ W.heap.size ≤ k
/-- The two appends of put, and their stores. -/
theorem put_end {W1 w1 W2 w2 : World} {v1 v2 : Value} {id : Int} {b : Bool} (h : WinV base W p V s)
    (q1 : Own base w1 v1 1 (s.ts.map idC ++ [.int .i64 id]) ∧ Upd (fun k => room V.t = some k) W1 w1 ∧ (∀ k, room v1 = some k → room V.t = some k ∨ W1.heap.size ≤ k) ∧ Same W W1)
    (q2 : Own base w2 v2 1 (s.ts.map nowC ++ [.bool b]) ∧ Upd (fun k => room V.n = some k) W2 w2 ∧ (∀ k, room v2 = some k → room V.n = some k ∨ W2.heap.size ≤ k) ∧ Same w1 W2) :
    PutMid base W p V s id b ((w2.setCell ⟨p, 4, none⟩ v1).setCell ⟨p, 5, none⟩ v2) := by
  obtain ⟨hf1, hu1, hr1, hS1⟩ := q1
  obtain ⟨hf2, hu2, hr2, hS2⟩ := q2
  obtain ⟨h1, h2, h3, h4, h5, h6⟩ := h
  have hp := h2.lt
  have s1 := hS1.size
  have s2 := hu1.size
  have s3 := hS2.size
  have hlr := Own.ge h3 (by decide)
  have htr := h4.ge (by decide)
  have hnr := h5.ge (by decide)
  have hv1 := hf1.ge (by decide)
  -- where the new rows lie
  have a1 : ∀ k, room v1 = some k → k ≠ p ∧ ¬ room V.l = some k ∧ ¬ room V.n = some k := by
    intro k hk
    rcases hr1 k hk with e | e
    · exact ⟨(h6.2.1 k e).1, fun e2 => (h6.1 k e2).2.1 e, fun e2 => (h6.2.1 k e).2 e2⟩
    · exact ⟨by omega, fun e2 => by have := (hlr k e2).2; omega, fun e2 => by have := (hnr k e2).2; omega⟩
  have a2 : ∀ k, room v2 = some k → k ≠ p ∧ ¬ room V.l = some k ∧ ¬ room v1 = some k := by
    intro k hk
    rcases hr2 k hk with e | e
    · exact ⟨h6.2.2 k e, fun e2 => (h6.1 k e2).2.2 e, fun e2 => (a1 k e2).2.2 e⟩
    · exact ⟨by omega, fun e2 => by have := (hlr k e2).2; omega, fun e2 => by have := (hv1 k e2).2; omega⟩
  have c1 := (((h2.upd hS1 (fun h => h)).upd hu1 fun e => (h6.2.1 p e).1 rfl).upd hS2 (fun h => h)).upd hu2 fun e => h6.2.2 p e rfl
  have c2 := (c1.vt v1).vn v2
  have u45 : Upd (fun k => k = p) w2 ((w2.setCell ⟨p, 4, none⟩ v1).setCell ⟨p, 5, none⟩ v2) := ((Upd.refl (fun k => k = p) w2).setCell (p := ⟨p, 4, none⟩) (fun _ => rfl) _).setCell (p := ⟨p, 5, none⟩) (fun _ => rfl) _
  refine ⟨⟨V.l, v1, v2⟩, ⟨c2, ?_, ?_, ?_⟩, ⟨?_, ?_, ?_⟩, ?_, ?_⟩
  · exact ((((h3.upd hS1 (Off.false _)).upd hu1 fun k hk e => (h6.1 k hk).2.1 e).upd hS2 (Off.false _)).upd hu2 fun k hk e => (h6.1 k hk).2.2 e).upd u45 fun k hk e => (h6.1 k hk).1 e
  · rw [List.map_append]
    exact ((hf1.same hS2).upd hu2 fun k hk e => (a1 k hk).2.2 e).upd u45 fun k hk e => (a1 k hk).1 e
  · rw [List.map_append]
    exact hf2.upd u45 fun k hk e => (a2 k hk).1 e
  · intro k hk
    exact ⟨(h6.1 k hk).1, fun e => (a1 k e).2.1 hk, fun e => (a2 k e).2.1 hk⟩
  · intro k hk
    exact ⟨(a1 k hk).1, fun e => (a2 k e).2.2 hk⟩
  · intro k hk
    exact (a2 k hk).1
  · have q1 : Upd (wfoot p V) W w1 := Same.then hS1 (hu1.mono fun k _ e => .inr (.inr (.inl e)))
    have q2 : Upd (wfoot p V) W w2 := Upd.trans (Same.trans q1 hS2) hu2 fun k _ e => .inr (.inr (.inr e))
    exact Upd.trans q2 u45 fun k _ e => .inl e
  · rintro k (e | e | e | e)
    · exact .inl (.inl e)
    · exact .inl (.inr (.inl e))
    · rcases hr1 k e with e | e
      · exact .inl (.inr (.inr (.inl e)))
      · right; omega
    · rcases hr2 k e with e | e
      · exact .inl (.inr (.inr (.inr e)))
      · right; omega
end
end Go.Proofs.Ytjfcdinobhmmeaa
