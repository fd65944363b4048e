/- Letters (chapter 17): a reader as an object; New, Feed, Set, Left, Dead of the program's and of the reference's. -/
import Derived.Test.YtfafepmghcobdaaPduX
namespace Go.Proofs.Ytfafepmghcobdaa
open Go.RowKit
set_option linter.unusedVariables false
set_option linter.unusedSimpArgs false
set_option maxRecDepth 20000
set_option maxHeartbeats 4000000
/-- A reader at block b whose row is v. -/
def RdV (base : Nat) (w : World) (b : Nat) (v : Value) (r : Rd1) : Prop := base ≤ b ∧ RdAt w b r.o v r.dead ∧ FzAt w b ∧ Fresh base w v r.b ∧ ¬ room v = some b
def rft (b : Nat) (v : Value) : Nat → Prop := fun k => k = b ∨ room v = some k
theorem RdV.lt {base : Nat} {w : World} {b : Nat} {v : Value} {r : Rd1} (h : RdV base w b v r) : b < w.heap.size := World.block_lt_of_cell? w _ (h.2.1 0 _ rfl)
theorem RdV.foot {base : Nat} {w : World} {b : Nat} {v : Value} {r : Rd1} (h : RdV base w b v r) : ∀ k, rft b v k → base ≤ k ∧ k < w.heap.size := by
  rintro k (rfl | hk)
  · exact ⟨h.1, h.lt⟩
  · exact h.2.2.2.1.ge k hk
theorem RdV.upd {base : Nat} {S : Nat → Prop} {w w' : World} {b : Nat} {v : Value} {r : Rd1} (h : RdV base w b v r) (hu : Upd S w w') (hn : ∀ k, rft b v k → ¬ S k) : RdV base w' b v r :=
  ⟨h.1, fun j u hj => hu.cell (h.2.1 j u hj) (hn b (.inl rfl)), h.2.2.1.upd hu h.lt (hn b (.inl rfl)), h.2.2.2.1.upd hu (fun k hk => hn k (.inr hk)), h.2.2.2.2⟩
theorem RdV.same {base : Nat} {w w' : World} {b : Nat} {v : Value} {r : Rd1} (h : RdV base w b v r) (hs : Same w w') : RdV base w' b v r := h.upd hs (fun _ _ h => h)
/-- What a reader has become; what of it was written. -/
def RdG (base : Nat) (w : World) (b : Nat) (v : Value) (w' : World) (r' : Rd1) : Prop := ∃ v', RdV base w' b v' r' ∧ Upd (rft b v) w w' ∧ ∀ k, room v' = some k → room v = some k ∨ w.heap.size ≤ k
theorem RdG.stay {base : Nat} {w w' : World} {b : Nat} {v : Value} {r : Rd1} (h : RdV base w b v r) (hs : Same w w') : RdG base w b v w' r := ⟨v, h.same hs, hs.mono fun _ _ h => h.elim, fun k hk => .inl hk⟩
theorem RdAt.set3 {w : World} {b : Nat} {o : Ag} {v : Value} {dead : Bool} (h : RdAt w b o v dead) (u : Value) : RdAt (w.setCell ⟨b, 3, none⟩ u) b o u dead := by
  intro j x hj
  by_cases e : j = 3
  · subst e
    injection hj with hj
    subst hj
    exact World.cell?_setCell_same _ _ _ (h 3 _ rfl)
  · rw [World.cell?_setCell_other _ _ _ _ (by intro h; injection h with _ h; omega)]
    refine h j x ?_
    match j, e, hj with
    | 0, _, hj => exact hj
    | 1, _, hj => exact hj
    | 2, _, hj => exact hj
    | 4, _, hj => exact hj
    | j + 5, _, hj => simp [RdC] at hj
theorem RdAt.set4 {w : World} {b : Nat} {o : Ag} {v : Value} {dead : Bool} (h : RdAt w b o v dead) (d : Bool) : RdAt (w.setCell ⟨b, 4, none⟩ (.bool d)) b o v d := by
  intro j x hj
  by_cases e : j = 4
  · subst e
    injection hj with hj
    subst hj
    exact World.cell?_setCell_same _ _ _ (h 4 _ rfl)
  · rw [World.cell?_setCell_other _ _ _ _ (by intro h; injection h with _ h; omega)]
    refine h j x ?_
    match j, e, hj with
    | 0, _, hj => exact hj
    | 1, _, hj => exact hj
    | 2, _, hj => exact hj
    | 3, _, hj => exact hj
    | j + 5, _, hj => simp [RdC] at hj
theorem RdAt.setO {w : World} {b : Nat} {o : Ag} {v : Value} {dead : Bool} (h : RdAt w b o v dead) (o' : Ag) : RdAt (((w.setCell ⟨b, 0, none⟩ (.bool o'.hs)).setCell ⟨b, 1, none⟩ (.bool o'.ds)).setCell ⟨b, 2, none⟩ (.int .i64 o'.most)) b o' v dead := by
  have ne : ∀ (W : World) (i j : Nat) (u : Value), j ≠ i → (W.setCell ⟨b, i, none⟩ u).cell? ⟨b, j, none⟩ = W.cell? ⟨b, j, none⟩ := fun W i j u hne => World.cell?_setCell_other _ _ _ _ (by intro h; injection h with _ h; omega)
  intro j x hj
  match j, hj with
  | 0, hj =>
    injection hj with hj
    subst hj
    rw [ne _ 2 0 _ (by decide), ne _ 1 0 _ (by decide)]
    exact World.cell?_setCell_same _ _ _ (h 0 _ rfl)
  | 1, hj =>
    injection hj with hj
    subst hj
    rw [ne _ 2 1 _ (by decide)]
    exact World.cell?_setCell_same _ _ _ ((ne _ 0 1 _ (by decide)).trans (h 1 _ rfl))
  | 2, hj =>
    injection hj with hj
    subst hj
    exact World.cell?_setCell_same _ _ _ ((ne _ 1 2 _ (by decide)).trans ((ne _ 0 2 _ (by decide)).trans (h 2 _ rfl)))
  | 3, hj => rw [ne _ 2 3 _ (by decide), ne _ 1 3 _ (by decide), ne _ 0 3 _ (by decide)]; exact h 3 x hj
  | 4, hj => rw [ne _ 2 4 _ (by decide), ne _ 1 4 _ (by decide), ne _ 0 4 _ (by decide)]; exact h 4 x hj
  | j + 5, hj => simp [RdC] at hj
theorem FzAt.set {w : World} {b : Nat} {a : Addr} {u : Value} (h : FzAt w b) : FzAt (w.setCell a u) b := fun j => by rw [World.frozen?_setCell]; exact h j
/-- Another row. -/
theorem RdV.row {base : Nat} {w : World} {b : Nat} {v u : Value} {r : Rd1} {bs : List UInt8} (h : RdV base w b v r) (hf : Fresh base w u bs) (hne : ¬ room u = some b) : RdV base (w.setCell ⟨b, 3, none⟩ u) b u { r with b := bs } :=
  ⟨h.1, h.2.1.set3 u, h.2.2.1.set, hf.upd ((Upd.refl (fun k => k = b) w).setCell (p := ⟨b, 3, none⟩) (fun _ => rfl) _) (fun k hk e => hne (by rw [hk, e])), hne⟩
theorem RdV.dies {base : Nat} {w : World} {b : Nat} {v : Value} {r : Rd1} (h : RdV base w b v r) : RdV base ((w.setCell ⟨b, 3, none⟩ (.slice none 0 0)).setCell ⟨b, 4, none⟩ (.bool true)) b (.slice none 0 0) r.die :=
  ⟨h.1, (h.2.1.set3 _).set4 true, h.2.2.1.set.set, Fresh.nil _ _, by simp [room]⟩
theorem RdG.dies {base : Nat} {w : World} {b : Nat} {v : Value} {r : Rd1} (h : RdV base w b v r) : RdG base w b v ((w.setCell ⟨b, 3, none⟩ (.slice none 0 0)).setCell ⟨b, 4, none⟩ (.bool true)) r.die :=
  ⟨_, h.dies, ((Upd.refl (rft b v) w).setCell (p := ⟨b, 3, none⟩) (fun _ => .inl rfl) _).setCell (p := ⟨b, 4, none⟩) (fun _ => .inl rfl) _, fun k hk => by simp [room] at hk⟩
theorem Fresh.len' {base : Nat} {w : World} {A : Option Addr} {n cap : Nat} {xs : List UInt8} (h : Fresh base w (.slice A n cap) xs) : n = xs.length := by
  obtain ⟨_, _, _, e, h1, _⟩ := h
  injection e with _ e2 _
  subst e2
  simpa using h1.symm
/-- Behind an append to its row: the reader as it was, and as it is once the row is stored. -/
theorem RdG.fed {base : Nat} {w w2 : World} {b : Nat} {v u : Value} {r : Rd1} {bs : List UInt8} (h : RdV base w b v r) (hz : b < w.heap.size) (hf : Fresh base w2 u bs) (hu : Upd (fun k => room v = some k) w w2) (hr : ∀ k, room u = some k → room v = some k ∨ w.heap.size ≤ k) :
    (base ≤ b ∧ RdAt w2 b r.o v r.dead ∧ FzAt w2 b) ∧ RdG base w b v (w2.setCell ⟨b, 3, none⟩ u) { r with b := bs } := by
  have hne : ¬ room u = some b := fun e => (hr b e).elim h.2.2.2.2 (fun e => by omega)
  have h1 : RdAt w2 b r.o v r.dead := fun j x hj => hu.cell (h.2.1 j x hj) h.2.2.2.2
  have h2 : FzAt w2 b := h.2.2.1.upd hu h.lt h.2.2.2.2
  refine ⟨⟨h.1, h1, h2⟩, u, ⟨h.1, h1.set3 u, h2.set, hf.upd ((Upd.refl (fun k => k = b) w2).setCell (p := ⟨b, 3, none⟩) (fun _ => rfl) _) (fun k hk e => hne (by rw [hk, e])), hne⟩, ?_, hr⟩
  exact (hu.mono (fun k _ hk => .inr hk)).setCell (p := ⟨b, 3, none⟩) (fun _ => .inl rfl) _
theorem die_any {base : Nat} {w : World} {b : Nat} {v : Value} {r : Rd1} (h : RdV base w b v r) (why : Int) : Calls Try.prog 38 #[.pointer (some ⟨b, 0, none⟩), .int .i64 why] w fun e w' => e = .returned (.int .i64 why) ∧ RdG base w b v w' r.die := by
  have c3 := h.2.1 3 _ rfl
  have c4 := h.2.1 4 _ rfl
  have fz := h.2.2.1
  unfold FzAt at fz
  have HG := Lib.hid (RdG.dies h)
  clear h
  go_enter Try.func38, Try.ntmps38
  go_wp2_with fail
  go_ret
  exact ⟨rfl, HG.out⟩
def Rd1.feedE (r : Rd1) (n : Nat) : Int := if r.dead then 21 else if 131072 < r.b.length + n then 4 else 0
def Rd1.feed (r : Rd1) (bs : List UInt8) : Rd1 := if r.dead then r else if 131072 < r.b.length + bs.length then r.die else { r with b := r.b ++ bs }
theorem feed_any {base : Nat} {w : World} {b : Nat} {v : Value} {r : Rd1} (h : RdV base w b v r) (hbase : base ≤ w.heap.size) (hr : r.b.length ≤ 131072) (A : Option Addr) (n cap : Nat) (bs : List UInt8) (hb : Bs w (.slice A n cap) bs) (hbl : bs.length ≤ 200000000000000) :
    Calls Try.prog 15 #[.pointer (some ⟨b, 0, none⟩), .slice A n cap] w fun e w' => e = .returned (.int .i64 (r.feedE bs.length)) ∧ RdG base w b v w' (r.feed bs) := by
  have hn : n = bs.length := by
    obtain ⟨_, _, e, _⟩ := id hb
    injection e
  subst hn
  obtain ⟨A1, n1, cp1, rfl⟩ := Fresh.shape h.2.2.2.1
  have hn1 := h.2.2.2.1.len'
  subst hn1
  have hst := state_any b r.o _ r.dead w h.2.1
  have HST := Lib.hid hst
  have c3 := h.2.1 3 _ rfl
  have fz := h.2.2.1
  unfold FzAt at fz
  have HV := Lib.hid h
  have HB := Lib.hid hb
  unfold Rd1.feedE Rd1.feed
  have hz := h.lt
  by_cases hd : r.dead = true
  · have hst := HST.out
    rw [hd] at hst ⊢
    have HST := Lib.hid hst
    clear hst hd h hb
    simp only [if_true]
    go_enter Try.func15, Try.ntmps15
    go_wp2_with fail
    refine HST.out.mono ?_
    rintro e w1 ⟨rfl, rfl⟩
    go_wp2_with fail
    go_ret
    exact ⟨rfl, RdG.stay HV.out (Upd.refl _ _)⟩
  · rw [Bool.not_eq_true] at hd
    have hst := HST.out
    rw [hd] at hst
    simp only [hd, Bool.false_eq_true, if_false] at hst ⊢
    have HST := Lib.hid hst
    have HD := Lib.hid hd
    clear hst hd h hb
    by_cases hl : 131072 < r.b.length + bs.length
    · rw [if_pos hl, if_pos hl]
      have HX := Lib.hid (die_any HV.out 4)
      have hl2 : (131072 : Int) - r.b.length < bs.length := by omega
      go_enter Try.func15, Try.ntmps15
      go_wp2_with fail
      refine HST.out.mono ?_
      rintro e w1 ⟨rfl, rfl⟩
      go_wp2_with fail
      refine HX.out.mono ?_
      rintro e w1 ⟨rfl, hg⟩
      have HG := Lib.hid hg
      clear hg
      go_wp2_with fail
      go_ret
      exact ⟨rfl, HG.out⟩
    · rw [if_neg hl, if_neg hl]
      have hl2 : ¬ (131072 : Int) - r.b.length < bs.length := by omega
      go_enter Try.func15, Try.ntmps15
      go_wp2_with fail
      refine HST.out.mono ?_
      rintro e w1 ⟨rfl, rfl⟩
      go_wp2_with (at_builtin; refine wpl_append_bytes rfl (.tmp 26) (.tmp 27) 33 rfl Try.underlying33 li5 base (.slice A1 r.b.length cp1) (.slice A bs.length cap) r.b bs (r.b ++ bs) rfl rfl rfl HV.out.2.2.2.1 HB.out hbase (by omega) ?_; intro v2 w2 hf2 hu2 hr2; obtain ⟨A2, n2, cp2, rfl⟩ := Fresh.shape hf2; have hg := RdG.fed HV.out hz hf2 hu2 hr2; have c3 := (hg.1).2.1 3 _ rfl; have fz := hg.1.2.2; unfold FzAt at fz; have HG := Lib.hid hg.2; clear hg hf2 hu2 hr2)
      go_ret
      exact ⟨rfl, by have hg := HG.out; rw [HD.out] at hg; exact hg⟩
theorem set_any {base : Nat} {w : World} {b : Nat} {v : Value} {r : Rd1} (h : RdV base w b v r) (o : Ag) :
    Calls Try.prog 28 #[.pointer (some ⟨b, 0, none⟩), agA o] w fun e w' => e = .returned (.int .i64 (if r.dead then 21 else if o.right then 0 else 1)) ∧ RdG base w b v w' (if r.dead then r else if o.right then { r with o := o } else r) := by
  have hst := state_any b r.o _ r.dead w h.2.1
  have HST := Lib.hid hst
  have HR := Lib.hid (fun W => right_any o W)
  have HV := Lib.hid h
  have hz := h.lt
  have hst2 : Hid (∀ w', Same w w' → Calls Try.prog 37 #[.pointer (some ⟨b, 0, none⟩)] w' fun e w'' => e = .returned (.int .i64 (if r.dead then 21 else 0)) ∧ w' = w'') := fun w' hs => state_any b r.o _ r.dead w' (h.same hs).2.1
  clear hst h HST
  by_cases hd : r.dead = true
  · simp only [hd, if_true] at hst2 ⊢
    clear hd
    unfold agA
    go_enter Try.func28, Try.ntmps28
    go_wp2_with fail
    refine (hst2.out _ ((Upd.refl _ _).alloc _)).mono ?_
    rintro e w1 ⟨rfl, rfl⟩
    go_wp2_with fail
    go_ret
    exact ⟨rfl, RdG.stay HV.out ((Upd.refl _ _).alloc _)⟩
  · rw [Bool.not_eq_true] at hd
    have HD := Lib.hid hd
    simp only [hd, Bool.false_eq_true, if_false] at hst2 ⊢
    clear hd
    by_cases ho : o.right = true
    · simp only [ho, if_true] at HR ⊢
      clear ho
      have hbx : ∀ w' (hs : Same (w.alloc (.cells #[.bool o.hs, .bool o.ds, .int .i64 o.most] 30)) w') j u, (#[Value.bool o.hs, .bool o.ds, .int .i64 o.most] : Array Value)[j]? = some u → w'.cell? ⟨w.heap.size, j, none⟩ = some u := fun w' hs j u hj => hs.cell (by rw [cell_of_row _ _ j _ _ (0, 0) (heap_alloc_new w _)]; exact hj) id
      have HBX := Lib.hid hbx
      clear hbx
      unfold agA at HR ⊢
      go_enter Try.func28, Try.ntmps28
      go_wp2_with fail
      refine (hst2.out _ ((Upd.refl _ _).alloc _)).mono ?_
      rintro e w1 ⟨rfl, rfl⟩
      go_wp2_with fail
      refine (HR.out _).mono ?_
      rintro e w1 ⟨rfl, hs⟩
      have hv := HV.out.same (Same.trans ((Upd.refl _ _).alloc _) hs)
      have c0 := hv.2.1 0 _ rfl
      have c1 := hv.2.1 1 _ rfl
      have c2 := hv.2.1 2 _ rfl
      have e0 := HBX.out w1 hs 0 _ rfl
      have e1 := HBX.out w1 hs 1 _ rfl
      have e2 := HBX.out w1 hs 2 _ rfl
      have fz := hv.2.2.1
      unfold FzAt at fz
      have hsw : Same w w1 := Same.trans ((Upd.refl _ _).alloc _) hs
      have HSW := Lib.hid hsw
      have HV1 := Lib.hid hv
      clear hs hv hsw
      go_wp2_with fail
      go_ret
      refine ⟨rfl, v, ?_, ?_, fun k hk => .inl hk⟩
      · exact ⟨HV1.out.1, (by have hq := HV1.out.2.1.setO o; rw [HD.out] at hq; exact hq), HV1.out.2.2.1.set.set.set, HV1.out.2.2.2.1.upd ((((Upd.refl (fun k => k = b) w1).setCell (p := ⟨b, 0, none⟩) (fun _ => rfl) _).setCell (p := ⟨b, 1, none⟩) (fun _ => rfl) _).setCell (p := ⟨b, 2, none⟩) (fun _ => rfl) _) (fun k hk e => HV1.out.2.2.2.2 (by rw [hk, e])), HV1.out.2.2.2.2⟩
      · exact ((((HSW.out.mono fun _ _ h => h.elim).setCell (p := ⟨b, 0, none⟩) (fun _ => .inl rfl) _).setCell (p := ⟨b, 1, none⟩) (fun _ => .inl rfl) _).setCell (p := ⟨b, 2, none⟩) (fun _ => .inl rfl) _)
    · rw [Bool.not_eq_true] at ho
      simp only [ho, Bool.false_eq_true, if_false] at HR ⊢
      clear ho
      unfold agA at HR ⊢
      go_enter Try.func28, Try.ntmps28
      go_wp2_with fail
      refine (hst2.out _ ((Upd.refl _ _).alloc _)).mono ?_
      rintro e w1 ⟨rfl, rfl⟩
      go_wp2_with fail
      refine (HR.out _).mono ?_
      rintro e w1 ⟨rfl, hs⟩
      have HS := Lib.hid (Same.trans ((Upd.refl (fun _ => False) w).alloc _) hs)
      clear hs
      go_wp2_with fail
      go_ret
      exact ⟨rfl, RdG.stay HV.out HS.out⟩
/-- The reference's Feed. -/
theorem rfeed_any {base : Nat} {w : World} {b : Nat} {v : Value} {r : Rd1} (h : RdV base w b v r) (hbase : base ≤ w.heap.size) (hr : r.b.length ≤ 131072) (A : Option Addr) (n cap : Nat) (bs : List UInt8) (hb : Bs w (.slice A n cap) bs) (hbl : bs.length ≤ 200000000000000) :
    Calls Try.prog 24 #[.pointer (some ⟨b, 0, none⟩), .slice A n cap] w fun e w' => e = .returned (.int .i64 (r.feedE bs.length)) ∧ RdG base w b v w' (r.feed bs) := by
  have hn : n = bs.length := by
    obtain ⟨_, _, e, _⟩ := id hb
    injection e
  subst hn
  obtain ⟨A1, n1, cp1, rfl⟩ := Fresh.shape h.2.2.2.1
  have hn1 := h.2.2.2.1.len'
  subst hn1
  have c3 := h.2.1 3 _ rfl
  have c4 := h.2.1 4 _ rfl
  have fz := h.2.2.1
  unfold FzAt at fz
  have HV := Lib.hid h
  have HB := Lib.hid hb
  have HG := Lib.hid (RdG.dies h)
  unfold Rd1.feedE Rd1.feed
  have hz := h.lt
  clear h hb
  by_cases hd : r.dead = true
  · rw [hd] at c4
    simp only [hd, if_true]
    clear hd
    go_enter Try.func24, Try.ntmps24
    go_wp2_with fail
    go_ret
    exact ⟨rfl, RdG.stay HV.out (Upd.refl _ _)⟩
  · rw [Bool.not_eq_true] at hd
    rw [hd] at c4
    have HD := Lib.hid hd
    simp only [hd, Bool.false_eq_true, if_false]
    clear hd
    by_cases hl : 131072 < r.b.length + bs.length
    · rw [if_pos hl, if_pos hl]
      have hl2 : (131072 : Int) < r.b.length + bs.length := by omega
      clear hl
      go_enter Try.func24, Try.ntmps24
      go_wp2_with fail
      go_ret
      exact ⟨rfl, HG.out⟩
    · rw [if_neg hl, if_neg hl]
      have hl2 : ¬ (131072 : Int) < r.b.length + bs.length := by omega
      clear hl
      go_enter Try.func24, Try.ntmps24
      go_wp2_with (at_builtin; refine wpl_append_bytes rfl (.tmp 28) (.tmp 29) 33 rfl Try.underlying33 li5 base (.slice A1 r.b.length cp1) (.slice A bs.length cap) r.b bs (r.b ++ bs) rfl rfl rfl HV.out.2.2.2.1 HB.out hbase (by omega) ?_; intro v2 w2 hf2 hu2 hr2; obtain ⟨A2, n2, cp2, rfl⟩ := Fresh.shape hf2; have hg := RdG.fed HV.out hz hf2 hu2 hr2; have c3 := (hg.1).2.1 3 _ rfl; have fz := hg.1.2.2; unfold FzAt at fz; have HG := Lib.hid hg.2; clear hg hf2 hu2 hr2)
      go_ret
      exact ⟨rfl, by have hg := HG.out; rw [HD.out] at hg; exact hg⟩
end Go.Proofs.Ytfafepmghcobdaa
