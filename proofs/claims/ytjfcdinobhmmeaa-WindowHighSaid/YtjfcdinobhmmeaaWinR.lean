/- The reference's window: its object; New, find, Next, Done, High. -/
import Derived.Test.YtjfcdinobhmmeaaWinPl
import Derived.Deep.QuietTactic
import Derived.BigQuiet
namespace Go.Proofs.Ytjfcdinobhmmeaa
open Go.RowKit
set_option linter.unusedVariables false
set_option linter.unusedSimpArgs false

def RWinC (W : World) (q : Nat) (nx sz bz : Int) (vl vt : Value) : Prop :=
  (W.cell? ⟨q, 0, none⟩ = some (.int .u32 nx) ∧ W.cell? ⟨q, 1, none⟩ = some (.int .i64 sz) ∧ W.cell? ⟨q, 2, none⟩ = some (.int .i64 bz) ∧ W.cell? ⟨q, 3, none⟩ = some vl ∧ W.cell? ⟨q, 4, none⟩ = some vt) ∧ ∀ j, j < 5 → W.frozen? ⟨q, j, none⟩ = false
theorem RWinC.lt {W : World} {q : Nat} {nx sz bz : Int} {vl vt : Value} (h : RWinC W q nx sz bz vl vt) : q < W.heap.size := cell_below h.1.1
theorem RWinC.upd {S : Nat → Prop} {W W' : World} {q : Nat} {nx sz bz : Int} {vl vt : Value} (h : RWinC W q nx sz bz vl vt) (hu : Upd S W W') (hn : ¬ S q) : RWinC W' q nx sz bz vl vt := by
  have hlt := h.lt
  obtain ⟨⟨c0, c1, c2, c3, c4⟩, hf⟩ := h
  exact ⟨⟨hu.cell c0 hn, hu.cell c1 hn, hu.cell c2 hn, hu.cell c3 hn, hu.cell c4 hn⟩, fun j hj => (hu.frozen (p := ⟨q, j, none⟩) hlt hn).trans (hf j hj)⟩
theorem RWinC.new (W : World) (nx sz bz : Int) (vl vt : Value) (t : TypeId) (q : Nat) (hq : q = W.heap.size) : RWinC (W.alloc (.cells #[.int .u32 nx, .int .i64 sz, .int .i64 bz, vl, vt] t)) q nx sz bz vl vt := by
  subst hq
  have h : (W.alloc (.cells #[.int .u32 nx, .int .i64 sz, .int .i64 bz, vl, vt] t)).heap[W.heap.size]? = some (.cells #[.int .u32 nx, .int .i64 sz, .int .i64 bz, vl, vt] t) := heap_alloc_new W _
  refine ⟨⟨?_, ?_, ?_, ?_, ?_⟩, fun j hj => ?_⟩
  all_goals first | (rw [cell_of_row _ _ _ _ t (0, 0) h]; rfl) | (unfold World.frozen?; rw [h]; simp)
section
variable {W : World} {q : Nat} {nx sz bz : Int} {vl vt : Value}
theorem RWinC.s0 (h : RWinC W q nx sz bz vl vt) (b : Int) : RWinC (W.setCell ⟨q, 0, none⟩ (.int .u32 b)) q b sz bz vl vt := by
  obtain ⟨⟨c0, c1, c2, c3, c4⟩, hf⟩ := h
  refine ⟨⟨World.cell?_setCell_same _ _ _ c0, ?_, ?_, ?_, ?_⟩, fun j hj => by rw [World.frozen?_setCell]; exact hf j hj⟩
  all_goals (rw [World.cell?_setCell_other _ _ _ _ (off_ne q (by decide))]; assumption)
theorem RWinC.s2 (h : RWinC W q nx sz bz vl vt) (b : Int) : RWinC (W.setCell ⟨q, 2, none⟩ (.int .i64 b)) q nx sz b vl vt := by
  obtain ⟨⟨c0, c1, c2, c3, c4⟩, hf⟩ := h
  refine ⟨⟨?_, ?_, World.cell?_setCell_same _ _ _ c2, ?_, ?_⟩, fun j hj => by rw [World.frozen?_setCell]; exact hf j hj⟩
  all_goals (rw [World.cell?_setCell_other _ _ _ _ (off_ne q (by decide))]; assumption)
theorem RWinC.s3 (h : RWinC W q nx sz bz vl vt) (b : Value) : RWinC (W.setCell ⟨q, 3, none⟩ b) q nx sz bz b vt := by
  obtain ⟨⟨c0, c1, c2, c3, c4⟩, hf⟩ := h
  refine ⟨⟨?_, ?_, ?_, World.cell?_setCell_same _ _ _ c3, ?_⟩, fun j hj => by rw [World.frozen?_setCell]; exact hf j hj⟩
  all_goals (rw [World.cell?_setCell_other _ _ _ _ (off_ne q (by decide))]; assumption)
theorem RWinC.s4 (h : RWinC W q nx sz bz vl vt) (b : Value) : RWinC (W.setCell ⟨q, 4, none⟩ b) q nx sz bz vl b := by
  obtain ⟨⟨c0, c1, c2, c3, c4⟩, hf⟩ := h
  refine ⟨⟨?_, ?_, ?_, ?_, World.cell?_setCell_same _ _ _ c4⟩, fun j hj => by rw [World.frozen?_setCell]; exact hf j hj⟩
  all_goals (rw [World.cell?_setCell_other _ _ _ _ (off_ne q (by decide))]; assumption)
end
def toldC (t : Int × Bool) : List Value := [.int .i64 t.1, .bool t.2]
theorem told_length (ts : List (Int × Bool)) : (ts.flatMap toldC).length = ts.length * 2 := by
  induction ts with
  | nil => rfl
  | cons h t ih => simp [toldC, ih]; omega
theorem told_get (ls : List (Int × Bool)) (k : Nat) (hk : k < ls.length) : (ls.flatMap toldC)[k * 2]? = some (.int .i64 (ls[k]'hk).1) ∧ (ls.flatMap toldC)[k * 2 + 1]? = some (.bool (ls[k]'hk).2) := by
  induction ls generalizing k with
  | nil => simp at hk
  | cons h t ih =>
    cases k with
    | zero => simp [toldC]
    | succ k =>
      have := ih k (by simpa using hk)
      rw [show (k + 1) * 2 = k * 2 + 2 by omega, show k * 2 + 2 + 1 = (k * 2 + 1) + 2 by omega]
      simpa [toldC] using this
theorem told_one (ls : List (Int × Bool)) : ∀ y ∈ ls.flatMap toldC, y.oneCell' = true := by
  intro y hy
  obtain ⟨h, _, hy⟩ := List.mem_flatMap.1 hy
  simp [toldC] at hy
  rcases hy with rfl | rfl <;> rfl
def rfoot (q : Nat) (vl vt : Value) : Nat → Prop := fun k => k = q ∨ room vl = some k ∨ room vt = some k
def RWinV (base : Nat) (W : World) (q : Nat) (vl vt : Value) (s : WSt) : Prop :=
  base ≤ q ∧ RWinC W q s.nx s.sz s.bz vl vt ∧ HeldOwn base W vl s.ls ∧ Own base W vt 2 (s.ts.flatMap toldC) ∧ (∀ k, room vl = some k → k ≠ q ∧ ¬ room vt = some k) ∧ ∀ k, room vt = some k → k ≠ q
def RWinO (base : Nat) (F : Nat → Prop) (W : World) (q : Nat) (s : WSt) : Prop := ∃ vl vt, RWinV base W q vl vt s ∧ (∀ k, rfoot q vl vt k → F k) ∧ Foot base F W
theorem RWinV.upd {base : Nat} {S : Nat → Prop} {W W' : World} {q : Nat} {vl vt : Value} {s : WSt} (h : RWinV base W q vl vt s) (hu : Upd S W W') (hn : ∀ k, rfoot q vl vt k → ¬ S k) : RWinV base W' q vl vt s :=
  ⟨h.1, h.2.1.upd hu (hn q (.inl rfl)), h.2.2.1.upd hu (fun k hk => hn k (.inr (.inl hk))), h.2.2.2.1.upd hu (fun k hk => hn k (.inr (.inr hk))), h.2.2.2.2⟩
theorem RWinV.foot {base : Nat} {W : World} {q : Nat} {vl vt : Value} {s : WSt} (h : RWinV base W q vl vt s) : Foot base (rfoot q vl vt) W := by
  rintro k (rfl | hk | hk)
  · exact ⟨h.1, h.2.1.lt⟩
  · exact Own.ge h.2.2.1 (by decide) k hk
  · exact h.2.2.2.1.ge (by decide) k hk
theorem RWinO.upd {base : Nat} {F S : Nat → Prop} {W W' : World} {q : Nat} {s : WSt} (h : RWinO base F W q s) (hu : Upd S W W') (hn : ∀ k, F k → ¬ S k) : RWinO base F W' q s := by
  obtain ⟨vl, vt, h1, h2, h3⟩ := h
  exact ⟨vl, vt, h1.upd hu fun k hk => hn k (h2 k hk), h2, h3.mono hu.size⟩
theorem RWinO.same {base : Nat} {F : Nat → Prop} {W W' : World} {q : Nat} {s : WSt} (h : RWinO base F W q s) (hu : Same W W') : RWinO base F W' q s := h.upd hu fun _ _ h => h
/-- Behind some doings of the reference's window. -/
def RGrew (base : Nat) (F : Nat → Prop) (W : World) (q : Nat) (W' : World) (s' : WSt) : Prop := ∃ F', RWinO base F' W' q s' ∧ Step F F' W W'
theorem RGrew.same {base : Nat} {F : Nat → Prop} {W W' : World} {q : Nat} {s : WSt} (h : RWinO base F W q s) (hs : Same W W') : RGrew base F W q W' s := ⟨F, h.same hs, Step.same hs⟩
theorem RGrew.mk {base : Nat} {F : Nat → Prop} {W W' : World} {q : Nat} {vl vt : Value} {s' : WSt} (hu : Upd F W W') (h : RWinV base W' q vl vt s') (hr : ∀ k, rfoot q vl vt k → F k ∨ W.heap.size ≤ k) : RGrew base F W q W' s' :=
  ⟨rfoot q vl vt, ⟨vl, vt, h, fun _ h => h, h.foot⟩, hu, hr⟩
section
variable {base : Nat} {W : World} {q : Nat} {vl vt : Value} {s : WSt}
/-- Another row takes the place of what is held. -/
theorem RWinV.setl {w1 : World} {v1 : Value} {ls' : List (Int × Int)} (h : RWinV base W q vl vt s) (hf : Own base w1 v1 2 (ls'.flatMap heldC)) (hu : Upd (fun k => room vl = some k) W w1) (hr : ∀ k, room v1 = some k → room vl = some k ∨ W.heap.size ≤ k) :
    RWinV base (w1.setCell ⟨q, 3, none⟩ v1) q v1 vt { s with ls := ls' } ∧ Upd (rfoot q vl vt) W (w1.setCell ⟨q, 3, none⟩ v1) ∧ ∀ k, rfoot q v1 vt k → rfoot q vl vt k ∨ W.heap.size ≤ k := by
  obtain ⟨h1, h2, h3, h4, h5, h6⟩ := h
  have hp := h2.lt
  have htr := h4.ge (by decide)
  have a1 : ∀ k, room v1 = some k → k ≠ q ∧ ¬ room vt = some k := by
    intro k hk
    rcases hr k hk with e | e
    · exact h5 k e
    · exact ⟨by omega, fun e2 => by have := (htr k e2).2; omega⟩
  have u3 : Upd (fun k => k = q) w1 (w1.setCell ⟨q, 3, none⟩ v1) := (Upd.refl (fun k => k = q) w1).setCell (p := ⟨q, 3, none⟩) (fun _ => rfl) _
  refine ⟨⟨h1, (h2.upd hu fun e => (h5 q e).1 rfl).s3 v1, Own.upd hf u3 fun k hk e => (a1 k hk).1 e, (h4.upd hu fun k hk e => (h5 k e).2 hk).upd u3 fun k hk e => h6 k hk e, a1, h6⟩, Upd.trans (hu.mono fun k _ e => .inr (.inl e)) u3 fun k _ e => .inl e, ?_⟩
  rintro k (e | e | e)
  · exact .inl (.inl e)
  · rcases hr k e with e | e
    · exact .inl (.inr (.inl e))
    · exact .inr e
  · exact .inl (.inr (.inr e))
/-- Another row takes the place of what is told. -/
theorem RWinV.sett {w1 : World} {v1 : Value} {ts' : List (Int × Bool)} (h : RWinV base W q vl vt s) (hf : Own base w1 v1 2 (ts'.flatMap toldC)) (hu : Upd (fun k => room vt = some k) W w1) (hr : ∀ k, room v1 = some k → room vt = some k ∨ W.heap.size ≤ k) :
    RWinV base (w1.setCell ⟨q, 4, none⟩ v1) q vl v1 { s with ts := ts' } ∧ Upd (rfoot q vl vt) W (w1.setCell ⟨q, 4, none⟩ v1) ∧ ∀ k, rfoot q vl v1 k → rfoot q vl vt k ∨ W.heap.size ≤ k := by
  obtain ⟨h1, h2, h3, h4, h5, h6⟩ := h
  have hp := h2.lt
  have hlr := Own.ge h3 (by decide)
  have a1 : ∀ k, room v1 = some k → k ≠ q ∧ ¬ room vl = some k := by
    intro k hk
    rcases hr k hk with e | e
    · exact ⟨h6 k e, fun e2 => (h5 k e2).2 e⟩
    · exact ⟨by omega, fun e2 => by have := (hlr k e2).2; omega⟩
  have u3 : Upd (fun k => k = q) w1 (w1.setCell ⟨q, 4, none⟩ v1) := (Upd.refl (fun k => k = q) w1).setCell (p := ⟨q, 4, none⟩) (fun _ => rfl) _
  refine ⟨⟨h1, (h2.upd hu fun e => h6 q e rfl).s4 v1, (h3.upd hu fun k hk e => (h5 k hk).2 e).upd u3 fun k hk e => (h5 k hk).1 e, Own.upd hf u3 fun k hk e => (a1 k hk).1 e, fun k hk => ⟨(h5 k hk).1, fun e => (a1 k e).2 hk⟩, fun k hk => (a1 k hk).1⟩, Upd.trans (hu.mono fun k _ e => .inr (.inr e)) u3 fun k _ e => .inl e, ?_⟩
  rintro k (e | e | e)
  · exact .inl (.inl e)
  · exact .inl (.inr (.inl e))
  · rcases hr k e with e | e
    · exact .inl (.inr (.inr e))
    · exact .inr e
/-- A number of the window's own was set. -/
theorem RWinV.cellset {s' : WSt} {j : Nat} {u : Value} (h : RWinV base W q vl vt s) (hc : RWinC (W.setCell ⟨q, j, none⟩ u) q s'.nx s'.sz s'.bz vl vt) (hl : s'.ls = s.ls) (ht : s'.ts = s.ts) : RWinV base (W.setCell ⟨q, j, none⟩ u) q vl vt s' := by
  have hu : Upd (fun k => k = q) W (W.setCell ⟨q, j, none⟩ u) := (Upd.refl (fun k => k = q) W).setCell (p := ⟨q, j, none⟩) (fun _ => rfl) _
  obtain ⟨h1, h2, h3, h4, h5, h6⟩ := h
  refine ⟨h1, hc, ?_, ?_, h5, h6⟩
  · rw [hl]; exact h3.upd hu fun k hk e => (h5 k hk).1 e
  · rw [ht]; exact h4.upd hu fun k hk e => h6 k hk e
theorem rnew_bad (a n : Int) (w : World) (h : n < 1 ∨ 64 < n) : Calls Try.prog 7 #[.int .u32 a, .int .i64 n] w fun r w' => r = .returned (.tuple #[.pointer none, .int .i64 1]) ∧ w = w' := by
  rcases h with h | h
  all_goals
    go_enter Try.func7, Try.ntmps7
    go_wp2
    go_ret2
    exact ⟨rfl, rfl⟩
theorem rnew_good (a n : Int) (w : World) (h1 : 1 ≤ n) (h2 : n ≤ 64) : Calls Try.prog 7 #[.int .u32 a, .int .i64 n] w fun r w' => r = .returned (.tuple #[.pointer (some ⟨w.heap.size, 0, none⟩), .int .i64 0]) ∧ RWinC w' w.heap.size a n 0 (.slice none 0 0) (.slice none 0 0) ∧ Same w w' := by
  go_enter Try.func7, Try.ntmps7
  go_wp2
  go_ret2
  exact ⟨rfl, RWinC.new w _ _ _ _ _ _ _ rfl, (Upd.refl _ w).alloc _⟩
theorem rhigh_any (h : RWinV base W q vl vt s) (hok : s.Ok) : Calls Try.prog 17 #[.pointer (some ⟨q, 0, none⟩)] W fun r w' => r = .returned (.int .u32 (highOf s.nx s.sz s.bz)) ∧ Same W w' := by
  obtain ⟨⟨c0, c1, c2, c3, c4⟩, hf⟩ := h.2.1
  obtain ⟨⟨b1, b2⟩, ⟨b3, b4⟩, ⟨b5, b6⟩, -⟩ := hok
  clear hf h
  go_enter Try.func17, Try.ntmps17
  go_wp2
  go_quiet (fail)
  go_wp2
  go_ret
  refine ⟨ret_int ?_, (Upd.refl _ W).drewN _⟩
  unfold highOf
  omega
theorem rdone_none (h : RWinV base W q vl vt s) (hs : s.bz = 0) : Calls Try.prog 14 #[.pointer (some ⟨q, 0, none⟩)] W fun r w' => r = .returned (.int .i64 5) ∧ W = w' := by
  obtain ⟨⟨c0, c1, c2, c3, c4⟩, hf⟩ := h.2.1
  rw [hs] at c2
  clear hf h hs
  go_enter Try.func14, Try.ntmps14
  go_wp2
  go_ret
  exact ⟨rfl, rfl⟩
theorem rdone_some (h : RWinV base W q vl vt s) (h1 : 1 ≤ s.bz) (h2 : s.bz ≤ 1000000) : Calls Try.prog 14 #[.pointer (some ⟨q, 0, none⟩)] W fun r w' => r = .returned (.int .i64 0) ∧ RGrew base (rfoot q vl vt) W q w' { s with bz := s.bz - 1 } := by
  have hn := h.cellset (s' := { s with bz := s.bz - 1 }) (h.2.1.s2 (s.bz - 1)) rfl rfl
  obtain ⟨⟨c0, c1, c2, c3, c4⟩, hf⟩ := h.2.1
  have f2 := hf 2 (by decide)
  have hne : (s.bz == 0) = false := by simp; omega
  have HN := Lib.hid hn
  have H := Lib.hid h
  clear hf hn h
  go_enter Try.func14, Try.ntmps14
  go_wp2
  go_ret
  exact ⟨rfl, RGrew.mk ((Upd.refl (rfoot q vl vt) W).setCell (p := ⟨q, 2, none⟩) (fun _ => .inl rfl) _) HN.out fun k hk => .inl hk⟩
theorem rnext_none (h : RWinV base W q vl vt s) (hs : s.ts = []) : Calls Try.prog 12 #[.pointer (some ⟨q, 0, none⟩)] W fun r w' => r = .returned (.tuple #[.int .i64 0, .bool false]) ∧ W = w' := by
  obtain ⟨A, n, cap, rfl, h1, h2, h3⟩ := h.2.2.2.1.open_
  rw [hs] at h1
  obtain rfl : n = 0 := by simp at h1; omega
  obtain ⟨⟨c0, c1, c2, c3, c4⟩, hf⟩ := h.2.1
  clear hf h hs
  go_enter Try.func12, Try.ntmps12
  go_wp2
  go_ret2
  exact ⟨rfl, rfl⟩
set_option maxHeartbeats 1000000 in
theorem rnext_some {t : Int × Bool} {ts : List (Int × Bool)} (h : RWinV base W q vl vt s) (hs : s.ts = t :: ts) (hlen : s.ts.length ≤ 100000) : Calls Try.prog 12 #[.pointer (some ⟨q, 0, none⟩)] W fun r w' => r = .returned (.tuple #[.int .i64 t.1, .bool true]) ∧ RGrew base (rfoot q vl vt) W q w' { s with ts := ts } := by
  obtain ⟨A, n, cap, rfl, h1, h2, h3⟩ := h.2.2.2.1.open_
  have ht := h.2.2.2.1
  rw [hs] at ht h1 hlen
  rw [told_length] at h1
  simp only [List.length_cons] at h1 hlen
  have t1 := Own.back ht 1 (by omega)
  have t2 := room_back A n (n - 1) cap 1 2
  simp only [List.flatMap_cons, toldC, Nat.one_mul, List.cons_append, List.nil_append, List.drop_succ_cons, List.drop_zero] at t1 t2
  obtain ⟨bA, oA, rfl, cA⟩ := Own.at_ ht (by simp [toldC])
  have cA := cA 0 (.int .i64 t.1) rfl
  rw [Nat.add_zero] at cA
  obtain ⟨t, b⟩ := t
  obtain ⟨⟨c0, c1, c2, c3, c4⟩, hf⟩ := h.2.1
  have f4 := hf 4 (by decide)
  have g1 : 1 ≤ n := by omega
  have g3 : (1 : Int) ≤ (n : Int) := by omega
  have g5 : 1 ≤ cap := by omega
  have H := Lib.hid h
  have hn1 : (cap = 1 ∧ n = 1) ∨ ¬ cap = 1 := by omega
  have T1 := Lib.hid t1
  have T2 := Lib.hid t2
  clear hf h hs t1 t2 ht h1 hlen
  rcases hn1 with ⟨rfl, rfl⟩ | hcap
  all_goals
    have T3 := T1.out
    have T4 := T2.out
    first | (rw [if_pos rfl] at T3 T4) | (rw [if_neg hcap] at T3 T4)
    have HT3 := Lib.hid T3
    have HT4 := Lib.hid T4
    clear T3 T4 T1 T2
    go_enter Try.func12, Try.ntmps12
    go_wp2_with fail
    go_ret2
    obtain ⟨r1, r2, r3⟩ := H.out.sett HT3.out (Upd.refl _ _) fun k hk => .inl (HT4.out k hk)
    exact ⟨rfl, RGrew.mk r2 r1 r3⟩
end
end Go.Proofs.Ytjfcdinobhmmeaa
