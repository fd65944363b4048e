/- Both windows' calls, as one plain law says them; the fixed calls. -/
import Derived.Test.YtjfcdinobhmmeaaWinTake
import Derived.Test.YtjfcdinobhmmeaaWinNext
import Derived.Test.YtjfcdinobhmmeaaWinRT
namespace Go.Proofs.Ytjfcdinobhmmeaa
open Go.RowKit
set_option linter.unusedVariables false
set_option linter.unusedSimpArgs false

/-- The next one that is to be done. -/
def WSt.next (s : WSt) : Int × Bool × WSt := match s.ts with
  | [] => (0, false, s)
  | t :: ts => (t.1, true, { s with ts := ts })
/-- One is done. -/
def WSt.done (s : WSt) : Int × WSt := if s.bz = 0 then (5, s) else (0, { s with bz := s.bz - 1 })
theorem WSt.Ok.next {s : WSt} (h : s.Ok) : s.next.2.2.Ok := by
  unfold WSt.next
  split
  · exact h
  · rename_i t ts e
    obtain ⟨a1, a2, a3, a4, a5, a6⟩ := h
    refine ⟨a1, a2, a3, a4, a5, ?_⟩
    rw [e, early_cons] at a6
    simp only
    omega
theorem WSt.Ok.done {s : WSt} (h : s.Ok) : s.done.2.Ok := by
  unfold WSt.done
  split
  · exact h
  · rename_i e
    obtain ⟨a1, a2, a3, a4, a5, a6⟩ := h
    refine ⟨a1, a2, ?_, a4, fun x hx => ?_, a6⟩
    · simp only; omega
    · have := a5 x hx
      simp only
      omega
theorem next_tot (s : WSt) : s.next.2.2.ls.length + s.next.2.2.ts.length ≤ s.ls.length + s.ts.length := by
  unfold WSt.next
  split
  · simp
  · rename_i t ts e
    rw [e]
    simp
theorem done_tot (s : WSt) : s.done.2.ls.length + s.done.2.ts.length = s.ls.length + s.ts.length := by
  unfold WSt.done
  split <;> rfl
theorem next_sz (s : WSt) : s.next.2.2.sz = s.sz := by
  unfold WSt.next
  split <;> rfl
theorem done_sz (s : WSt) : s.done.2.sz = s.sz := by
  unfold WSt.done
  split <;> rfl
section
variable {base : Nat} {F : Nat → Prop} {W : World} {p q : Nat} {s : WSt}
theorem WGrew.of' {V : WV} {W' : World} {s' : WSt} (h : WGrew base (wfoot p V) W p W' s') (hF : ∀ k, wfoot p V k → F k) : WGrew base F W p W' s' := h.of hF
theorem RGrew.of {ul ut : Value} {W' : World} {s' : WSt} (h : RGrew base (rfoot q ul ut) W q W' s') (hF : ∀ k, rfoot q ul ut k → F k) : RGrew base F W q W' s' := by
  obtain ⟨F', h1, h2⟩ := h
  exact ⟨F', h1, RStep.mono_l h2 hF⟩
theorem come_o (h : WinO base F W p s) (hb : base ≤ W.heap.size) (hok : s.Ok) (n : Int) (hn0 : 0 ≤ n) (hn1 : n ≤ 4294967295) (hlen : s.ls.length + s.ts.length ≤ 90000) (now : Bool) (id : Int) :
    Calls Try.prog 9 #[.pointer (some ⟨p, 0, none⟩), .int .u32 n, .bool now, .int .i64 id] W fun r w' => r = .returned (.int .i64 (s.come n now id).1) ∧ WGrew base F W p w' (s.come n now id).2 := by
  obtain ⟨V, hV, hF, hFt⟩ := _root_.id h
  unfold WSt.come
  cases now
  · simp only [Bool.false_eq_true, if_false]
    by_cases hin : inB s.nx (s.sz - s.bz) n = true
    · by_cases hi : idxOf n s.ls < 0
      · rw [if_pos ⟨hin, hi⟩]
        refine (come_take hV hb hok n hn0 hn1 hin hi hlen id).mono ?_
        rintro r w' ⟨rfl, hg⟩
        exact ⟨rfl, hg.of hF⟩
      · rw [if_neg fun e => hi e.2]
        refine (come_dup hV hok n hin (by omega) id).mono ?_
        rintro r w' ⟨rfl, hs⟩
        exact ⟨rfl, WGrew.same h hs⟩
    · rw [if_neg fun e => hin e.1]
      refine (come_out hV hok n (by simpa using hin) id).mono ?_
      rintro r w' ⟨rfl, hs⟩
      exact ⟨rfl, WGrew.same h hs⟩
  · simp only [if_true]
    have h6 := hok.2.2.2.2.2
    by_cases hf : 64 ≤ early s.ts
    · rw [if_pos hf]
      refine (come_full hV (by omega) n id).mono ?_
      rintro r w' ⟨rfl, hs⟩
      exact ⟨rfl, WGrew.same h hs⟩
    · rw [if_neg hf]
      refine (come_now hV hb (by omega) (by omega) n id).mono ?_
      rintro r w' ⟨rfl, hg⟩
      exact ⟨rfl, hg.of hF⟩
theorem rcome_o (h : RWinO base F W q s) (hb : base ≤ W.heap.size) (hok : s.Ok) (n : Int) (hn0 : 0 ≤ n) (hn1 : n ≤ 4294967295) (hlen : s.ls.length + s.ts.length ≤ 90000) (now : Bool) (id : Int) :
    Calls Try.prog 10 #[.pointer (some ⟨q, 0, none⟩), .int .u32 n, .bool now, .int .i64 id] W fun r w' => r = .returned (.int .i64 (s.come n now id).1) ∧ RGrew base F W q w' (s.come n now id).2 := by
  obtain ⟨ul, ut, hV, hF, hFt⟩ := _root_.id h
  unfold WSt.come
  cases now
  · simp only [Bool.false_eq_true, if_false]
    by_cases hin : inB s.nx (s.sz - s.bz) n = true
    · by_cases hi : idxOf n s.ls < 0
      · rw [if_pos ⟨hin, hi⟩]
        refine (rcome_take hV hb hok n hn0 hn1 hin hi hlen id).mono ?_
        rintro r w' ⟨rfl, hg⟩
        exact ⟨rfl, hg.of hF⟩
      · rw [if_neg fun e => hi e.2]
        refine (rcome_dup hV hok n hin (by omega) id).mono ?_
        rintro r w' ⟨rfl, hs⟩
        exact ⟨rfl, RGrew.same h hs⟩
    · rw [if_neg fun e => hin e.1]
      refine (rcome_out hV hok n (by simpa using hin) id).mono ?_
      rintro r w' ⟨rfl, hs⟩
      exact ⟨rfl, RGrew.same h hs⟩
  · simp only [if_true]
    by_cases hf : 64 ≤ early s.ts
    · rw [if_pos hf]
      refine (rcome_full hV hb (by omega) hf n id).mono ?_
      rintro r w' ⟨rfl, hs⟩
      exact ⟨rfl, RGrew.same h hs⟩
    · rw [if_neg hf]
      refine (rcome_now hV hb (by omega) (by omega) n id).mono ?_
      rintro r w' ⟨rfl, hg⟩
      exact ⟨rfl, hg.of hF⟩
theorem next_o (h : WinO base F W p s) (hb : base ≤ W.heap.size) (hlen : s.ts.length ≤ 90000) :
    Calls Try.prog 11 #[.pointer (some ⟨p, 0, none⟩)] W fun r w' => r = .returned (.tuple #[.int .i64 s.next.1, .bool s.next.2.1]) ∧ WGrew base F W p w' s.next.2.2 := by
  obtain ⟨V, hV, hF, hFt⟩ := _root_.id h
  unfold WSt.next
  split
  · rename_i e
    refine (next_none hV e).mono ?_
    rintro r w' ⟨rfl, rfl⟩
    exact ⟨rfl, WGrew.same h (Upd.refl _ _)⟩
  · rename_i t ts e
    refine (next_some hV e hb (by omega)).mono ?_
    rintro r w' ⟨rfl, hg⟩
    exact ⟨rfl, hg.of hF⟩
theorem rnext_o (h : RWinO base F W q s) (hlen : s.ts.length ≤ 90000) :
    Calls Try.prog 12 #[.pointer (some ⟨q, 0, none⟩)] W fun r w' => r = .returned (.tuple #[.int .i64 s.next.1, .bool s.next.2.1]) ∧ RGrew base F W q w' s.next.2.2 := by
  obtain ⟨ul, ut, hV, hF, hFt⟩ := _root_.id h
  unfold WSt.next
  split
  · rename_i e
    refine (rnext_none hV e).mono ?_
    rintro r w' ⟨rfl, rfl⟩
    exact ⟨rfl, RGrew.same h (Upd.refl _ _)⟩
  · rename_i t ts e
    refine (rnext_some hV e (by omega)).mono ?_
    rintro r w' ⟨rfl, hg⟩
    exact ⟨rfl, hg.of hF⟩
theorem done_o (h : WinO base F W p s) (hok : s.Ok) :
    Calls Try.prog 13 #[.pointer (some ⟨p, 0, none⟩)] W fun r w' => r = .returned (.int .i64 s.done.1) ∧ WGrew base F W p w' s.done.2 := by
  obtain ⟨V, hV, hF, hFt⟩ := _root_.id h
  have h3 := hok.2.2.1
  have h2 := hok.2.1
  unfold WSt.done
  split
  · rename_i e
    have hc := hV.2.1
    rw [e] at hc
    refine (done_none hc).mono ?_
    rintro r w' ⟨rfl, rfl⟩
    exact ⟨rfl, WGrew.same h (Upd.refl _ _)⟩
  · rename_i e
    refine (done_some hV.2.1 (by omega) (by omega)).mono ?_
    rintro r w' ⟨rfl, hc, hu⟩
    refine ⟨rfl, F, ⟨V, ⟨hV.1, hc, hV.2.2.1.upd hu fun k hk e => (hV.2.2.2.2.2.1 k hk).1 e, hV.2.2.2.1.upd hu fun k hk e => (hV.2.2.2.2.2.2.1 k hk).1 e, hV.2.2.2.2.1.upd hu fun k hk e => hV.2.2.2.2.2.2.2 k hk e, hV.2.2.2.2.2⟩, hF, hFt.mono hu.size⟩, Step.upd (hu.mono fun k _ e => hF k (.inl e))⟩
theorem rdone_o (h : RWinO base F W q s) (hok : s.Ok) :
    Calls Try.prog 14 #[.pointer (some ⟨q, 0, none⟩)] W fun r w' => r = .returned (.int .i64 s.done.1) ∧ RGrew base F W q w' s.done.2 := by
  obtain ⟨ul, ut, hV, hF, hFt⟩ := _root_.id h
  have h3 := hok.2.2.1
  have h2 := hok.2.1
  unfold WSt.done
  split
  · rename_i e
    refine (rdone_none hV e).mono ?_
    rintro r w' ⟨rfl, rfl⟩
    exact ⟨rfl, RGrew.same h (Upd.refl _ _)⟩
  · rename_i e
    refine (rdone_some hV (by omega) (by omega)).mono ?_
    rintro r w' ⟨rfl, hg⟩
    exact ⟨rfl, hg.of hF⟩
theorem expected_o (h : WinO base F W p s) : Calls Try.prog 15 #[.pointer (some ⟨p, 0, none⟩)] W fun r w' => r = .returned (.int .u32 s.nx) ∧ W = w' := by
  obtain ⟨V, hV, hF, hFt⟩ := _root_.id h
  exact expected_any hV.2.1
theorem busy_o (h : WinO base F W p s) : Calls Try.prog 19 #[.pointer (some ⟨p, 0, none⟩)] W fun r w' => r = .returned (.int .i64 s.bz) ∧ W = w' := by
  obtain ⟨V, hV, hF, hFt⟩ := _root_.id h
  exact busy_any hV.2.1
theorem held_o (h : WinO base F W p s) : Calls Try.prog 18 #[.pointer (some ⟨p, 0, none⟩)] W fun r w' => r = .returned (.int .i64 s.ls.length) ∧ W = w' := by
  obtain ⟨V, hV, hF, hFt⟩ := _root_.id h
  obtain ⟨A, m, cap, e, h1, h2, h3⟩ := hV.2.2.1.open_
  rw [held_length] at h1
  obtain rfl : s.ls.length = m := by omega
  have hc := hV.2.1
  rw [e] at hc
  exact held_any hc
theorem highest_o (h : WinO base F W p s) (hok : s.Ok) : Calls Try.prog 16 #[.pointer (some ⟨p, 0, none⟩)] W fun r w' => r = .returned (.int .u32 (highOf s.nx s.sz s.bz)) ∧ Same W w' := by
  obtain ⟨V, hV, hF, hFt⟩ := _root_.id h
  obtain ⟨a1, a2, a3, -⟩ := hok
  exact highest_any hV.2.1 a1.1 a1.2 (by omega) (by omega) a3.1 (by omega)
theorem rhigh_o (h : RWinO base F W q s) (hok : s.Ok) : Calls Try.prog 17 #[.pointer (some ⟨q, 0, none⟩)] W fun r w' => r = .returned (.int .u32 (highOf s.nx s.sz s.bz)) ∧ Same W w' := by
  obtain ⟨ul, ut, hV, hF, hFt⟩ := _root_.id h
  exact rhigh_any hV hok
end
/-- A window that is new. -/
theorem new_o (a n : Int) (w : World) (ha0 : 0 ≤ a) (ha1 : a ≤ 4294967295) (h1 : 1 ≤ n) (h2 : n ≤ 64) {w' : World} (hc : WinC w' w.heap.size a n 0 (.slice none 0 0) (.slice none 0 0) (.slice none 0 0) 0) (base : Nat) (hb : base ≤ w.heap.size) :
    WinO base (fun k => k = w.heap.size) w' w.heap.size ⟨a, n, 0, [], []⟩ ∧ (⟨a, n, 0, [], []⟩ : WSt).Ok := by
  have hr : ∀ k, ¬ room (.slice none 0 0) = some k := fun k e => by simp [room] at e
  refine ⟨⟨⟨.slice none 0 0, .slice none 0 0, .slice none 0 0⟩, ⟨hb, hc, Own.nil _ _ _, Own.nil _ _ _, Own.nil _ _ _, fun k e => (hr k e).elim, fun k e => (hr k e).elim, fun k e => (hr k e).elim⟩, ?_, ?_⟩, ?_⟩
  · rintro k (e | e | e | e)
    · exact e
    · exact (hr k e).elim
    · exact (hr k e).elim
    · exact (hr k e).elim
  · rintro k rfl
    exact ⟨hb, hc.lt⟩
  · exact ⟨⟨ha0, ha1⟩, ⟨h1, h2⟩, ⟨by simp, by simp; omega⟩, by simp, by simp, by simp [early]⟩
theorem rnew_o (a n : Int) (w : World) {w' : World} (hc : RWinC w' w.heap.size a n 0 (.slice none 0 0) (.slice none 0 0)) (base : Nat) (hb : base ≤ w.heap.size) :
    RWinO base (fun k => k = w.heap.size) w' w.heap.size ⟨a, n, 0, [], []⟩ := by
  have hr : ∀ k, ¬ room (.slice none 0 0) = some k := fun k e => by simp [room] at e
  refine ⟨.slice none 0 0, .slice none 0 0, ⟨hb, hc, Own.nil _ _ _, Own.nil _ _ _, fun k e => (hr k e).elim, fun k e => (hr k e).elim⟩, ?_, ?_⟩
  · rintro k (e | e | e)
    · exact e
    · exact (hr k e).elim
    · exact (hr k e).elim
  · rintro k rfl
    exact ⟨hb, hc.lt⟩
end Go.Proofs.Ytjfcdinobhmmeaa
