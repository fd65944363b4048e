/- window.Next. -/
import Derived.Test.YtjfcdinobhmmeaaWinSt
import Derived.Deep.RegionLaw
import Derived.Deep.DrawnRows
namespace Go.Proofs.Ytjfcdinobhmmeaa
open Go.RowKit
set_option linter.unusedVariables false
set_option linter.unusedSimpArgs false
attribute [local go_sem ↓] Go.wp_at_zero Go.wp_at_succ

section
variable {base : Nat} {W : World} {p : Nat} {V : WV} {s : WSt}
theorem next_none (h : WinV base W p V s) (hs : s.ts = []) :
    Calls Try.prog 11 #[.pointer (some ⟨p, 0, none⟩)] W fun r w' => r = .returned (.tuple #[.int .i64 0, .bool false]) ∧ W = w' := by
  obtain ⟨A, n, cap, e, h1, h2, h3⟩ := h.2.2.2.1.open_
  rw [hs] at h1
  obtain rfl : n = 0 := by simpa using h1.symm
  obtain ⟨⟨c0, c1, c2, c3, c4, c5, c6⟩, hf⟩ := h.2.1
  rw [e] at c4
  clear hf hs e h
  go_enter Try.func11, Try.ntmps11
  go_wp2_with fail
  go_ret2
  exact ⟨rfl, rfl⟩
/-- The first of those that wait is struck. -/
theorem next_end {W' : World} {vt vn : Value} {t : Int × Bool} {ts : List (Int × Bool)} (h : WinV base W p V s) (ht : Own base W vt 1 (ts.map idC)) (hn : Own base W vn 1 (ts.map nowC)) (ht2 : ∀ k, room vt = some k → room V.t = some k) (hn2 : ∀ k, room vn = some k → room V.n = some k)
    (hu : Upd (fun k => k = p) W W') (hc : WinC W' p s.nx s.sz s.bz V.l vt vn (early ts)) (hb : base ≤ W.heap.size) : WGrew base (wfoot p V) W p W' { s with ts := ts } := by
  obtain ⟨h1, h2, h3, h4, h5, h6⟩ := h
  refine WGrew.mk (V' := ⟨V.l, vt, vn⟩) (hu.mono fun k _ e => .inl e) ⟨h1, hc, h3.upd hu fun k hk e => (h6.1 k hk).1 e, ht.upd hu fun k hk e => (h6.2.1 k (ht2 k hk)).1 e, hn.upd hu fun k hk e => h6.2.2 k (hn2 k hk) e, ?_⟩ hb ?_ (WinV.foot ⟨h1, h2, h3, h4, h5, h6⟩)
  · exact ⟨fun k hk => ⟨(h6.1 k hk).1, fun e => (h6.1 k hk).2.1 (ht2 k e), fun e => (h6.1 k hk).2.2 (hn2 k e)⟩, fun k hk => ⟨(h6.2.1 k (ht2 k hk)).1, fun e => (h6.2.1 k (ht2 k hk)).2 (hn2 k e)⟩, fun k hk => h6.2.2 k (hn2 k hk)⟩
  · rintro k (e | e | e | e)
    · exact .inl (.inl e)
    · exact .inl (.inr (.inl e))
    · exact .inl (.inr (.inr (.inl (ht2 k e))))
    · exact .inl (.inr (.inr (.inr (hn2 k e))))
theorem back1 {A : Option Addr} {n cap : Nat} (hc : cap = 1) : (if cap = 1 then A else A.map (·.add (1 * 1))) = A := if_pos hc
set_option maxHeartbeats 4000000 in
theorem next_some {t : Int × Bool} {ts : List (Int × Bool)} (h : WinV base W p V s) (hs : s.ts = t :: ts) (hb : base ≤ W.heap.size) (hlen : s.ts.length ≤ 100000) :
    Calls Try.prog 11 #[.pointer (some ⟨p, 0, none⟩)] W fun r w' => r = .returned (.tuple #[.int .i64 t.1, .bool true]) ∧ WGrew base (wfoot p V) W p w' { s with ts := ts } := by
  obtain ⟨A, n, cap, e1, a1, a2, a3⟩ := h.2.2.2.1.open_
  obtain ⟨B, m, cup, e2, b1, b2, b3⟩ := h.2.2.2.2.1.open_
  have ht := h.2.2.2.1
  have hn := h.2.2.2.2.1
  rw [e1] at ht
  rw [e2] at hn
  rw [hs] at ht hn a1 b1 hlen
  simp only [List.length_map, List.length_cons, Nat.mul_one] at a1 b1 hlen
  have hc := h.2.1
  rw [e1, e2, hs, early_cons] at hc
  have t1 := Own.back ht 1 (by omega)
  have n1 := Own.back hn 1 (by omega)
  have t2 := room_back A n (n - 1) cap 1 1
  have n2 := room_back B m (m - 1) cup 1 1
  rw [← e1] at t2
  rw [← e2] at n2
  simp only [List.map_cons, Nat.mul_one, List.drop_succ_cons, List.drop_zero] at t1 n1 t2 n2
  obtain ⟨bA, oA, rfl, cA⟩ := Own.at_ ht (by simp)
  obtain ⟨bB, oB, rfl, cB⟩ := Own.at_ hn (by simp)
  have cA := cA 0 (.int .i64 t.1) rfl
  have cB := cB 0 (.bool t.2) rfl
  rw [Nat.add_zero] at cA cB
  obtain ⟨t, b⟩ := t
  have hend := fun (W' : World) vt vn => @next_end base W p V s W' vt vn (t, b) ts h
  have he : early ts ≤ 100000 := Nat.le_trans (List.length_filter_le _ _) (by omega)
  have nA : bA ≠ p := fun e => by subst e; exact (h.2.2.2.2.2.2.1 bA (by rw [e1, room_some _ _ _ _ (by omega)])).1 rfl
  have nB : bB ≠ p := fun e => by subst e; exact h.2.2.2.2.2.2.2 bB (by rw [e2, room_some _ _ _ _ (by omega)]) rfl
  obtain ⟨⟨c0, c1, c2, c3, c4, c5, c6⟩, hf⟩ := id hc
  have f4 := hf 4 (by decide)
  have f5 := hf 5 (by decide)
  have f6 := hf 6 (by decide)
  have HC := Lib.hid hc
  have g1 : 1 ≤ n := by omega
  have g2 : 1 ≤ m := by omega
  have g3 : (1 : Int) ≤ (n : Int) := by omega
  have g4 : (1 : Int) ≤ (m : Int) := by omega
  have g5 : 1 ≤ cap := by omega
  have g6 : 1 ≤ cup := by omega
  have HEND := Lib.hid hend
  have T1 := Lib.hid t1
  have N1 := Lib.hid n1
  have T2 := Lib.hid t2
  have N2 := Lib.hid n2
  clear hf hc hend ht hn t1 n1 t2 n2 h hs e1 e2 a1 b1 hlen
  have hn1 : (cap = 1 ∧ n = 1) ∨ ¬ cap = 1 := by omega
  have hm1 : (cup = 1 ∧ m = 1) ∨ ¬ cup = 1 := by omega
  rcases hn1 with ⟨rfl, rfl⟩ | hcap
  all_goals
    rcases hm1 with ⟨rfl, rfl⟩ | hcup
    all_goals
      have T3 := T1.out
      have T4 := T2.out
      have N3 := N1.out
      have N4 := N2.out
      first | (rw [if_pos rfl] at T3 T4) | (rw [if_neg hcap] at T3 T4)
      first | (rw [if_pos rfl] at N3 N4) | (rw [if_neg hcup] at N3 N4)
      have HT3 := Lib.hid T3
      have HT4 := Lib.hid T4
      have HN3 := Lib.hid N3
      have HN4 := Lib.hid N4
      clear T3 T4 N3 N4 T1 T2 N1 N2
      cases b
      all_goals
        simp only [Bool.false_eq_true, if_false, if_true, Nat.add_zero, Int.natCast_add, Int.cast_ofNat_Int] at c6 HC
        go_enter Try.func11, Try.ntmps11
        go_wp2_with fail
        go_region_law (fail)
        all_goals
          go_wp2_with fail
          go_ret2
          first
          | exact ⟨rfl, HEND.out _ _ _ HT3.out HN3.out HT4.out HN4.out (((Upd.refl (fun k => k = p) W).setCell (p := ⟨p, 4, none⟩) (fun _ => rfl) _).setCell (p := ⟨p, 5, none⟩) (fun _ => rfl) _).drew (((HC.out.vt _).vn _).upd (Upd.refl (fun _ => False) _).drew (fun h => h)) hb⟩
          | exact ⟨rfl, HEND.out _ _ _ HT3.out HN3.out HT4.out HN4.out ((((Upd.refl (fun k => k = p) W).setCell (p := ⟨p, 6, none⟩) (fun _ => rfl) _).setCell (p := ⟨p, 4, none⟩) (fun _ => rfl) _).setCell (p := ⟨p, 5, none⟩) (fun _ => rfl) _).drew ((((HC.out.early _).vt _).vn _).upd (Upd.refl (fun _ => False) _).drew (fun h => h)) hb⟩
end
end Go.Proofs.Ytjfcdinobhmmeaa
