/- The lease and the reference's, beside each other; calls on none. -/
import Derived.Test.YtoepflfchcoogaaLeaseT
import Derived.Test.YtoepflfchcoogaaLeaseP
namespace Go.Proofs.Ytoepflfchcoogaa
open Go.RowKit
set_option linter.unusedVariables false
set_option linter.unusedSimpArgs false
attribute [local go_sem ↓] Go.wp_at_zero Go.wp_at_succ
section
variable {base : Nat} {G : Nat → Prop} {W : World} {q : Nat} {a b : Int} {ls : List (Int × Int)}
theorem getLast_getD (ls : List (Int × Int)) (n : Nat) (h : ls.length = n + 1) : ls.getLast? = some (ls.getD n (0, 0)) := by
  rw [List.getLast?_eq_getElem?, h, List.getD_eq_getElem?_getD, Nat.add_sub_cancel, List.getElem?_eq_getElem (by omega)]
  rfl
theorem rsent_o (ho : RLeO base G W q a b ls) (hb : base ≤ W.heap.size) (hok : LOk ls) (r t : Int) : Calls Try.prog 14 #[.pointer (some ⟨q, 0, none⟩), .int .i64 r, .int .i64 t] W fun e w' => e = .returned (.int .i64 (sentL ls r t).1) ∧ RLGrew base G W q w' a b (sentL ls r t).2 := by
  obtain ⟨vr, vt, hv, hF, hFt⟩ := id ho
  have good : ∀ (hg : ¬ (r < 1 ∨ 1152921504606846976 < r ∨ t < 0 ∨ 1099511627776 < t)) (hx : ls.length = 0 ∨ ∃ n : Nat, ls.length = n + 1 ∧ (ls.getD n (0, 0)).1 < r ∧ (ls.getD n (0, 0)).2 ≤ t), Calls Try.prog 14 #[.pointer (some ⟨q, 0, none⟩), .int .i64 r, .int .i64 t] W fun e w' => e = .returned (.int .i64 0) ∧ RLGrew base G W q w' a b (pushL ls (r, t)) := fun hg hx => by
    refine (rsent_good hv hok hb r t hg hx).mono ?_
    rintro e w' ⟨rfl, vr', vt', h1, h2, h3⟩
    refine ⟨rfl, more G W w', ⟨vr', vt', h1, fun k hk => ?_, more_foot hFt hb h2.size⟩, more_step (h2.mono fun k _ hk => hF k hk)⟩
    rcases h3 k hk with e | e
    · exact .inl (hF k e)
    · exact .inr ⟨e, (h1.foot k hk).2⟩
  unfold sentL
  split
  · rename_i hbad
    refine (rsent_bad r t hbad).mono ?_
    rintro e w' ⟨rfl, hs⟩
    exact ⟨rfl, RLGrew.same ho hs⟩
  · rename_i hg
    cases hn : ls.length with
    | zero =>
      have : ls = [] := List.eq_nil_of_length_eq_zero hn
      subst this
      exact good hg (.inl rfl)
    | succ n =>
      rw [getLast_getD ls n hn]
      have hlen := hok.1
      by_cases hx : r ≤ (ls.getD n (0, 0)).1 ∨ t < (ls.getD n (0, 0)).2
      · simp only [if_pos hx]
        refine (rsent_late hv hn (by omega) r t hg hx).mono ?_
        rintro e w' ⟨rfl, hs⟩
        exact ⟨rfl, RLGrew.same ho hs⟩
      · simp only [if_neg hx]
        exact good hg (.inr ⟨n, hn, by omega, by omega⟩)
theorem runtil_o (ho : RLeO base G W q a b ls) (hok : LOk ls) (hab : 1 ≤ a ∧ a ≤ 1000 ∧ 1 ≤ b ∧ b ≤ 1000) (r : Int) : Calls Try.prog 16 #[.pointer (some ⟨q, 0, none⟩), .int .i64 r] W fun e w' => e = .returned (.int .i64 (untilL (a - 2 * b) ls r)) ∧ Same W w' := by
  obtain ⟨vr, vt, hv, hF, hFt⟩ := ho
  exact runtil_any hv hok hab r
theorem rholds_o (ho : RLeO base G W q a b ls) (hok : LOk ls) (hab : 1 ≤ a ∧ a ≤ 1000 ∧ 1 ≤ b ∧ b ≤ 1000) (r now : Int) : Calls Try.prog 18 #[.pointer (some ⟨q, 0, none⟩), .int .i64 r, .int .i64 now] W fun e w' => e = .returned (.bool (holdsL (a - 2 * b) ls r now)) ∧ Same W w' := by
  obtain ⟨vr, vt, hv, hF, hFt⟩ := ho
  exact rholds_any hv hok hab r now
/-- Where the row of rounds is read: how many there are. -/
theorem RLeO.rounds (ho : RLeO base G W q a b ls) : ∃ A cap, W.cell? ⟨q, 2, none⟩ = some (.slice A ls.length cap) := by
  obtain ⟨vr, vt, hv, hF, hFt⟩ := ho
  obtain ⟨A, m, cap, rfl, h1, h2, h3⟩ := hv.2.2.1.open_
  have h1 : ls.length = m := by simpa using h1
  subst h1
  exact ⟨A, cap, hv.2.1.1.2.2.1⟩
/-- Both rows are dropped. -/
theorem RLeO.wipe (ho : RLeO base G W q a b ls) : RLGrew base G W q ((W.setCell ⟨q, 2, none⟩ (.slice none 0 0)).setCell ⟨q, 3, none⟩ (.slice none 0 0)) a b [] := by
  obtain ⟨vr, vt, hv, hF, hFt⟩ := ho
  obtain ⟨t1, t2, t3⟩ := hv.setR (rs' := []) (Own.nil base W 1) (Upd.refl _ W) fun k hk => by simp [room] at hk
  obtain ⟨u1, u2, u3⟩ := t1.setT (ts' := []) (Own.nil base _ 1) (Upd.refl _ _) fun k hk => by simp [room] at hk
  have hst := Step.trans ⟨t2, t3⟩ ⟨u2, u3⟩
  have hq := hF q (.inl rfl)
  refine ⟨G, ⟨_, _, u1, fun k hk => ?_, hFt.mono hst.1.size⟩, hst.1.mono fun k _ hk => hF k hk, fun k hk => .inl hk⟩
  rcases hk with rfl | hk | hk
  · exact hq
  · simp [room] at hk
  · simp [room] at hk
end
theorem LeO.foot {base : Nat} {F : Nat → Prop} {W : World} {p : Nat} {h : Int} {ls : List (Int × Int)} (ho : LeO base F W p h ls) : Foot base F W := by obtain ⟨v, a1, a2, a3⟩ := ho; exact a3
theorem RLeO.foot {base : Nat} {G : Nat → Prop} {W : World} {q : Nat} {a b : Int} {ls : List (Int × Int)} (ho : RLeO base G W q a b ls) : Foot base G W := by obtain ⟨v, u, a1, a2, a3⟩ := ho; exact a3
/-- The two beside each other. -/
def LePair (w0 W : World) (p q : Nat) (a b : Int) (ls : List (Int × Int)) : Prop := ∃ F G, LeO w0.heap.size F W p (a - 2 * b) ls ∧ RLeO w0.heap.size G W q a b ls ∧ (∀ k, F k → ¬ G k) ∧ LOk ls ∧ Same w0 W
theorem LePair.same {w0 W W' : World} {p q : Nat} {a b : Int} {ls : List (Int × Int)} (h : LePair w0 W p q a b ls) (hs : Same W W') : LePair w0 W' p q a b ls := by
  obtain ⟨F, G, h1, h2, h3, h4, h5⟩ := h
  exact ⟨F, G, h1.same hs, h2.same hs, h3, h4, Same.trans h5 hs⟩
theorem LePair.both {w0 W W1 W2 : World} {p q : Nat} {a b : Int} {ls ls' : List (Int × Int)} {F G : Nat → Prop} (h1 : LeO w0.heap.size F W p (a - 2 * b) ls) (h2 : RLeO w0.heap.size G W q a b ls) (h3 : ∀ k, F k → ¬ G k) (h5 : Same w0 W) (hok : LOk ls')
    (g1 : LGrew w0.heap.size F W p W1 (a - 2 * b) ls') (g2 : RLGrew w0.heap.size G W1 q W2 a b ls') : LePair w0 W2 p q a b ls' := by
  obtain ⟨F', a1, a2⟩ := g1
  obtain ⟨G', b1, b2⟩ := g2
  have hd1 := a2.apart h2.foot h3
  have hF1 : Foot w0.heap.size F' W1 := a1.foot
  have hG1 : Foot w0.heap.size G W1 := h2.foot.mono a2.1.size
  have hd2 : ∀ k, G' k → ¬ F' k := b2.apart hF1 fun k hk hf => hd1 k hf hk
  exact ⟨F', G', a1.upd b2.1 (fun k hk hg => hd1 k hk hg), b1, fun k hk hg => hd2 k hg hk, hok, b2.keeps (a2.keeps h5 h1.foot) hG1⟩
theorem nil_reset (w : World) : Calls Try.prog 13 #[.pointer none] w fun r w' => r = .returned (.tuple #[]) ∧ w' = w := by
  go_enter Try.func13, Try.ntmps13
  go_wp2
  refine bodyPost_end (v := .tuple #[]) (by simp [results, Try.results13, go_sem]) rfl ?_
  exact ⟨rfl, rfl⟩
theorem nil_sent (w : World) : Calls Try.prog 10 #[.pointer none, .int .i64 1, .int .i64 1] w fun r w' => r = .returned (.int .i64 2) ∧ w' = w := by
  go_enter Try.func10, Try.ntmps10
  go_wp2
  go_ret
  exact ⟨rfl, rfl⟩
theorem nil_len (w : World) : Calls Try.prog 15 #[.pointer none] w fun r w' => r = .returned (.int .i64 0) ∧ w' = w := by
  go_enter Try.func15, Try.ntmps15
  go_wp2
  go_ret
  exact ⟨rfl, rfl⟩
theorem nil_find (w : World) (r : Int) : Calls Try.prog 36 #[.pointer none, .int .i64 r] w fun e w' => e = .returned (.agg #[.int .i64 0, .int .i64 0]) ∧ Same w w' := by
  go_enter Try.func36, Try.ntmps36
  go_wp2
  exact bodyPost_ret (v := .agg #[.int .i64 0, .int .i64 0]) (by simp [results, Try.results36, go_sem]) rfl ⟨rfl, ((Upd.refl _ _).alloc _).alloc _⟩
theorem nil_until (w : World) : Calls Try.prog 11 #[.pointer none, .int .i64 1] w fun e w' => e = .returned (.int .i64 0) ∧ Same w w' := by
  have HF := Lib.hid (nil_find w 1)
  go_enter Try.func11, Try.ntmps11
  go_wp2_with fail
  refine HF.out.mono ?_
  rintro e w1 ⟨rfl, hs1⟩
  have HS := Lib.hid hs1
  clear hs1
  go_wp2_with fail
  go_ret
  exact ⟨rfl, HS.out.alloc _⟩
theorem nil_holds (w : World) : Calls Try.prog 17 #[.pointer none, .int .i64 1, .int .i64 1] w fun e w' => e = .returned (.bool false) ∧ Same w w' := by
  have HF := Lib.hid (nil_find w 1)
  go_enter Try.func17, Try.ntmps17
  go_wp2_with fail
  refine HF.out.mono ?_
  rintro e w1 ⟨rfl, hs1⟩
  have HS := Lib.hid hs1
  clear hs1
  go_wp2_with fail
  go_ret
  exact ⟨rfl, HS.out.alloc _⟩
end Go.Proofs.Ytoepflfchcoogaa
