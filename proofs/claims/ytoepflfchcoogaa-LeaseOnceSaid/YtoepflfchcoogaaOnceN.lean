/- LeaseOnce: the reads, the two rows of the law, what was told: what each doing leaves of the others. -/
import Derived.Test.YtoepflfchcoogaaOnceM
namespace Go.Proofs.Ytoepflfchcoogaa
open Go.RowKit
set_option linter.unusedVariables false
set_option linter.unusedSimpArgs false
/-- The reads hold ls; the rows of numbers and indexes hold xs, ys; what was told holds zs. -/
def OnceA (w0 W : World) (p : Nat) (ls : List (Int × Int)) (vw va vt : Value) (xs ys zs : List Int) : Prop :=
  ∃ F, RdO w0.heap.size F W p ls ∧ Own w0.heap.size W vw 1 (xs.map numC) ∧ Own w0.heap.size W va 1 (ys.map numC) ∧ Own w0.heap.size W vt 1 (zs.map numC) ∧
    (∀ j, room vw = some j → ¬ room va = some j ∧ ¬ F j) ∧ (∀ j, room va = some j → ¬ F j) ∧ (∀ j, room vt = some j → ¬ room vw = some j ∧ ¬ room va = some j) ∧ Same w0 W
section
variable {w0 W W' : World} {p : Nat} {ls ls' : List (Int × Int)} {vw va vt v' : Value} {xs ys zs xs' : List Int}
theorem OnceA.same (h : OnceA w0 W p ls vw va vt xs ys zs) (hs : Same W W') : OnceA w0 W' p ls vw va vt xs ys zs := by
  obtain ⟨F, h1, h2, h3, h4, h5, h6, h7, h8⟩ := h
  exact ⟨F, h1.same hs, h2.same hs, h3.same hs, h4.same hs, h5, h6, h7, Same.trans h8 hs⟩
theorem OnceA.base (h : OnceA w0 W p ls vw va vt xs ys zs) : w0.heap.size ≤ W.heap.size := by
  obtain ⟨F, h1, h2, h3, h4, h5, h6, h7, h8⟩ := h
  exact h8.size
theorem OnceA.untold (h : OnceA w0 W p ls vw va vt xs ys zs) : OnceA w0 W p ls vw va (.slice none 0 0) xs ys [] := by
  obtain ⟨F, h1, h2, h3, h4, h5, h6, h7, h8⟩ := h
  exact ⟨F, h1, h2, h3, Own.nil _ _ _, h5, h6, fun j e => by simp [room] at e, h8⟩
/-- Another row of numbers. -/
theorem OnceA.setw (h : OnceA w0 W p ls vw va vt xs ys zs) (hf : Own w0.heap.size W' v' 1 (xs'.map numC)) (hu : Upd (fun k => room vw = some k) W W') (hr : ∀ k, room v' = some k → room vw = some k ∨ W.heap.size ≤ k) :
    OnceA w0 W' p ls v' va vt xs' ys zs := by
  obtain ⟨F, h1, h2, h3, h4, h5, h6, h7, h8⟩ := h
  refine ⟨F, h1.upd hu (fun j hj e => (h5 j e).2 hj), hf, h3.upd hu (fun j hj e => (h5 j e).1 hj), h4.upd hu (fun j hj e => (h7 j hj).1 e), fun j hj => ?_, h6, fun j hj => ⟨fun e => ?_, (h7 j hj).2⟩, Same.into h8 hu fun k hk => (h2.ge (by decide) k hk).1⟩
  · rcases hr j hj with e | e
    · exact h5 j e
    · exact ⟨fun e2 => by have := (h3.ge (by decide) j e2).2; omega, fun e2 => by have := (h1.foot j e2).2; omega⟩
  · rcases hr j e with e2 | e2
    · exact (h7 j hj).1 e2
    · have := (h4.ge (by decide) j hj).2; omega
/-- Another row of indexes. -/
theorem OnceA.seta (h : OnceA w0 W p ls vw va vt xs ys zs) (hf : Own w0.heap.size W' v' 1 (xs'.map numC)) (hu : Upd (fun k => room va = some k) W W') (hr : ∀ k, room v' = some k → room va = some k ∨ W.heap.size ≤ k) :
    OnceA w0 W' p ls vw v' vt xs xs' zs := by
  obtain ⟨F, h1, h2, h3, h4, h5, h6, h7, h8⟩ := h
  refine ⟨F, h1.upd hu (fun j hj e => h6 j e hj), h2.upd hu (fun j hj e => (h5 j hj).1 e), hf, h4.upd hu (fun j hj e => (h7 j hj).2 e), fun j hj => ⟨fun e => ?_, (h5 j hj).2⟩, fun j hj e2 => ?_, fun j hj => ⟨(h7 j hj).1, fun e => ?_⟩, Same.into h8 hu fun k hk => (h3.ge (by decide) k hk).1⟩
  · rcases hr j e with e2 | e2
    · exact (h5 j hj).1 e2
    · have := (h2.ge (by decide) j hj).2; omega
  · rcases hr j hj with e | e
    · exact h6 j e e2
    · have := (h1.foot j e2).2; omega
  · rcases hr j e with e2 | e2
    · exact (h7 j hj).2 e2
    · have := (h4.ge (by decide) j hj).2; omega
/-- The reads did something, and told vo. -/
theorem OnceA.reads {F : Nat → Prop} {vo : Value} {os : List Int} (h1 : RdO w0.heap.size F W p ls) (h2 : Own w0.heap.size W vw 1 (xs.map numC)) (h3 : Own w0.heap.size W va 1 (ys.map numC))
    (h5 : ∀ j, room vw = some j → ¬ room va = some j ∧ ¬ F j) (h6 : ∀ j, room va = some j → ¬ F j) (h8 : Same w0 W) (hg : RdGrew w0.heap.size F W p W' ls') (hV : Own W.heap.size W' vo 1 (os.map numC)) : OnceA w0 W' p ls' vw va vo xs ys os := by
  obtain ⟨F', a1, a2⟩ := hg
  refine ⟨F', a1, h2.upd a2.1 (fun j hj e => (h5 j hj).2 e), h3.upd a2.1 (fun j hj e => h6 j hj e), hV.mono h8.size, fun j hj => ⟨(h5 j hj).1, fun e => ?_⟩, fun j hj e => ?_, fun j hj => ⟨fun e => ?_, fun e => ?_⟩, a2.keeps h8 h1.foot⟩
  · rcases a2.2 j e with e | e
    · exact (h5 j hj).2 e
    · have := (h2.ge (by decide) j hj).2; omega
  · rcases a2.2 j e with e | e
    · exact h6 j hj e
    · have := (h3.ge (by decide) j hj).2; omega
  · have := (h2.ge (by decide) j e).2; have := (hV.ge (by decide) j hj).1; omega
  · have := (h3.ge (by decide) j e).2; have := (hV.ge (by decide) j hj).1; omega
end
/-- Behind the switch: what was told is what f takes of cur. -/
def OnceMid (w0 : World) (p : Nat) (vw va vt vm : Value) (wx : World) : Prop :=
  ∃ (cur : List (Int × Int)) (f : Int × Int → Bool) (most : Int), OnceA w0 wx p (cur.filter fun x => !(f x)) vw va vt (cur.map (·.1)) (cur.map (·.2)) ((cur.filter f).map (·.1)) ∧ OnceOk cur ∧ (∀ x ∈ cur, f x = true → x.2 ≤ most) ∧ vm = .int .i64 most
theorem filter_no (ls : List (Int × Int)) : ls.filter (fun _ => false) = [] := List.filter_eq_nil_iff.2 fun _ _ h => by cases h
theorem filter_yes (ls : List (Int × Int)) : ls.filter (fun _ => true) = ls := List.filter_eq_self.2 fun _ _ => rfl
theorem onceMid_none {w0 wx : World} {p : Nat} {vw va : Value} {ls : List (Int × Int)} {m : Int} (h : OnceA w0 wx p ls vw va (.slice none 0 0) (ls.map (·.1)) (ls.map (·.2)) []) (hok : OnceOk ls) : OnceMid w0 p vw va (.slice none 0 0) (.int .i64 m) wx :=
  ⟨ls, fun _ => false, m, by rw [filter_no]; simpa [filter_yes] using h, hok, fun x _ h => (by cases h), rfl⟩
theorem onceMid_ready {w0 wx : World} {p : Nat} {vw va vo : Value} {ls : List (Int × Int)} {m : Int} (h : OnceA w0 wx p (leftL ls m) vw va vo (ls.map (·.1)) (ls.map (·.2)) (outL ls m)) (hok : OnceOk ls) : OnceMid w0 p vw va vo (.int .i64 m) wx :=
  ⟨ls, fun x => decide (x.2 ≤ m), m, h, hok, fun x _ h => of_decide_eq_true h, rfl⟩
theorem onceMid_drop {w0 wx : World} {p : Nat} {vw va vo : Value} {ls : List (Int × Int)} (h : OnceA w0 wx p [] vw va vo (ls.map (·.1)) (ls.map (·.2)) (ls.map (·.1))) (hok : OnceOk ls) : OnceMid w0 p vw va vo (.int .i64 9223372036854775807) wx :=
  ⟨ls, fun _ => true, _, by rw [filter_yes]; simpa [filter_no] using h, hok, fun x hx _ => hok.2.2 x hx, rfl⟩
/-- A row without its element number n: its front, its back. -/
theorem row_parts {base : Nat} {w : World} {b f D c : Nat} {xs : List Int} (h : Own base w (.slice (some ⟨b, f, none⟩) D c) 1 (xs.map numC)) (n : Nat) (hn : n < D) :
    Own base w (.slice (some ⟨b, f, none⟩) n n) 1 ((xs.take n).map numC) ∧ (∀ j, room (.slice (some ⟨b, f, none⟩) n n) = some j → room (.slice (some ⟨b, f, none⟩) D c) = some j) ∧
      ((c = n + 1 ∧ D = n + 1 ∧ Hid (Rdr w (.slice (some ⟨b, f, none⟩) 0 0) 1 ((xs.drop (n + 1)).map numC))) ∨ (¬ c = n + 1 ∧ Hid (Rdr w (.slice (some ⟨b, f + (n + 1), none⟩) (D - (n + 1)) (c - (n + 1))) 1 ((xs.drop (n + 1)).map numC)))) := by
  obtain ⟨_, _, _, e0, j1, j2, j3⟩ := h.open_
  injection e0 with e01 e02 e03
  subst e01 e02 e03
  refine ⟨?_, room_frontc _ _ _ n (by omega) j2, ?_⟩
  · have := Own.frontc h n (by omega)
    rwa [Nat.mul_one, ← List.map_take] at this
  · have := (Own.back h (n + 1) (by omega)).rdr
    rw [Nat.mul_one, ← List.map_drop] at this
    by_cases hc : c = n + 1
    · subst hc
      obtain rfl : D = n + 1 := by omega
      exact .inl ⟨rfl, rfl, Lib.hid (by simpa using this)⟩
    · rw [if_neg hc] at this
      exact .inr ⟨hc, Lib.hid (by simpa [Addr.add_lit] using this)⟩
theorem numC_one (xs : List Int) : ∀ y ∈ xs.map numC, y.oneCell' = true := by
  intro y hy
  obtain ⟨x, _, rfl⟩ := List.mem_map.1 hy
  rfl
theorem back_full {P Q : Prop} {R1 R2 : Prop} {n D : Nat} (h : P ∧ Q ∧ ((n = n ∧ D = D ∧ Hid R1) ∨ (¬ n = n ∧ Hid R2))) : R1 := by
  rcases h.2.2 with h | h
  · exact h.2.2.out
  · exact absurd rfl h.1
theorem back_some {P Q : Prop} {R1 R2 : Prop} {c n D E : Nat} (h : P ∧ Q ∧ ((c = n ∧ D = E ∧ Hid R1) ∨ (¬ c = n ∧ Hid R2))) (hc : ¬ c = n) : R2 := by
  rcases h.2.2 with h | h
  · exact absurd h.1 hc
  · exact h.2.out
section
variable {w0 W W' : World} {p : Nat} {ls : List (Int × Int)} {va vw vt v' : Value} {xs ys zs : List Int} {b f D c n : Nat}
theorem OnceA.rmw (h : OnceA w0 W p ls (.slice (some ⟨b, f, none⟩) D c) va vt xs ys zs) (hn : n < D) (hf : Own w0.heap.size W' v' 1 ((xs.take n).map numC ++ (xs.drop (n + 1)).map numC)) (hu : Upd (fun k => room (.slice (some ⟨b, f, none⟩) n n) = some k) W.drew W')
    (hr : ∀ k, room v' = some k → room (.slice (some ⟨b, f, none⟩) n n) = some k ∨ W.drew.heap.size ≤ k) : OnceA w0 W' p ls v' va vt (xs.take n ++ xs.drop (n + 1)) ys zs := by
  have hp := (row_parts h.choose_spec.2.1 n hn).2.1
  exact OnceA.setw (h.same (Upd.refl _ _).drew) (by rw [List.map_append]; exact hf) (hu.mono fun k _ e => hp k e) fun k hk => (hr k hk).imp (fun e => hp k e) fun e => e
theorem OnceA.rma (h : OnceA w0 W p ls vw (.slice (some ⟨b, f, none⟩) D c) vt xs ys zs) (hn : n < D) (hf : Own w0.heap.size W' v' 1 ((ys.take n).map numC ++ (ys.drop (n + 1)).map numC)) (hu : Upd (fun k => room (.slice (some ⟨b, f, none⟩) n n) = some k) W.drew W')
    (hr : ∀ k, room v' = some k → room (.slice (some ⟨b, f, none⟩) n n) = some k ∨ W.drew.heap.size ≤ k) : OnceA w0 W' p ls vw v' vt xs (ys.take n ++ ys.drop (n + 1)) zs := by
  have hp := (row_parts h.choose_spec.2.2.1 n hn).2.1
  exact OnceA.seta (h.same (Upd.refl _ _).drew) (by rw [List.map_append]; exact hf) (hu.mono fun k _ e => hp k e) fun k hk => (hr k hk).imp (fun e => hp k e) fun e => e
end
end Go.Proofs.Ytoepflfchcoogaa
