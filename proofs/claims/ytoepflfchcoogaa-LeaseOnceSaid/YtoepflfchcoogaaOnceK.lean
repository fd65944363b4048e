/- LeaseOnce: what its round keeps. -/
import Derived.Test.YtoepflfchcoogaaOnceL
import Derived.Test.YtoepflfchcoogaaOpenAsk
namespace Go.Proofs.Ytoepflfchcoogaa
open Go.RowKit
set_option linter.unusedVariables false
set_option linter.unusedSimpArgs false
/-- The reads hold ls; the rows of numbers and indexes hold cur. -/
def OncePair (w0 W : World) (p : Nat) (ls cur : List (Int × Int)) (vw va : Value) : Prop :=
  ∃ F, RdO w0.heap.size F W p ls ∧ Own w0.heap.size W vw 1 ((cur.map (·.1)).map numC) ∧ Own w0.heap.size W va 1 ((cur.map (·.2)).map numC) ∧
    (∀ j, room vw = some j → ¬ room va = some j ∧ ¬ F j) ∧ (∀ j, room va = some j → ¬ F j) ∧ Same w0 W
def OnceOk (ls : List (Int × Int)) : Prop := Distinct ls ∧ ls.length ≤ 100 ∧ ∀ x ∈ ls, x.2 ≤ 9223372036854775807
theorem OnceOk.filter {ls : List (Int × Int)} (h : OnceOk ls) (f : Int × Int → Bool) : OnceOk (ls.filter f) :=
  ⟨h.1.filter f, Nat.le_trans (List.length_filter_le _ _) h.2.1, fun x hx => h.2.2 x (List.mem_filter.1 hx).1⟩
theorem OnceOk.nil : OnceOk [] := ⟨List.nodup_nil, by simp, by simp⟩
theorem idxOf_neg' (n : Int) (ls : List (Int × Int)) (h : ¬ 0 ≤ idxOf n ls) : ∀ x ∈ ls, x.1 ≠ n := by
  intro x hx e
  unfold idxOf at h
  cases hf : ls.findIdx? (fun h => h.1 == n) with
  | some i => rw [hf] at h; exact h (Int.natCast_nonneg i)
  | none =>
    rw [List.findIdx?_eq_none_iff] at hf
    have := hf x hx
    simp [e] at this
theorem OnceOk.ask {ls : List (Int × Int)} (h : OnceOk ls) (id ix : Int) (hix : ix ≤ 9223372036854775807) : OnceOk (askL ls id ix).2 := by
  refine ⟨?_, askL_len h.2.1 id ix, ?_⟩
  · unfold askL
    split
    · exact h.1
    · split
      · exact h.1
      · rename_i hk
        split
        · exact h.1
        · show ((ls ++ [(id, ix)]).map (·.1)).Nodup
          rw [List.map_append]
          refine List.nodup_append.2 ⟨h.1, by simp, fun a ha b hb e => ?_⟩
          simp at hb
          obtain ⟨x, hx, rfl⟩ := List.mem_map.1 ha
          exact idxOf_neg' id ls hk x hx (by rw [e, hb])
  · unfold askL
    split
    · exact h.2.2
    · split
      · exact h.2.2
      · split
        · exact h.2.2
        · intro x hx
          rcases List.mem_append.1 hx with hx | hx
          · exact h.2.2 x hx
          · simp at hx
            subst hx
            exact hix
theorem askL_code (ls : List (Int × Int)) (id ix : Int) : ((askL ls id ix).1 = 0 ∧ (askL ls id ix).2 = ls ++ [(id, ix)] ∧ ls.length < 100) ∨ ((askL ls id ix).1 ≠ 0 ∧ (askL ls id ix).2 = ls) := by
  unfold askL
  split
  · exact .inr ⟨fun e => absurd (show (1 : Int) = 0 from e) (by decide), rfl⟩
  · split
    · exact .inr ⟨fun e => absurd (show (5 : Int) = 0 from e) (by decide), rfl⟩
    · split
      · exact .inr ⟨fun e => absurd (show (4 : Int) = 0 from e) (by decide), rfl⟩
      · exact .inl ⟨rfl, rfl, by omega⟩
theorem OncePair.same {w0 W W' : World} {p : Nat} {ls cur : List (Int × Int)} {vw va : Value} (h : OncePair w0 W p ls cur vw va) (hs : Same W W') : OncePair w0 W' p ls cur vw va := by
  obtain ⟨F, h1, h2, h3, h4, h5, h6⟩ := h
  exact ⟨F, h1.same hs, h2.same hs, h3.same hs, h4, h5, Same.trans h6 hs⟩
/-- The reads did something. -/
theorem OncePair.reads {w0 W W' : World} {p : Nat} {ls ls' cur : List (Int × Int)} {vw va : Value} {F : Nat → Prop} (h1 : RdO w0.heap.size F W p ls) (h2 : Own w0.heap.size W vw 1 ((cur.map (·.1)).map numC)) (h3 : Own w0.heap.size W va 1 ((cur.map (·.2)).map numC))
    (h4 : ∀ j, room vw = some j → ¬ room va = some j ∧ ¬ F j) (h5 : ∀ j, room va = some j → ¬ F j) (h6 : Same w0 W) (hg : RdGrew w0.heap.size F W p W' ls') : OncePair w0 W' p ls' cur vw va := by
  obtain ⟨F', a1, a2⟩ := hg
  refine ⟨F', a1, h2.upd a2.1 (fun j hj e => (h4 j hj).2 e), h3.upd a2.1 (fun j hj e => h5 j hj e), fun j hj => ⟨(h4 j hj).1, fun e => ?_⟩, fun j hj e => ?_, a2.keeps h6 h1.foot⟩
  · rcases a2.2 j e with e | e
    · exact (h4 j hj).2 e
    · have := (h2.ge (by decide) j hj).2; omega
  · rcases a2.2 j e with e | e
    · exact h5 j hj e
    · have := (h3.ge (by decide) j hj).2; omega
/-- Another row of numbers. -/
theorem OncePair.setW {w0 W W' : World} {p : Nat} {ls cur : List (Int × Int)} {xs : List Int} {vw va v' : Value} {F : Nat → Prop} (h1 : RdO w0.heap.size F W p ls) (h3 : Own w0.heap.size W va 1 (xs.map numC))
    (h4 : ∀ j, room vw = some j → ¬ room va = some j ∧ ¬ F j) (h5 : ∀ j, room va = some j → ¬ F j) (hu : Upd (fun k => room vw = some k) W W') (hr : ∀ k, room v' = some k → room vw = some k ∨ W.heap.size ≤ k) :
    RdO w0.heap.size F W' p ls ∧ Own w0.heap.size W' va 1 (xs.map numC) ∧ (∀ j, room v' = some j → ¬ room va = some j ∧ ¬ F j) := by
  refine ⟨h1.upd hu (fun j hj e => (h4 j e).2 hj), h3.upd hu (fun j hj e => (h4 j e).1 hj), fun j hj => ?_⟩
  rcases hr j hj with e | e
  · exact h4 j e
  · exact ⟨fun e2 => by have := (h3.ge (by decide) j e2).2; omega, fun e2 => by have := (h1.foot j e2).2; omega⟩
end Go.Proofs.Ytoepflfchcoogaa
