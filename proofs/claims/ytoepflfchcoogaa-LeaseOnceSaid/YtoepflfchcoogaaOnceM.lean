/- LeaseOnce's plain law: the two loops over what was told. -/
import Derived.Test.YtoepflfchcoogaaOnceK
namespace Go.Proofs.Ytoepflfchcoogaa
open Go.RowKit
set_option linter.unusedVariables false
set_option linter.unusedSimpArgs false
theorem drop_getD (xs : List Int) (k : Nat) (h : k < xs.length) : xs.drop k = xs.getD k 0 :: xs.drop (k + 1) := by
  rw [List.drop_eq_getElem_cons h, List.getD_eq_getElem?_getD, List.getElem?_eq_getElem h]
  rfl
theorem filter_none (f : Int × Int → Bool) (ls : List (Int × Int)) (h : ls.filter f = []) : ls.filter (fun x => !(f x)) = ls := by
  rw [List.filter_eq_self]
  intro x hx
  have := List.filter_eq_nil_iff.1 h x hx
  simpa using this
/-- The first loop: those up to number 'last' have been gone over; those told from k on stand behind. -/
def OnceSt (f : Int × Int → Bool) (cur : List (Int × Int)) (tol : List Int) (k : Nat) (last : Int) : Prop :=
  ∃ pre rest, cur = pre ++ rest ∧ last = (pre.length : Int) - 1 ∧ (rest.filter f).map (·.1) = tol.drop k
theorem OnceSt.start (f : Int × Int → Bool) (cur : List (Int × Int)) : OnceSt f cur ((cur.filter f).map (·.1)) 0 (-1) := ⟨[], cur, rfl, rfl, rfl⟩
theorem next_of {f : Int × Int → Bool} {rest : List (Int × Int)} {tol : List Int} {k : Nat} (h : (rest.filter f).map (·.1) = tol.drop k) (hk : k < tol.length) :
    ∃ r1 x r2, rest = r1 ++ x :: r2 ∧ r1.filter f = [] ∧ f x = true ∧ x.1 = tol.getD k 0 ∧ (r2.filter f).map (·.1) = tol.drop (k + 1) := by
  rw [drop_getD tol k hk] at h
  cases hf : rest.filter f with
  | nil => rw [hf] at h; simp at h
  | cons x t =>
    rw [hf] at h
    simp only [List.map_cons, List.cons.injEq] at h
    obtain ⟨r1, r2, e1, e2, e3, e4⟩ := filter_split f rest x t hf
    exact ⟨r1, x, r2, e1, e2, e3, h.1, by rw [e4]; exact h.2⟩
theorem OnceSt.step {f : Int × Int → Bool} {cur : List (Int × Int)} {tol : List Int} {k : Nat} {last : Int} (hd : Distinct cur) (h : OnceSt f cur tol k last) (hk : k < tol.length) :
    ∃ n : Nat, n < cur.length ∧ placeN (cur.map (·.1)) (tol.getD k 0) = n ∧ last < (n : Int) ∧ (∃ x ∈ cur, f x = true ∧ (cur.map (·.2)).getD n 0 = x.2) ∧ OnceSt f cur tol (k + 1) n := by
  obtain ⟨pre, rest, rfl, rfl, h3⟩ := h
  obtain ⟨r1, x, r2, rfl, e2, e3, e4, e5⟩ := next_of h3 hk
  rw [show pre ++ (r1 ++ x :: r2) = (pre ++ r1) ++ x :: r2 by simp] at hd ⊢
  have hp := placeN_at (pre ++ r1) r2 x hd
  refine ⟨(pre ++ r1).length, by simp, by rw [← e4]; exact hp, by simp; omega, ⟨x, by simp, e3, ?_⟩, ⟨pre ++ r1 ++ [x], r2, by simp, by simp; omega, e5⟩⟩
  rw [List.getD_eq_getElem?_getD, List.getElem?_map, List.getElem?_append_right (Nat.le_refl _)]
  simp
/-- The second loop: those told from k on still wait. -/
def OnceRm (f : Int × Int → Bool) (cur0 : List (Int × Int)) (tol : List Int) (k : Nat) (cur : List (Int × Int)) : Prop :=
  Distinct cur ∧ (cur.filter f).map (·.1) = tol.drop k ∧ cur.filter (fun x => !(f x)) = cur0.filter (fun x => !(f x)) ∧ cur.length ≤ 100
theorem OnceRm.start {f : Int × Int → Bool} {cur : List (Int × Int)} (hd : Distinct cur) (hl : cur.length ≤ 100) : OnceRm f cur ((cur.filter f).map (·.1)) 0 cur := ⟨hd, rfl, rfl, hl⟩
theorem OnceRm.step {f : Int × Int → Bool} {cur0 cur : List (Int × Int)} {tol : List Int} {k : Nat} (h : OnceRm f cur0 tol k cur) (hk : k < tol.length) :
    ∃ n : Nat, n < cur.length ∧ placeN (cur.map (·.1)) (tol.getD k 0) = n ∧ OnceRm f cur0 tol (k + 1) (cur.take n ++ cur.drop (n + 1)) := by
  obtain ⟨h1, h2, h3, h4⟩ := h
  obtain ⟨r1, x, r2, rfl, e2, e3, e4, e5⟩ := next_of h2 hk
  have hp := placeN_at r1 r2 x h1
  refine ⟨r1.length, by simp, by rw [← e4]; exact hp, ?_⟩
  have e : (r1 ++ x :: r2).take r1.length ++ (r1 ++ x :: r2).drop (r1.length + 1) = r1 ++ r2 := by
    rw [List.take_left, ← List.drop_drop, List.drop_left]
    rfl
  rw [e]
  refine ⟨?_, by rw [List.filter_append, e2]; exact e5, ?_, by simp at h4 ⊢; omega⟩
  · exact List.Nodup.sublist (List.Sublist.map _ (List.Sublist.append (List.Sublist.refl _) (List.sublist_cons_self ..))) h1
  · rw [← h3, List.filter_append, List.filter_append, List.filter_cons_of_neg (by simp [e3])]
theorem OnceRm.done {f : Int × Int → Bool} {cur0 cur : List (Int × Int)} {tol : List Int} (h : OnceRm f cur0 tol tol.length cur) : cur = cur0.filter (fun x => !(f x)) := by
  obtain ⟨h1, h2, h3, h4⟩ := h
  rw [List.drop_length] at h2
  rw [← h3]
  exact (filter_none f cur (List.map_eq_nil_iff.1 h2)).symm
end Go.Proofs.Ytoepflfchcoogaa
