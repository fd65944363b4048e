/- The world's clocks as an object; how near they stay. -/
import Derived.Test.YtppphelihimidaaWorT
namespace Go.Proofs.Ytppphelihimidaa
open Go.RowKit
set_option linter.unusedVariables false
set_option linter.unusedSimpArgs false
/-- No two clocks differ by more than rho. -/
def Near (cs : List Int) (rho : Int) : Prop := ∀ a b, a < cs.length → b < cs.length → cs.getD a 0 - cs.getD b 0 ≤ rho
theorem getD_set (cs : List Int) (i : Nat) (hi : i < cs.length) (x : Int) (j : Nat) : (cs.set i x).getD j 0 = if j = i then x else cs.getD j 0 := by
  by_cases h : j = i
  · subst h
    simp [List.getD_eq_getElem?_getD, hi]
  · rw [if_neg h, List.getD_eq_getElem?_getD, List.getElem?_set_ne (Ne.symm h), List.getD_eq_getElem?_getD]
theorem Near.tick {cs : List Int} {rho : Int} {i : Nat} (h : Near cs rho) (h1 : 1 ≤ rho) (hi : i < cs.length) (hm : MayOk cs rho i) : Near (cs.set i (cs.getD i 0 + 1)) rho := by
  intro a b ha hb
  rw [List.length_set] at ha hb
  rw [getD_set cs i hi, getD_set cs i hi]
  have h0 := h a b ha hb
  split
  · split
    · omega
    · rename_i h2 h3; subst h2; exact hm.2 b hb h3
  · split
    · rename_i h2 h3; subst h3; omega
    · exact h0
theorem CkOk.tick {cs : List Int} {rho : Int} {i : Nat} (h : CkOk cs rho) (hi : i < cs.length) (hm : MayOk cs rho i) : CkOk (cs.set i (cs.getD i 0 + 1)) rho := by
  obtain ⟨h1, h2, h3, h4, h5⟩ := h
  refine ⟨h1, h2, by rw [List.length_set]; exact h3, by rw [List.length_set]; exact h4, fun j => ?_⟩
  rw [getD_set cs i hi]
  have hi5 := h5 i
  have := hm.1
  split
  · omega
  · exact h5 j
theorem zeros_get (n j : Nat) : (List.replicate n (0 : Int)).getD j 0 = 0 := by
  rw [List.getD_eq_getElem?_getD, List.getElem?_replicate]
  split <;> rfl
theorem Near.zero (n : Nat) (rho : Int) (h : 1 ≤ rho) : Near (List.replicate n 0) rho := fun a b ha hb => by rw [zeros_get, zeros_get]; omega
theorem CkOk.zero (n : Nat) (rho : Int) (h1 : 1 ≤ rho) (h2 : rho ≤ 1000) (h3 : 1 ≤ n) (h4 : n ≤ 5) : CkOk (List.replicate n 0) rho := ⟨h1, h2, by simpa using h3, by simpa using h4, fun j => by rw [zeros_get]; omega⟩
/-- The clock that is behind may always tick. -/
theorem may_some {cs : List Int} {rho : Int} (h : CkOk cs rho) (hb : ∀ j, cs.getD j 0 ≤ 300) : ∃ i, i < cs.length ∧ MayOk cs rho i := by
  obtain ⟨h1, h2, h3, h4, h5⟩ := h
  obtain ⟨k1, j, hj, k2⟩ := minTo_le cs cs.length (Nat.le_refl _) (by omega)
  refine ⟨j, hj, by have := hb j; omega, fun k hk _ => ?_⟩
  have := k1 k hk
  omega
/-- The clocks' part of a world of the call's own. -/
def Clk (w0 W : World) (p : Nat) (s : WrS) (cs : List Int) : Prop := WC W p s ∧ Own w0.heap.size W s.vc 1 (cs.map nC) ∧ CkOk cs s.rho ∧ Near cs s.rho ∧ ¬ room s.vc = some p ∧ w0.heap.size ≤ p ∧ Same w0 W
section
variable {w0 W W' : World} {p : Nat} {s : WrS} {cs : List Int}
theorem Clk.same (h : Clk w0 W p s cs) (hs : Same W W') : Clk w0 W' p s cs := by
  obtain ⟨h1, h2, h3, h4, h5, h6, h7⟩ := h
  exact ⟨h1.upd hs (fun h => h), h2.same hs, h3, h4, h5, h6, Same.trans h7 hs⟩
/-- What a tick leaves. -/
def Ticked (w0 W : World) (p : Nat) (s : WrS) (cs : List Int) (i : Int) (c : Int) (cs' : List Int) (W' : World) : Prop :=
  Clk w0 W' p s cs' ∧ Upd (fun k => room s.vc = some k) W W' ∧ ((cs' = cs ∧ c ≠ 0) ∨ (∃ k : Nat, i = k ∧ k < cs.length ∧ MayOk cs s.rho k ∧ cs' = cs.set k (cs.getD k 0 + 1) ∧ c = 0))
theorem tick_o (h : Clk w0 W p s cs) (i : Int) : Calls Try.prog 10 #[.pointer (some ⟨p, 0, none⟩), .int .i64 i] W fun e w' => ∃ c cs', e = .returned (.int .i64 c) ∧ Ticked w0 W p s cs i c cs' w' := by
  obtain ⟨h1, h2, h3, h4, h5, h6, h7⟩ := id h
  by_cases hi : i < 0 ∨ (cs.length : Int) ≤ i
  · refine (tick_out h1 h2.rdr i hi).mono ?_
    rintro e w' ⟨rfl, hs⟩
    exact ⟨_, cs, rfl, h.same hs, hs.mono fun _ _ h => h.elim, .inl ⟨rfl, by decide⟩⟩
  · obtain ⟨k, rfl⟩ : ∃ k : Nat, i = k := ⟨i.toNat, by omega⟩
    by_cases hm : MayOk cs s.rho k
    · refine (tick_ok h1 h2 h3 k (by omega) hm).mono ?_
      rintro e w' ⟨rfl, ho, hu⟩
      refine ⟨_, _, rfl, ⟨h1.upd hu h5, ho, h3.tick (by omega) hm, h4.tick h3.1 (by omega) hm, h5, h6, Same.into h7 hu fun j hj => (h2.ge (by decide) j hj).1⟩, hu, .inr ⟨k, rfl, by omega, hm, rfl, rfl⟩⟩
    · refine (tick_not h1 h2.rdr h3 k (by omega) hm).mono ?_
      rintro e w' ⟨rfl, hs⟩
      exact ⟨_, cs, rfl, h.same hs, hs.mono fun _ _ h => h.elim, .inl ⟨rfl, by decide⟩⟩
theorem clock_o (h : Clk w0 W p s cs) (k : Nat) (hk : k < cs.length) : Calls Try.prog 9 #[.pointer (some ⟨p, 0, none⟩), .int .i64 k] W fun e w' => e = .returned (.int .i64 (cs.getD k 0)) ∧ Same W w' :=
  clock_yes h.1 h.2.1.rdr k hk (by have := h.2.2.1.2.2.2.1; omega)
theorem may_o (h : Clk w0 W p s cs) (i : Int) : Calls Try.prog 11 #[.pointer (some ⟨p, 0, none⟩), .int .i64 i] W fun e w' => Says (MayI cs s.rho i) e ∧ Same W w' := may_any h.1 h.2.1.rdr h.2.2.1 i
theorem Clk.new {n rho : Nat} {e : Ending} (h : NewR w0 n rho e W) (h1 : 1 ≤ n) (h2 : n ≤ 5) (h3 : 1 ≤ rho) (h4 : rho ≤ 1000) : Clk w0 W (w0.heap.size + 1) ⟨rho, .slice none 0 0, 0, .slice (some ⟨w0.heap.size, 0, none⟩) n n, 0, 0, 0, false⟩ (List.replicate n 0) := by
  obtain ⟨-, q1, q2, q3⟩ := h
  refine ⟨q1, q2, CkOk.zero n rho (by omega) (by omega) h1 h2, Near.zero n rho (by omega), fun e => ?_, by omega, q3⟩
  rw [room_some _ _ _ _ (by omega)] at e
  injection e with e
  omega
theorem Ticked.length {i c : Int} {cs' : List Int} (h : Ticked w0 W p s cs i c cs' W') : cs'.length = cs.length := by
  rcases h.2.2 with h | ⟨k, -, -, -, rfl, -⟩
  · rw [h.1]
  · rw [List.length_set]
theorem Ticked.mono {i c : Int} {cs' : List Int} (h : Ticked w0 W p s cs i c cs' W') : ∀ j, cs.getD j 0 ≤ cs'.getD j 0 := by
  intro j
  rcases h.2.2 with ⟨rfl, -⟩ | ⟨k, -, hk, -, rfl, -⟩
  · omega
  · rw [getD_set cs k hk]
    split
    · rename_i e; subst e; omega
    · omega
theorem Ticked.most {i c : Int} {cs' : List Int} {m : Int} (h : Ticked w0 W p s cs i c cs' W') (hb : ∀ j, cs.getD j 0 ≤ m) : ∀ j, cs'.getD j 0 ≤ m + 1 := by
  intro j
  rcases h.2.2 with ⟨rfl, -⟩ | ⟨k, -, hk, -, rfl, -⟩
  · have := hb j; omega
  · rw [getD_set cs k hk]
    have := hb j
    have := hb k
    split <;> omega
end
end Go.Proofs.Ytppphelihimidaa
