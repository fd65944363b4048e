/- WorldClocks: the clocks beside a row of the call's own. -/
import Derived.Test.YtppphelihimidaaWorK
namespace Go.Proofs.Ytppphelihimidaa
open Go.RowKit
set_option linter.unusedVariables false
set_option linter.unusedSimpArgs false
/-- The clocks, and a row of as many numbers. -/
def CkP (w0 W : World) (p : Nat) (s : WrS) (b n : Nat) (cs ws : List Int) : Prop :=
  Clk w0 W p s cs ∧ Own w0.heap.size W (.slice (some ⟨b, 0, none⟩) n n) 1 (ws.map nC) ∧ ¬ room s.vc = some b ∧ b ≠ p ∧ cs.length = n ∧ ws.length = n
/-- Numbers as clocks'. -/
def WsOk (ws : List Int) (rho : Int) : Prop := Near ws rho ∧ ∀ j, 0 ≤ ws.getD j 0 ∧ ws.getD j 0 ≤ 1099511627776
section
variable {w0 W W' : World} {p b n : Nat} {s : WrS} {cs cs' ws : List Int}
theorem CkP.same (h : CkP w0 W p s b n cs ws) (hs : Same W W') : CkP w0 W' p s b n cs ws := by
  obtain ⟨h1, h2, h3, h4, h5, h6⟩ := h
  exact ⟨h1.same hs, h2.same hs, h3, h4, h5, h6⟩
theorem CkP.ticked {i c : Int} (h : CkP w0 W p s b n cs ws) (ht : Ticked w0 W p s cs i c cs' W') : CkP w0 W' p s b n cs' ws := by
  obtain ⟨h1, h2, h3, h4, h5, h6⟩ := h
  refine ⟨ht.1, h2.upd ht.2.1 (fun k hk e => ?_), h3, h4, ht.length.trans h5, h6⟩
  by_cases hn : n = 0
  · simp [room, hn] at hk
  · rw [room_some _ _ _ _ hn] at hk
    injection hk with hk
    exact h3 (by rw [e, hk])
theorem CkP.put (h : CkP w0 W p s b n cs ws) (k : Nat) (hk : k < n) (x : Int) : CkP w0 (W.setCell ⟨b, k, none⟩ (.int .i64 x)) p s b n cs (ws.set k x) ∧ W.frozen? ⟨b, k, none⟩ = false := by
  obtain ⟨h1, h2, h3, h4, h5, h6⟩ := h
  obtain ⟨q1, q2, q3⟩ := Own.set1 h2 k (by simp; omega) (nC x) rfl
  rw [Nat.zero_add] at q1 q2 q3
  have hr : room (.slice (some ⟨b, 0, none⟩) n n) = some b := room_some _ _ _ _ (by omega)
  have hb := h2.ge (by decide) b hr
  obtain ⟨c1, c2, c3, c4, c5, c6, c7⟩ := h1
  refine ⟨⟨⟨c1.upd q2 (fun e => by rw [hr] at e; injection e with e; exact h4 e), c2.upd q2 (fun j hj e => by rw [hr] at e; injection e with e; exact h3 (by rw [hj, e])), c3, c4, c5, c6, Same.into c7 q2 fun j hj => by rw [hr] at hj; injection hj with hj; omega⟩, ?_, h3, h4, h5, by rw [List.length_set]; exact h6⟩, q3⟩
  rw [List.map_set]
  exact q1
theorem CkP.cell (h : CkP w0 W p s b n cs ws) (k : Nat) (hk : k < n) : W.cell? ⟨b, k, none⟩ = some (.int .i64 (ws.getD k 0)) := by
  obtain ⟨b', off, e, c⟩ := Rdr.num h.2.1.rdr k (by have := h.2.2.2.2.2; omega)
  injection e with e
  injection e with e1 e2
  subst e1 e2
  rwa [Nat.zero_add] at c
end
theorem mix_step (cs ws : List Int) (k : Nat) (hk : k < cs.length) (h : ws.length = cs.length) : (cs.take k ++ ws.drop k).set k (cs.getD k 0) = cs.take (k + 1) ++ ws.drop (k + 1) := by
  rw [List.take_succ_eq_append_getElem hk, List.drop_eq_getElem_cons (show k < ws.length by omega), List.set_append_right _ _ (by simp; omega)]
  have : k - (cs.take k).length = 0 := by simp; omega
  rw [this, List.getD_eq_getElem?_getD, List.getElem?_eq_getElem hk, List.set_cons_zero, List.append_assoc]
  rfl
theorem apart_law {cs ws : List Int} {rho : Int} (h1 : Near cs rho) (h2 : Near ws rho) (hl : ws.length = cs.length) {a b : Nat} (ha : a < cs.length) (hb : b < cs.length) : cs.getD a 0 - ws.getD a 0 - (cs.getD b 0 - ws.getD b 0) ≤ 2 * rho := by
  have := h1 a b ha hb
  have := h2 b a (by omega) (by omega)
  omega
end Go.Proofs.Ytppphelihimidaa
