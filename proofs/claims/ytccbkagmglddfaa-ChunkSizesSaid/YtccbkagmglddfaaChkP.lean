/- The reader of pieces: a place is filled, a count goes up. -/
import Derived.Test.YtccbkagmglddfaaChkO
namespace Go.Proofs.Ytccbkagmglddfaa
open Go.RowKit
set_option linter.unusedVariables false
set_option linter.unusedSimpArgs false
set_option maxRecDepth 20000
/-- A cell of a row of the call's own is written. -/
theorem Own.set1 {base : Nat} {w : World} {b off n cap : Nat} {cs : List Value} (h : Own base w (.slice (some ⟨b, off, none⟩) n cap) 1 cs) (k : Nat) (hk : k < cs.length) (u : Value) (hu1 : u.oneCell' = true) :
    Own base (w.setCell ⟨b, off + k, none⟩ u) (.slice (some ⟨b, off, none⟩) n cap) 1 (cs.set k u) ∧ Upd (fun i => room (.slice (some ⟨b, off, none⟩) n cap) = some i) w (w.setCell ⟨b, off + k, none⟩ u) ∧
      w.frozen? ⟨b, off + k, none⟩ = false := by
  obtain ⟨A, n', cap', e, h1, h2, h3, h4⟩ := h
  injection e with e1 e2 e3
  subst e1 e2 e3
  rcases h4 with h4 | ⟨b', off', e1', hb, hc, hr⟩
  · omega
  · injection e1' with e1'
    injection e1' with e1 e4
    subst e1 e4
    have hc0 : cap ≠ 0 := by omega
    refine ⟨⟨_, n, cap, rfl, by simpa using h1, h2, h3, .inr ⟨b, off, rfl, hb, ?_, ?_⟩⟩, (Upd.refl _ w).setCell (p := ⟨b, off + k, none⟩) (fun _ => room_some _ _ _ _ hc0) _, (hr k (by omega)).2⟩
    · intro j v hj
      by_cases hjk : j = k
      · subst hjk
        rw [World.cell?_setCell_same _ _ _ (hc j _ (List.getElem?_eq_getElem hk))]
        simpa [hk] using hj
      · rw [World.cell?_setCell_other _ _ _ _ (addr_ne b off (Ne.symm hjk))]
        rw [List.getElem?_set_ne (Ne.symm hjk)] at hj
        exact hc j v hj
    · intro j hj
      rw [World.frozen?_setCell]
      refine ⟨?_, (hr j hj).2⟩
      by_cases hjk : j = k
      · subst hjk
        rw [World.cell?_setCell_same _ _ _ (hc j _ (List.getElem?_eq_getElem hk))]
        rfl
      · rw [World.cell?_setCell_other _ _ _ _ (addr_ne b off (Ne.symm hjk))]
        exact (hr j hj).1
section
variable {base : Nat} {W : World} {p : Nat} {vl : Value} {ls : List It} {d : Cs} {dn : Int} {sh : Bool}
theorem ChV.bump (h : ChV base W p vl ls d dn sh) (a : Int) : ChV base (W.setCell ⟨p, 3, none⟩ (.int .i64 a)) p vl ls { d with added := a } dn sh ∧ Upd (fun k => k = p) W (W.setCell ⟨p, 3, none⟩ (.int .i64 a)) := by
  have hu : Upd (fun k => k = p) W (W.setCell ⟨p, 3, none⟩ (.int .i64 a)) := (Upd.refl (fun k => k = p) W).setCell (p := ⟨p, 3, none⟩) (fun _ => rfl) _
  refine ⟨⟨h.1, h.2.1.set 3 _ (by simp [chC]), h.2.2.1.upd hu (fun k hk e => h.2.2.2.2.2 (by rw [← e]; exact hk)), h.2.2.2.1, fun x hx => (h.2.2.2.2.1 x hx).upd hu (fun k hk e => ((h.2.2.2.2.1 x hx).room k hk).2.2.1 e), h.2.2.2.2.2⟩, hu⟩
theorem ChV.put {bl ol N cl K : Nat} {u : Value} {b : List UInt8} {a : Addr} {n cap : Nat} (h : ChV base W p (.slice (some ⟨bl, ol, none⟩) N cl) ls d dn sh) (hK : K < ls.length) (hu : u = .slice (some a) n cap) (hf : Fresh base W u b)
    (hr : ∀ k, room u = some k → k ≠ p ∧ ¬ room (.slice (some ⟨bl, ol, none⟩) N cl) = some k) :
    ChV base (W.setCell ⟨bl, ol + K, none⟩ u) p (.slice (some ⟨bl, ol, none⟩) N cl) (ls.set K (u, some b)) { d with l := d.l.set K (some b) } dn sh ∧ Upd (fun k => room (.slice (some ⟨bl, ol, none⟩) N cl) = some k) W (W.setCell ⟨bl, ol + K, none⟩ u) ∧ W.frozen? ⟨bl, ol + K, none⟩ = false := by
  obtain ⟨h1, h2, h3⟩ := h.2.2.1.set1 K (by rw [List.length_map]; exact hK) u (by rw [hu]; rfl)
  have hpr := h.2.2.2.2.2
  have hoth : ∀ x, ItemAt base W p (.slice (some ⟨bl, ol, none⟩) N cl) x → ItemAt base (W.setCell ⟨bl, ol + K, none⟩ u) p (.slice (some ⟨bl, ol, none⟩) N cl) x := fun x hx => hx.upd h2 (fun k hk e => (hx.room k hk).2.2.2 e)
  refine ⟨⟨h.1, h.2.1.upd (by simp [chC]) h2 hpr, ?_, ?_, fun x hx => ?_, hpr⟩, h2, h3⟩
  · rw [List.map_set]; exact h1
  · rw [List.map_set, h.2.2.2.1]
  · rcases List.mem_or_eq_of_mem_set hx with hx | rfl
    · exact hoth x (h.2.2.2.2.1 x hx)
    · refine hoth _ ?_
      exact ⟨a, n, cap, hu, hf, hr⟩
end
end Go.Proofs.Ytccbkagmglddfaa
