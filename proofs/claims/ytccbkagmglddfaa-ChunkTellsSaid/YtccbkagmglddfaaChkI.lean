/- What ChunkBack holds: which pieces are there, a row that says so. -/
import Derived.Test.YtccbkagmglddfaaChkJ
namespace Go.Proofs.Ytccbkagmglddfaa
open Go.RowKit
set_option linter.unusedVariables false
set_option linter.unusedSimpArgs false
set_option maxRecDepth 20000
theorem stC_eq {id : Int} {b : List UInt8} {size : Int} {D E : Nat → Bool} {a : Int} (h : ∀ k, k < splN b.length size → D k = E k) : stC id b size D a = stC id b size E a := by
  unfold stC stL
  congr 1
  refine List.map_congr_left fun k hk => ?_
  rw [h k (List.mem_range.1 hk)]
theorem jn_split {id size : Int} {b : List UInt8} (h : splE id b.length size = 0) : ∀ m, m + 1 ≤ splN b.length size → jn Cs.none (splL id b size) = jn (stC id b size (fun j => decide (j < m + 1)) ((m : Int) + 1)) ((splL id b size).drop (m + 1))
  | 0, hm => by
    have hst := jn_step (c := Cs.none) (splL_get h (k := 0) (by omega))
    obtain ⟨h1, h2, -, -⟩ := splE_ok h
    have ha := add_first h (k := 0) (by omega) Cs.none (by simp [Cs.none]; omega)
    rw [List.drop_zero] at hst
    rw [hst, if_pos ha.1, ha.2]
    congr 1
    rw [stC_eq (E := fun j => decide (j < 0 + 1)) (fun j hj => by apply decide_eq_decide.2; omega)]
    simp [Cs.none]
  | m + 1, hm => by
    have ih := jn_split h m (by omega)
    have hst := jn_step (c := stC id b size (fun j => decide (j < m + 1)) ((m : Int) + 1)) (splL_get h (k := m + 1) (by omega))
    have ha := add_next h (k := m + 1) (by omega) (fun j => decide (j < m + 1)) ((m : Int) + 1)
    rw [ih, hst, if_pos ha.1, ha.2]
    congr 1
    rw [stC_eq (E := fun j => decide (j < m + 1 + 1)) (fun j hj => by rw [← Bool.decide_or]; apply decide_eq_decide.2; omega)]
    congr 1
theorem join_split {id size : Int} {b : List UInt8} (h : splE id b.length size = 0) : joinE (splL id b size) = 0 ∧ joinB (splL id b size) = b := by
  have hp := splN_pos b.length size
  have hj := jn_split h (splN b.length size - 1) (by omega)
  rw [Nat.sub_add_cancel hp, List.drop_eq_nil_of_le (by rw [splL_len h]; exact Nat.le_refl _)] at hj
  have hw := whole_all (id := id) h (D := fun j => decide (j < splN b.length size)) (fun k hk => by simpa using hk) (((splN b.length size - 1 : Nat) : Int) + 1)
  unfold joinE joinB
  rw [hj]
  simp only [jn, hw]
  simp
/-- The reader with pieces D there. -/
def BackC (id : Int) (b : List UInt8) (size : Int) (D : Nat → Bool) (i : Nat) (c : Cs) : Prop := c.added ≤ i ∧ ((c = Cs.none ∧ ∀ k, D k = false) ∨ ∃ a, c = stC id b size D a)
theorem BackC.add {id : Int} {b : List UInt8} {size : Int} {D : Nat → Bool} {i : Nat} {c : Cs} (h : BackC id b size D i c) (he : splE id b.length size = 0) {k : Nat} (hk : k < splN b.length size) :
    c.addE (splP id b size k) = 0 ∧ BackC id b size (fun j => D j || decide (j = k)) (i + 1) (c.add (splP id b size k)) := by
  have hc := add_count c (splP id b size k)
  obtain ⟨h1, ⟨rfl, hD⟩ | ⟨a, rfl⟩⟩ := h
  · have ha := add_first he hk Cs.none (by have := (splE_ok he).1.1; simp [Cs.none]; omega)
    refine ⟨ha.1, by omega, .inr ⟨Cs.none.added + 1, ?_⟩⟩
    rw [ha.2]
    exact stC_eq (fun j hj => by rw [hD j]; simp)
  · have ha := add_next he hk D a
    exact ⟨ha.1, by omega, .inr ⟨_, ha.2⟩⟩
theorem BackC.whole {id : Int} {b : List UInt8} {size : Int} {D : Nat → Bool} {i : Nat} {c : Cs} (h : BackC id b size D i c) (he : splE id b.length size = 0) {k : Nat} (hk : k < splN b.length size) (hD : D k = true) :
    (missL c.l).length = lackN (splN b.length size) D ∧ c.whole = if lackN (splN b.length size) D = 0 then some b else none := by
  obtain ⟨h1, ⟨rfl, hD2⟩ | ⟨a, rfl⟩⟩ := h
  · rw [hD2 k] at hD; cases hD
  · refine ⟨miss_length b size.toNat _ D, ?_⟩
    by_cases h0 : lackN (splN b.length size) D = 0
    · rw [if_pos h0]; exact whole_all he (lackN_zero.1 h0) a
    · rw [if_neg h0]
      have : ∃ j, j < splN b.length size ∧ D j = false := by
        apply Classical.byContradiction
        intro hno
        exact h0 (lackN_zero.2 fun j hj => by
          cases hj2 : D j with
          | true => rfl
          | false => exact absurd ⟨j, hj, hj2⟩ hno)
      obtain ⟨j, hj, hj2⟩ := this
      exact whole_not hj hj2 a
/-- The row of marks. -/
def dB (N : Nat) (D : Nat → Bool) : List Value := (List.range N).map fun k => .bool (D k)
theorem dB_length (N : Nat) (D : Nat → Bool) : (dB N D).length = N := by simp [dB]
theorem dB_get (N : Nat) (D : Nat → Bool) {k : Nat} (hk : k < N) : (dB N D)[k]? = some (.bool (D k)) := by
  unfold dB
  rw [List.getElem?_map, List.getElem?_range hk]
  rfl
theorem dB_set (N : Nat) (D : Nat → Bool) {k : Nat} (hk : k < N) : (dB N D).set k (.bool true) = dB N (fun j => D j || decide (j = k)) := by
  refine List.ext_getElem? fun j => ?_
  by_cases hj : j < N
  · rw [dB_get N _ hj]
    by_cases e : k = j
    · subst e
      rw [List.getElem?_set_self (by rw [dB_length]; exact hj)]
      simp
    · rw [List.getElem?_set_ne e, dB_get N D hj]
      simp [Ne.symm e]
  · rw [List.getElem?_eq_none (by rw [List.length_set, dB_length]; omega), List.getElem?_eq_none (by rw [dB_length]; omega)]
theorem dB_same (N : Nat) {D E : Nat → Bool} (h : ∀ k, k < N → D k = E k) : dB N D = dB N E := by
  unfold dB
  refine List.map_congr_left fun k hk => ?_
  rw [h k (List.mem_range.1 hk)]
/-- The reader beside a block of another's. -/
def RdyX (wN W : World) (X p : Nat) (c : Cs) : Prop := (∃ vl ls, ChV wN.heap.size W p vl ls c 0 false ∧ ∀ k, cfoot p vl ls k → k ≠ X) ∧ X < W.heap.size ∧ LowK wN.heap.size wN W ∧ c.fine
section
variable {wN W W' : World} {X p : Nat} {c : Cs}
theorem RdyX.rdy (h : RdyX wN W X p c) : Rdy wN W p c := by
  obtain ⟨⟨vl, ls, hv, -⟩, -, hl, hf⟩ := h
  exact ⟨⟨vl, ls, hv⟩, hl, hf⟩
theorem RdyX.same (h : RdyX wN W X p c) (hs : Same W W') : RdyX wN W' X p c := by
  obtain ⟨⟨vl, ls, hv, ht⟩, hx, hl, hf⟩ := h
  exact ⟨⟨vl, ls, hv.same hs, ht⟩, Nat.lt_of_lt_of_le hx hs.size, hl.trans (LowK.of hs), hf⟩
theorem RdyX.off (h : RdyX wN W X p c) (hu : Upd (fun k => k = X) W W') (hX : wN.heap.size ≤ X) : RdyX wN W' X p c := by
  obtain ⟨⟨vl, ls, hv, ht⟩, hx, hl, hf⟩ := h
  exact ⟨⟨vl, ls, hv.upd hu (fun k hk e => ht k hk e), ht⟩, Nat.lt_of_lt_of_le hx hu.size, hl.trans (hu.mono (fun k _ hk => by rw [hk]; exact hX)), hf⟩
theorem RdyX.add (h : RdyX wN W X p c) (hadd : c.added ≤ 1000000) (A : Option Addr) (cap : Nat) (pb : List UInt8) (hp : Bs W (.slice A pb.length cap) pb) (hl : pb.length ≤ 140737488351232) :
    Calls Try.prog 12 #[.pointer (some ⟨p, 0, none⟩), .slice A pb.length cap] W fun e w' => e = .returned (.int .i64 (c.addE pb)) ∧ RdyX wN w' X p (c.add pb) ∧ Upd (fun k => wN.heap.size ≤ k ∧ k ≠ X) W w' := by
  obtain ⟨⟨vl, ls, hv, ht⟩, hx, hlo, hf⟩ := h
  refine (chadd_any hv hlo.size hf.1 ⟨hf.2.2.1, hadd⟩ A cap pb hp hl).mono ?_
  rintro e w' ⟨rfl, vl', ls', h1, h2, h3⟩
  have h4 : Upd (fun k => wN.heap.size ≤ k ∧ k ≠ X) W w' := h2.mono (fun k _ hk => by
    rcases hk with rfl | hk
    · exact ⟨hv.1, ht _ (.inl rfl)⟩
    · exact ⟨(hv.foot k (.inr (.inl hk))).1, ht _ (.inr (.inl hk))⟩)
  refine ⟨rfl, ⟨⟨vl', ls', h1, fun k hk => ?_⟩, Nat.lt_of_lt_of_le hx h4.size, hlo.trans (h4.mono (fun k _ hk => hk.1)), hf.add pb⟩, h4⟩
  rcases h3 k hk with h5 | h5
  · exact ht k h5
  · omega
end
theorem lack_turn {N : Nat} {D : Nat → Bool} (hN : 1 ≤ N ∧ N ≤ 256) (h : ∀ i, 100 ≤ i → i < 600 → D (i % N) = true) : lackN N D = 0 := by
  refine lackN_zero.2 fun k hk => ?_
  have hm : 100 ≤ 100 * N := Nat.le_mul_of_pos_right 100 hN.1
  have h2 := Nat.mod_lt (k + 100 * N - 100) hN.1
  have e : (100 + (k + 100 * N - 100) % N) % N = k := by
    rw [Nat.add_mod_mod, show 100 + (k + 100 * N - 100) = k + 100 * N by omega, Nat.add_mul_mod_self_right]
    exact Nat.mod_eq_of_lt hk
  have h3 := h (100 + (k + 100 * N - 100) % N) (by omega) (by omega)
  rw [e] at h3
  exact h3
end Go.Proofs.Ytccbkagmglddfaa
