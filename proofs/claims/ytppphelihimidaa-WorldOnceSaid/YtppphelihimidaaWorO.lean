/- The world's object: its cells, its clocks. Plain laws. -/
import Derived.Test.YtppphelihimidaaFoot
namespace Go.Proofs.Ytppphelihimidaa
open Go.RowKit
set_option linter.unusedVariables false
set_option linter.unusedSimpArgs false
/-- A 64-bit number's cell. -/
def nC (x : Int) : Value := .int .i64 x
theorem nC_one (xs : List Int) : ∀ y ∈ xs.map nC, y.oneCell' = true := by
  intro y hy
  obtain ⟨x, _, rfl⟩ := List.mem_map.1 hy
  rfl
/-- What stands in the ten cells. -/
structure WrS where
  rho : Int
  vl : Value
  mask : Int
  vc : Value
  tk : Int
  lo : Int
  dn : Int
  sh : Bool
/-- The cells in block p. -/
def WC (W : World) (p : Nat) (s : WrS) : Prop :=
  (W.cell? ⟨p, 0, none⟩ = some (.int .i64 s.rho) ∧ W.cell? ⟨p, 1, none⟩ = some s.vl ∧ W.cell? ⟨p, 2, none⟩ = some (.int .i64 s.mask) ∧ W.cell? ⟨p, 3, none⟩ = some s.vc ∧ W.cell? ⟨p, 4, none⟩ = some (.int .i64 s.tk) ∧
    W.cell? ⟨p, 5, none⟩ = some (.int .i64 s.lo) ∧ W.cell? ⟨p, 6, none⟩ = some (.int .u32 s.dn) ∧ W.cell? ⟨p, 7, none⟩ = some (.int .i32 0) ∧ W.cell? ⟨p, 8, none⟩ = some (.int .u32 0) ∧ W.cell? ⟨p, 9, none⟩ = some (.bool s.sh)) ∧
    ∀ j, j < 10 → W.frozen? ⟨p, j, none⟩ = false
theorem WC.lt {W : World} {p : Nat} {s : WrS} (hc : WC W p s) : p < W.heap.size := World.block_lt_of_cell? W _ hc.1.1
theorem WC.upd {S : Nat → Prop} {W W' : World} {p : Nat} {s : WrS} (hc : WC W p s) (hu : Upd S W W') (hn : ¬ S p) : WC W' p s := by
  have hlt := hc.lt
  obtain ⟨⟨c0, c1, c2, c3, c4, c5, c6, c7, c8, c9⟩, hf⟩ := hc
  exact ⟨⟨hu.cell c0 hn, hu.cell c1 hn, hu.cell c2 hn, hu.cell c3 hn, hu.cell c4 hn, hu.cell c5 hn, hu.cell c6 hn, hu.cell c7 hn, hu.cell c8 hn, hu.cell c9 hn⟩, fun j hj => (hu.frozen (p := ⟨p, j, none⟩) hlt hn).trans (hf j hj)⟩
theorem WC.new (W : World) (rho : Int) (vc : Value) (t : TypeId) (p : Nat) (hp : p = W.heap.size) : WC (W.alloc (.cells #[.int .i64 rho, .slice none 0 0, .int .i64 0, vc, .int .i64 0, .int .i64 0, .int .u32 0, .int .i32 0, .int .u32 0, .bool false] t)) p ⟨rho, .slice none 0 0, 0, vc, 0, 0, 0, false⟩ := by
  subst hp
  have hn := heap_alloc_new W (.cells #[.int .i64 rho, .slice none 0 0, .int .i64 0, vc, .int .i64 0, .int .i64 0, .int .u32 0, .int .i32 0, .int .u32 0, .bool false] t)
  refine ⟨⟨?_, ?_, ?_, ?_, ?_, ?_, ?_, ?_, ?_, ?_⟩, fun j hj => ?_⟩
  all_goals first | (rw [cell_of_row _ _ _ _ t (0, 0) hn]; rfl) | (unfold World.frozen?; rw [hn]; simp)
theorem woff_ne (b : Nat) {k j : Nat} (h : k ≠ j) : (⟨b, k, none⟩ : Addr) ≠ ⟨b, j, none⟩ := by
  intro e
  injection e with _ e
  omega
/-- A cell of a row of the call's own is written. -/
theorem Own.set1 {base : Nat} {w : World} {b off n cap : Nat} {cs : List Value} (h : Own base w (.slice (some ⟨b, off, none⟩) n cap) 1 cs) (k : Nat) (hk : k < cs.length) (u : Value) (hu1 : u.oneCell' = true) :
    Own base (w.setCell ⟨b, off + k, none⟩ u) (.slice (some ⟨b, off, none⟩) n cap) 1 (cs.set k u) ∧ Upd (fun i => room (.slice (some ⟨b, off, none⟩) n cap) = some i) w (w.setCell ⟨b, off + k, none⟩ u) ∧
      w.frozen? ⟨b, off + k, none⟩ = false := by
  obtain ⟨A, n', cap', e, h1, h2, h3, h4⟩ := h
  injection e with e1 e2 e3
  subst e1 e2 e3
  rcases h4 with h4 | ⟨b', off', e1', hb, hc, hr⟩
  · omega
  · injection e1' with e1'
    injection e1' with e1 e4
    subst e1 e4
    have hc0 : cap ≠ 0 := by omega
    refine ⟨⟨_, n, cap, rfl, by simpa using h1, h2, h3, .inr ⟨b, off, rfl, hb, ?_, ?_⟩⟩, (Upd.refl _ w).setCell (p := ⟨b, off + k, none⟩) (fun _ => room_some _ _ _ _ hc0) _, (hr k (by omega)).2⟩
    · intro j v hj
      by_cases hjk : j = k
      · subst hjk
        rw [World.cell?_setCell_same _ _ _ (hc j _ (List.getElem?_eq_getElem hk))]
        simpa [hk] using hj
      · rw [World.cell?_setCell_other _ _ _ _ (addr_ne b off (Ne.symm hjk))]
        rw [List.getElem?_set_ne (Ne.symm hjk)] at hj
        exact hc j v hj
    · intro j hj
      rw [World.frozen?_setCell]
      refine ⟨?_, (hr j hj).2⟩
      by_cases hjk : j = k
      · subst hjk
        rw [World.cell?_setCell_same _ _ _ (hc j _ (List.getElem?_eq_getElem hk))]
        rfl
      · rw [World.cell?_setCell_other _ _ _ _ (addr_ne b off (Ne.symm hjk))]
        exact (hr j hj).1
/-- Where number k of a row of numbers lies. -/
theorem Rdr.num {w : World} {A : Option Addr} {n cap : Nat} {xs : List Int} (h : Rdr w (.slice A n cap) 1 (xs.map nC)) (k : Nat) (hk : k < xs.length) : ∃ b off, A = some (⟨b, off, none⟩ : Addr) ∧ w.cell? ⟨b, off + k, none⟩ = some (.int .i64 (xs.getD k 0)) := by
  obtain ⟨A', n', cap', e, h1, h2, h3, h4⟩ := h
  injection e with e1 e2 e3
  subst e1
  rcases h4 with h4 | ⟨b, off, rfl, hc⟩
  · simp at h4
    subst h4
    simp at hk
  · refine ⟨b, off, rfl, hc _ _ ?_⟩
    rw [List.getElem?_map, List.getElem?_eq_getElem hk, List.getD_eq_getElem?_getD, List.getElem?_eq_getElem hk]
    rfl
theorem Rdr.open_ {w : World} {v : Value} {xs : List Int} (h : Rdr w v 1 (xs.map nC)) : ∃ A cap, v = .slice A xs.length cap ∧ xs.length ≤ cap ∧ cap ≤ 9223372036854775807 := by
  obtain ⟨A, n, cap, rfl, h1, h2, h3, h4⟩ := h
  obtain rfl : xs.length = n := by simpa using h1
  exact ⟨A, cap, rfl, h2, h3⟩
/-- Where the first number stands of which something is true; -1: nowhere. -/
def fIdx (f : Int → Bool) (xs : List Int) : Int := match xs.findIdx? f with
  | some i => (i : Int)
  | none => -1
theorem fIdx_none (f : Int → Bool) (xs : List Int) (h : ∀ j (hj : j < xs.length), f (xs.getD j 0) = false) : fIdx f xs = -1 := by
  have : xs.findIdx? f = none := by
    rw [List.findIdx?_eq_none_iff]
    intro x hx
    obtain ⟨j, hj, rfl⟩ := List.getElem_of_mem hx
    have := h j hj
    rwa [List.getD_eq_getElem?_getD, List.getElem?_eq_getElem hj] at this
  unfold fIdx
  rw [this]
theorem fIdx_some (f : Int → Bool) (xs : List Int) (k : Nat) (hk : k < xs.length) (h1 : f (xs.getD k 0) = true) (h2 : ∀ j (hj : j < xs.length), j < k → f (xs.getD j 0) = false) : fIdx f xs = k := by
  have : xs.findIdx? f = some k := by
    rw [List.findIdx?_eq_some_iff_getElem]
    rw [List.getD_eq_getElem?_getD, List.getElem?_eq_getElem hk] at h1
    refine ⟨hk, h1, fun j hj => ?_⟩
    have := h2 j (by omega) hj
    rw [List.getD_eq_getElem?_getD, List.getElem?_eq_getElem (by omega)] at this
    simpa using this
  unfold fIdx
  rw [this]
/-- Is a number none of a machine's? -/
def outB (n : Nat) (i : Int) : Bool := decide (i < 0) || decide ((n : Int) ≤ i)
theorem outB_no {n : Nat} {i : Int} (h0 : 0 ≤ i) (h1 : i < n) : outB n i = false := by
  unfold outB
  simp
  omega
theorem outB_yes {n : Nat} {i : Int} (h : i < 0 ∨ (n : Int) ≤ i) : outB n i = true := by
  unfold outB
  simp
  omega
/-- Are they all machines? -/
def thereL (n : Nat) (xs : List Int) : Bool := !(decide (0 ≤ fIdx (outB n) xs))
theorem thereL_one {n : Nat} {i : Int} : thereL n [i] = !(outB n i) := by
  unfold thereL fIdx
  cases h : outB n i <;> simp [List.findIdx?_cons, h]
theorem thereL_two {n : Nat} {i j : Int} : thereL n [i, j] = (!(outB n i) && !(outB n j)) := by
  unfold thereL fIdx
  cases h : outB n i <;> cases k : outB n j <;> simp [List.findIdx?_cons, h, k]
end Go.Proofs.Ytppphelihimidaa
