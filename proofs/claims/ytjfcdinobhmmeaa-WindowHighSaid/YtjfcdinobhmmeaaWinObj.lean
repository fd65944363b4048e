/- The window's object: its seven cells; what New, Expected, Held, Busy, Done do. -/
import Derived.Test.YtjfcdinobhmmeaaWinF
namespace Go.Proofs.Ytjfcdinobhmmeaa
open Go.RowKit
set_option linter.unusedVariables false
set_option linter.unusedSimpArgs false

/-- The cells of a window in block p. -/
def WinC (W : World) (p : Nat) (nx sz bz : Int) (vl vt vn : Value) (er : Int) : Prop :=
  (W.cell? ⟨p, 0, none⟩ = some (.int .u32 nx) ∧ W.cell? ⟨p, 1, none⟩ = some (.int .i64 sz) ∧ W.cell? ⟨p, 2, none⟩ = some (.int .i64 bz) ∧ W.cell? ⟨p, 3, none⟩ = some vl ∧ W.cell? ⟨p, 4, none⟩ = some vt ∧ W.cell? ⟨p, 5, none⟩ = some vn ∧ W.cell? ⟨p, 6, none⟩ = some (.int .i64 er)) ∧
  ∀ j, j < 7 → W.frozen? ⟨p, j, none⟩ = false
theorem cell_below {w : World} {a : Addr} {v : Value} (h : w.cell? a = some v) : a.block < w.heap.size := by
  unfold World.cell? at h
  cases hk : w.heap[a.block]? with
  | none => rw [hk] at h; simp at h
  | some o => exact (Array.getElem?_eq_some_iff.1 hk).1
theorem WinC.lt {W : World} {p : Nat} {nx sz bz er : Int} {vl vt vn : Value} (h : WinC W p nx sz bz vl vt vn er) : p < W.heap.size := cell_below h.1.1
theorem WinC.upd {S : Nat → Prop} {W W' : World} {p : Nat} {nx sz bz er : Int} {vl vt vn : Value} (h : WinC W p nx sz bz vl vt vn er) (hu : Upd S W W') (hn : ¬ S p) : WinC W' p nx sz bz vl vt vn er := by
  have hlt := h.lt
  obtain ⟨⟨c0, c1, c2, c3, c4, c5, c6⟩, hf⟩ := h
  exact ⟨⟨hu.cell c0 hn, hu.cell c1 hn, hu.cell c2 hn, hu.cell c3 hn, hu.cell c4 hn, hu.cell c5 hn, hu.cell c6 hn⟩, fun j hj => (hu.frozen (p := ⟨p, j, none⟩) hlt hn).trans (hf j hj)⟩
theorem WinC.new (W : World) (nx sz bz er : Int) (vl vt vn : Value) (t : TypeId) (p : Nat) (hp : p = W.heap.size) : WinC (W.alloc (.cells #[.int .u32 nx, .int .i64 sz, .int .i64 bz, vl, vt, vn, .int .i64 er] t)) p nx sz bz vl vt vn er := by
  subst hp
  have h : (W.alloc (.cells #[.int .u32 nx, .int .i64 sz, .int .i64 bz, vl, vt, vn, .int .i64 er] t)).heap[W.heap.size]? = some (.cells #[.int .u32 nx, .int .i64 sz, .int .i64 bz, vl, vt, vn, .int .i64 er] t) := heap_alloc_new W _
  refine ⟨⟨?_, ?_, ?_, ?_, ?_, ?_, ?_⟩, fun j hj => ?_⟩
  all_goals first | (rw [cell_of_row _ _ _ _ t (0, 0) h]; rfl) | (unfold World.frozen?; rw [h]; simp)
theorem new_bad (a n : Int) (w : World) (h : n < 1 ∨ 64 < n) : Calls Try.prog 6 #[.int .u32 a, .int .i64 n] w fun r w' => r = .returned (.tuple #[.pointer none, .int .i64 1]) ∧ w = w' := by
  rcases h with h | h
  all_goals
    go_enter Try.func6, Try.ntmps6
    go_wp2
    go_ret2
    exact ⟨rfl, rfl⟩
theorem new_good (a n : Int) (w : World) (h1 : 1 ≤ n) (h2 : n ≤ 64) : Calls Try.prog 6 #[.int .u32 a, .int .i64 n] w fun r w' => r = .returned (.tuple #[.pointer (some ⟨w.heap.size, 0, none⟩), .int .i64 0]) ∧ WinC w' w.heap.size a n 0 (.slice none 0 0) (.slice none 0 0) (.slice none 0 0) 0 ∧ Same w w' := by
  go_enter Try.func6, Try.ntmps6
  go_wp2
  go_ret2
  exact ⟨rfl, WinC.new w _ _ _ _ _ _ _ _ _ rfl, (Upd.refl _ w).alloc _⟩
section
variable {W : World} {p : Nat} {nx sz bz er : Int} {vl vt vn : Value}
theorem expected_any (h : WinC W p nx sz bz vl vt vn er) : Calls Try.prog 15 #[.pointer (some ⟨p, 0, none⟩)] W fun r w' => r = .returned (.int .u32 nx) ∧ W = w' := by
  obtain ⟨⟨c0, c1, c2, c3, c4, c5, c6⟩, hf⟩ := h
  clear hf
  go_enter Try.func15, Try.ntmps15
  go_wp2
  go_ret
  exact ⟨rfl, rfl⟩
theorem busy_any (h : WinC W p nx sz bz vl vt vn er) : Calls Try.prog 19 #[.pointer (some ⟨p, 0, none⟩)] W fun r w' => r = .returned (.int .i64 bz) ∧ W = w' := by
  obtain ⟨⟨c0, c1, c2, c3, c4, c5, c6⟩, hf⟩ := h
  clear hf
  go_enter Try.func19, Try.ntmps19
  go_wp2
  go_ret
  exact ⟨rfl, rfl⟩
theorem held_any {A : Option Addr} {n cap : Nat} (h : WinC W p nx sz bz (.slice A n cap) vt vn er) : Calls Try.prog 18 #[.pointer (some ⟨p, 0, none⟩)] W fun r w' => r = .returned (.int .i64 n) ∧ W = w' := by
  obtain ⟨⟨c0, c1, c2, c3, c4, c5, c6⟩, hf⟩ := h
  clear hf
  go_enter Try.func18, Try.ntmps18
  go_wp2
  go_ret
  exact ⟨rfl, rfl⟩
end
end Go.Proofs.Ytjfcdinobhmmeaa
