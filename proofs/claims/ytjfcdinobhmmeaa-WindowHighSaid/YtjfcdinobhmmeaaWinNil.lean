/- A window that is not there; Highest and Done of one that is. -/
import Derived.Test.YtjfcdinobhmmeaaWinObj
import Derived.Deep.QuietTactic
import Derived.BigQuiet
namespace Go.Proofs.Ytjfcdinobhmmeaa
open Go.RowKit
set_option linter.unusedVariables false
set_option linter.unusedSimpArgs false

theorem nil_next (w : World) : Calls Try.prog 11 #[.pointer none] w fun r w' => r = .returned (.tuple #[.int .i64 0, .bool false]) ∧ w = w' := by
  go_enter Try.func11, Try.ntmps11
  go_wp2
  go_ret2
  exact ⟨rfl, rfl⟩
theorem nil_come (n i : Int) (b : Bool) (w : World) : Calls Try.prog 9 #[.pointer none, .int .u32 n, .bool b, .int .i64 i] w fun r w' => r = .returned (.int .i64 2) ∧ w = w' := by
  go_enter Try.func9, Try.ntmps9
  go_wp2
  go_ret
  exact ⟨rfl, rfl⟩
theorem nil_done (w : World) : Calls Try.prog 13 #[.pointer none] w fun r w' => r = .returned (.int .i64 2) ∧ w = w' := by
  go_enter Try.func13, Try.ntmps13
  go_wp2
  go_ret
  exact ⟨rfl, rfl⟩
theorem nil_expected (w : World) : Calls Try.prog 15 #[.pointer none] w fun r w' => r = .returned (.int .u32 0) ∧ w = w' := by
  go_enter Try.func15, Try.ntmps15
  go_wp2
  go_ret
  exact ⟨rfl, rfl⟩
theorem nil_highest (w : World) : Calls Try.prog 16 #[.pointer none] w fun r w' => r = .returned (.int .u32 0) ∧ w = w' := by
  go_enter Try.func16, Try.ntmps16
  go_wp2
  go_ret
  exact ⟨rfl, rfl⟩
theorem nil_held (w : World) : Calls Try.prog 18 #[.pointer none] w fun r w' => r = .returned (.int .i64 0) ∧ w = w' := by
  go_enter Try.func18, Try.ntmps18
  go_wp2
  go_ret
  exact ⟨rfl, rfl⟩
theorem nil_busy (w : World) : Calls Try.prog 19 #[.pointer none] w fun r w' => r = .returned (.int .i64 0) ∧ w = w' := by
  go_enter Try.func19, Try.ntmps19
  go_wp2
  go_ret
  exact ⟨rfl, rfl⟩
section
variable {W : World} {p : Nat} {nx sz bz er : Int} {vl vt vn : Value}
/-- The highest number that is taken. -/
def highOf (nx sz bz : Int) : Int := (nx + (sz - bz) - 1) % 4294967296
theorem highest_any (h : WinC W p nx sz bz vl vt vn er) (h0 : 0 ≤ nx) (h1 : nx ≤ 4294967295) (h2 : 0 ≤ sz) (h3 : sz ≤ 64) (h4 : 0 ≤ bz) (h5 : bz ≤ 1000000) :
    Calls Try.prog 16 #[.pointer (some ⟨p, 0, none⟩)] W fun r w' => r = .returned (.int .u32 (highOf nx sz bz)) ∧ Same W w' := by
  obtain ⟨⟨c0, c1, c2, c3, c4, c5, c6⟩, hf⟩ := h
  clear hf
  go_enter Try.func16, Try.ntmps16
  go_wp2
  go_quiet (fail)
  go_wp2
  go_ret
  refine ⟨ret_int ?_, (Upd.refl _ W).drewN _⟩
  unfold highOf
  omega
theorem off_ne (p : Nat) {i j : Nat} (h : i ≠ j) : (⟨p, i, none⟩ : Addr) ≠ ⟨p, j, none⟩ := by
  intro e
  injection e with e1 e2
  exact h e2
theorem WinC.busy (h : WinC W p nx sz bz vl vt vn er) (b : Int) : WinC (W.setCell ⟨p, 2, none⟩ (.int .i64 b)) p nx sz b vl vt vn er := by
  obtain ⟨⟨c0, c1, c2, c3, c4, c5, c6⟩, hf⟩ := h
  refine ⟨⟨?_, ?_, World.cell?_setCell_same _ _ _ c2, ?_, ?_, ?_, ?_⟩, fun j hj => by rw [World.frozen?_setCell]; exact hf j hj⟩
  · rw [World.cell?_setCell_other _ _ _ _ (off_ne p (by decide))]; exact c0
  · rw [World.cell?_setCell_other _ _ _ _ (off_ne p (by decide))]; exact c1
  · rw [World.cell?_setCell_other _ _ _ _ (off_ne p (by decide))]; exact c3
  · rw [World.cell?_setCell_other _ _ _ _ (off_ne p (by decide))]; exact c4
  · rw [World.cell?_setCell_other _ _ _ _ (off_ne p (by decide))]; exact c5
  · rw [World.cell?_setCell_other _ _ _ _ (off_ne p (by decide))]; exact c6
theorem done_none (h : WinC W p nx sz 0 vl vt vn er) : Calls Try.prog 13 #[.pointer (some ⟨p, 0, none⟩)] W fun r w' => r = .returned (.int .i64 5) ∧ W = w' := by
  obtain ⟨⟨c0, c1, c2, c3, c4, c5, c6⟩, hf⟩ := h
  clear hf
  go_enter Try.func13, Try.ntmps13
  go_wp2
  go_ret
  exact ⟨rfl, rfl⟩
theorem done_some (h : WinC W p nx sz bz vl vt vn er) (h1 : 1 ≤ bz) (h2 : bz ≤ 1000000) : Calls Try.prog 13 #[.pointer (some ⟨p, 0, none⟩)] W fun r w' => r = .returned (.int .i64 0) ∧ WinC w' p nx sz (bz - 1) vl vt vn er ∧ Upd (fun k => k = p) W w' := by
  have hn := h.busy (bz - 1)
  obtain ⟨⟨c0, c1, c2, c3, c4, c5, c6⟩, hf⟩ := h
  have f2 := hf 2 (by decide)
  have hne : (bz == 0) = false := by simp; omega
  have HN := Lib.hid hn
  clear hf hn
  go_enter Try.func13, Try.ntmps13
  go_wp2
  go_ret
  exact ⟨rfl, HN.out, (Upd.refl (fun k => k = p) W).setCell (p := ⟨p, 2, none⟩) (fun _ => rfl) _⟩
end
end Go.Proofs.Ytjfcdinobhmmeaa
