/- The world: Cut, Len, Taken, Lost; calls on none. -/
import Derived.Test.YtppphelihimidaaWorW
namespace Go.Proofs.Ytppphelihimidaa
open Go.RowKit
set_option linter.unusedVariables false
set_option linter.unusedSimpArgs false
attribute [local go_sem ↓] Go.wp_at_zero Go.wp_at_succ
section
variable {base : Nat} {D : Nat → Prop} {W : World} {p : Nat} {s : WrS} {ls : List Lt} {cs : List Int}
theorem cut_nil (m : Int) (w : World) : Calls Try.prog 19 #[.pointer none, .int .i64 m] w fun e w' => e = .returned (.int .i64 2) ∧ Same w w' := by
  go_enter Try.func19, Try.ntmps19
  go_wp2_with fail
  go_ret
  exact ⟨rfl, Upd.refl _ _⟩
theorem cut_bad (h : WoV base D W p s ls cs) (m : Int) (hl : cs.length ≤ 5) (hm : m < 0 ∨ m / 2 ^ cs.length ≠ 0) : Calls Try.prog 19 #[.pointer (some ⟨p, 0, none⟩), .int .i64 m] W fun e w' => e = .returned (.int .i64 1) ∧ Same W w' := by
  obtain ⟨A, cap, hv, h1, h2⟩ := Rdr.open_ h.2.2.2.1.rdr
  have c3 := h.2.1.1.2.2.2.1
  rw [hv] at c3
  have hp := h.2.1.lt
  by_cases h0 : m < 0
  · clear h hv hm
    go_enter Try.func19, Try.ntmps19
    go_wp2_with fail
    go_ret
    exact ⟨rfl, Upd.refl _ _⟩
  · have hm2 : (m / 2 ^ cs.length != 0) = true := by
      rcases hm with hm | hm
      · exact absurd hm h0
      · simpa using hm
    have g1 : (0 : Int) ≤ (cs.length : Int) := by omega
    clear h hv hm
    go_enter Try.func19, Try.ntmps19
    go_wp2_with fail
    go_ret
    exact ⟨rfl, Upd.refl _ _⟩
theorem cut_ok (h : WoV base D W p s ls cs) (m : Int) (hl : cs.length ≤ 5) (h0 : 0 ≤ m) (hm : m / 2 ^ cs.length = 0) : Calls Try.prog 19 #[.pointer (some ⟨p, 0, none⟩), .int .i64 m] W fun e w' => e = .returned (.int .i64 0) ∧
    WoV base D w' p { s with mask := m } ls cs ∧ Upd (wfoot D p s) W w' := by
  obtain ⟨A, cap, hv, h1, h2⟩ := Rdr.open_ h.2.2.2.1.rdr
  have c2 := h.2.1.1.2.2.1
  have c3 := h.2.1.1.2.2.2.1
  have f2 := h.2.1.2 2 (by decide)
  rw [hv] at c3
  have hp := h.2.1.lt
  have hm2 : (m / 2 ^ cs.length != 0) = false := by simpa using hm
  have g1 : (0 : Int) ≤ (cs.length : Int) := by omega
  have H := Lib.hid h
  clear h hv hm
  go_enter Try.func19, Try.ntmps19
  go_wp2_with fail
  go_ret
  obtain ⟨r1, r2⟩ := H.out.num 2 (.int .i64 m) _ (H.out.2.1.s2 m) rfl rfl
  exact ⟨rfl, r1, r2⟩
theorem len_nil (w : World) : Calls Try.prog 25 #[.pointer none] w fun e w' => e = .returned (.int .i64 0) ∧ w' = w := by
  go_enter Try.func25, Try.ntmps25
  go_wp2_with fail
  go_ret
  exact ⟨rfl, rfl⟩
theorem wlen_any (h : WoV base D W p s ls cs) : Calls Try.prog 25 #[.pointer (some ⟨p, 0, none⟩)] W fun e w' => e = .returned (.int .i64 ls.length) ∧ w' = W := by
  obtain ⟨A, cap, hvl, h1, h2⟩ := h.len
  have c1 := h.2.1.1.2.1
  rw [hvl] at c1
  clear h hvl
  go_enter Try.func25, Try.ntmps25
  go_wp2_with fail
  go_ret
  exact ⟨rfl, rfl⟩
theorem taken_nil (w : World) : Calls Try.prog 26 #[.pointer none] w fun e w' => e = .returned (.int .i64 0) ∧ w' = w := by
  go_enter Try.func26, Try.ntmps26
  go_wp2_with fail
  go_ret
  exact ⟨rfl, rfl⟩
theorem lost_nil (w : World) : Calls Try.prog 27 #[.pointer none] w fun e w' => e = .returned (.int .i64 0) ∧ w' = w := by
  go_enter Try.func27, Try.ntmps27
  go_wp2_with fail
  go_ret
  exact ⟨rfl, rfl⟩
theorem taken_any (hc : WC W p s) : Calls Try.prog 26 #[.pointer (some ⟨p, 0, none⟩)] W fun e w' => e = .returned (.int .i64 s.tk) ∧ w' = W := by
  have HL := Lib.hid (load_any _ _ W hc.1.2.2.2.2.1)
  clear hc
  go_enter Try.func26, Try.ntmps26
  go_wp2_with fail
  refine HL.out.mono ?_
  rintro e w1 ⟨rfl, rfl⟩
  go_wp2_with fail
  go_ret
  exact ⟨rfl, rfl⟩
theorem lost_any (hc : WC W p s) : Calls Try.prog 27 #[.pointer (some ⟨p, 0, none⟩)] W fun e w' => e = .returned (.int .i64 s.lo) ∧ w' = W := by
  have HL := Lib.hid (load_any _ _ W hc.1.2.2.2.2.2.1)
  clear hc
  go_enter Try.func27, Try.ntmps27
  go_wp2_with fail
  refine HL.out.mono ?_
  rintro e w1 ⟨rfl, rfl⟩
  go_wp2_with fail
  go_ret
  exact ⟨rfl, rfl⟩
theorem tick_nil (i : Int) (w : World) : Calls Try.prog 10 #[.pointer none, .int .i64 i] w fun e w' => e = .returned (.int .i64 2) ∧ Same w w' := by
  go_enter Try.func10, Try.ntmps10
  go_wp2_with fail
  go_ret
  exact ⟨rfl, Upd.refl _ _⟩
theorem clock_nil (i : Int) (w : World) : Calls Try.prog 9 #[.pointer none, .int .i64 i] w fun e w' => e = .returned (.int .i64 0) ∧ Same w w' := by
  go_enter Try.func9, Try.ntmps9
  go_wp2_with fail
  go_ret
  exact ⟨rfl, Upd.refl _ _⟩
theorem may_nil (i : Int) (w : World) : Calls Try.prog 11 #[.pointer none, .int .i64 i] w fun e w' => e = .returned (.bool false) ∧ Same w w' := by
  go_enter Try.func11, Try.ntmps11
  go_wp2_with fail
  go_ret
  exact ⟨rfl, Upd.refl _ _⟩
theorem close_nil (w : World) : Calls Try.prog 28 #[.pointer none] w fun e w' => e = .returned (.bool false) ∧ Same w w' := by
  have HB := Lib.hid (cell_of_row (w.alloc (.cells #[.pointer none] 24)) w.heap.size 0 _ _ (0, 0) (heap_alloc_new w _))
  go_enter Try.func28, Try.ntmps28
  go_wp2_with fail
  go_ret
  exact ⟨rfl, ((Upd.refl _ _).alloc _).alloc _⟩
end
end Go.Proofs.Ytppphelihimidaa
