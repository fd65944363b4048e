/- What field.Reader does: bytes, a number of things, the end; a new one. -/
import Derived.Test.YtmaofhiapkfoaaaDoorReaderN
namespace Go.Proofs.YtmaofhiapkfoaaaDoor
open Go.RowKit
set_option linter.unusedVariables false
set_option linter.unusedSimpArgs false

/-- A new reader. -/
theorem newReader_any (v : Value) (bs : List UInt8) (w : World) (h : Bs w v bs) (hl : bs.length ≤ 200000000000000) :
    Calls Tryd.prog 48 #[v] w fun r w' => ∃ p v', r = .returned (.pointer (some ⟨p, 0, none⟩)) ∧ WObj w.heap.size w' p v' bs 0 ∧ Same w w' := by
  have hc := clone_bs v bs w h hl
  have HC := Lib.hid hc
  clear hc h
  go_enter Tryd.func48, Tryd.ntmps48
  go_wp2_with fail
  refine HC.out.mono ?_
  rintro r w1 ⟨v1, rfl, hf1, hs1⟩
  obtain ⟨A, cap, rfl⟩ := Fresh.shape' hf1
  have HF := Lib.hid hf1
  have HS := Lib.hid hs1
  clear hf1 hs1
  go_wp2_with fail
  go_ret
  refine ⟨_, _, rfl, ⟨HS.out.size, Cell2.new _ _ _ _ _ rfl, HF.out.same ((Upd.refl _ _).alloc _), fun e => ?_⟩, HS.out.alloc _⟩
  have := (HF.out.ge _ e).2
  omega
/-- The end. -/
def reE (e : Int) (n : Nat) : Int := if e = 0 ∧ 0 < n then 11 else e
theorem rend_any {base : Nat} (p : Nat) (v : Value) (bs : List UInt8) (e : Int) (w : World) (h : WObj base w p v bs e) :
    Calls Tryd.prog 50 #[.pointer (some ⟨p, 0, none⟩)] w fun r w' => r = .returned (.int .i64 (reE e bs.length)) ∧ w = w' := by
  obtain ⟨c0, c1, c2, c3⟩ := h.2.1
  obtain ⟨A, cap, rfl⟩ := Fresh.shape' h.2.2.1
  have hlc := (Lentd.cap h.2.2.1).1
  unfold reE
  by_cases he : e = 0
  · subst he
    by_cases hn : 0 < bs.length
    · rw [if_pos ⟨rfl, hn⟩]
      have g1 : (0 : Int) < (bs.length : Int) := by omega
      clear h
      go_enter Tryd.func50, Tryd.ntmps50
      go_wp2_with fail
      go_ret
      exact ⟨rfl, rfl⟩
    · rw [if_neg (by omega)]
      have g1 : bs.length = 0 := by omega
      rw [g1] at c0
      clear h
      go_enter Tryd.func50, Tryd.ntmps50
      go_wp2_with fail
      go_ret
      exact ⟨rfl, rfl⟩
  · rw [if_neg (by omega)]
    have hne : (e == 0) = false := by simpa using he
    clear h he
    go_enter Tryd.func50, Tryd.ntmps50
    go_wp2_with fail
    go_ret
    exact ⟨rfl, rfl⟩
end Go.Proofs.YtmaofhiapkfoaaaDoor
