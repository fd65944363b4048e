/- What field.Writer does: bytes, the end. -/
import Derived.Test.YtmaofhiapkfoaaaDoorWriterN
namespace Go.Proofs.YtmaofhiapkfoaaaDoor
open Go.RowKit
set_option linter.unusedVariables false
set_option linter.unusedSimpArgs false

/-- A new writer. -/
theorem newWriter_any (w : World) : Calls Tryd.prog 45 #[] w fun r w' => r = .returned (.pointer (some ⟨w.heap.size, 0, none⟩)) ∧ WObj w.heap.size w' w.heap.size (.slice none 0 0) [] 0 ∧ Same w w' := by
  go_enter Tryd.func45, Tryd.ntmps45
  go_wp2
  go_ret
  exact ⟨rfl, ⟨Nat.le_refl _, Cell2.new w _ _ _ _ rfl, Fresh.nil _ _, by simp [room]⟩, (Upd.refl _ w).alloc _⟩
/-- The end. -/
theorem wend_any {base : Nat} (p : Nat) (v : Value) (bs : List UInt8) (e : Int) (w : World) (h : WObj base w p v bs e) (hb : base ≤ w.heap.size) (hl : bs.length ≤ 200000000000000) :
    Calls Tryd.prog 47 #[.pointer (some ⟨p, 0, none⟩)] w fun r w' => ∃ v', r = .returned (.tuple #[v', .int .i64 e]) ∧ Fresh w.heap.size w' v' (if e = 0 then bs else []) ∧ Same w w' := by
  obtain ⟨c0, c1, c2, c3⟩ := h.2.1
  by_cases he : e = 0
  · subst he
    have hc := clone_bs v bs w h.2.2.1.bs hl
    obtain ⟨A, n, cap, rfl⟩ := Fresh.shape h.2.2.1
    rw [if_pos rfl]
    have HC := Lib.hid hc
    clear hc h
    go_enter Tryd.func47, Tryd.ntmps47
    go_wp2_with fail
    refine HC.out.mono ?_
    rintro r w1 ⟨v1, rfl, hf1, hs1⟩
    have HF := Lib.hid hf1
    have HS := Lib.hid hs1
    clear hf1 hs1
    go_wp2_with fail
    go_ret2
    exact ⟨_, rfl, HF.out, HS.out⟩
  · rw [if_neg he]
    have hne : (e != 0) = true := by simpa using he
    clear h he
    go_enter Tryd.func47, Tryd.ntmps47
    go_wp2_with fail
    go_quiet (fail)
    go_wp2_with fail
    go_ret2
    exact ⟨_, rfl, Fresh.nil _ _, (Upd.refl _ w).drewN _⟩
end Go.Proofs.YtmaofhiapkfoaaaDoor
