/- Letters (chapter 17): letters one behind the other, in pieces. Plain Lean: no program in sight. -/
import Derived.Test.YtfafepmghcobdaaGb
namespace Go.Proofs.Ytfafepmghcobdaa
open Go.RowKit
set_option linter.unusedVariables false
set_option linter.unusedSimpArgs false
set_option maxRecDepth 20000
/-- The letters' bytes, one behind the other. -/
def encL (o : Ag) (ls : List Pd) : List UInt8 := ls.flatMap fun p => rawL p o
def allOk (o : Ag) (ls : List Pd) : Prop := ∀ p ∈ ls, p.ok ∧ pduE p o = 0
theorem rawL_pos {p : Pd} (o : Ag) (h : p.ok) : 48 ≤ (rawL p o).length := by rw [rawL_length h.2.2.1]; omega
/-- What Next tells of the bytes that have come. -/
theorem next_enc {o : Ag} {ls : List Pd} (h : allOk o ls) {b rest : List UInt8} (hb : b ++ rest = encL o ls) :
    (Rd1.next ⟨o, b, false⟩ = (noP, 0, false, ⟨o, b, false⟩) ∧ (rest = [] → ls = [] ∧ b = [])) ∨ ∃ p ls' b', ls = p :: ls' ∧ b' ++ rest = encL o ls' ∧ Rd1.next ⟨o, b, false⟩ = (p, 0, true, ⟨o, b', false⟩) := by
  match ls, h, hb with
  | [], h, hb =>
    have hb0 : b = [] := by
      have : b ++ rest = [] := hb
      exact (List.append_eq_nil_iff.1 this).1
    subst hb0
    left
    refine ⟨?_, fun _ => ⟨rfl, rfl⟩⟩
    unfold Rd1.next
    have n1 : ([] : List UInt8).length < Rd1.at_ ⟨o, [], false⟩ := by unfold Rd1.at_; split <;> simp
    simp only [Bool.false_eq_true, if_false, if_pos n1]
  | p :: ls', h, hb =>
    have hp := h p (by simp)
    have he : encL o (p :: ls') = rawL p o ++ encL o ls' := by unfold encL; rw [List.flatMap_cons]
    rw [he] at hb
    by_cases hl : b.length < (rawL p o).length
    · left
      have hbt : b = (rawL p o).take b.length := by
        have h1 : (b ++ rest).take b.length = b := List.take_left
        rw [hb, List.take_append_of_le_length (by omega)] at h1
        exact h1.symm
      refine ⟨?_, fun hr => ?_⟩
      · have h2 := next_wait hp.1 hp.2 b.length hl
        rw [← hbt] at h2
        exact h2
      · exfalso
        rw [hr, List.append_nil] at hb
        rw [hb, List.length_append] at hl
        omega
    · right
      obtain ⟨b', hb'⟩ : ∃ b', b = rawL p o ++ b' := by
        refine ⟨b.drop (rawL p o).length, ?_⟩
        have h1 : (b ++ rest).take (rawL p o).length = rawL p o := by rw [hb]; exact List.take_left
        rw [List.take_append_of_le_length (by omega)] at h1
        have h2 := (List.take_append_drop (rawL p o).length b).symm
        rw [h1] at h2
        exact h2
      subst hb'
      refine ⟨p, ls', b', rfl, ?_, next_put hp.1 hp.2 b'⟩
      rw [List.append_assoc] at hb
      exact List.append_cancel_left hb
theorem encL_snoc (o : Ag) (ls : List Pd) (p : Pd) : encL o (ls ++ [p]) = encL o ls ++ rawL p o := by unfold encL; simp
end Go.Proofs.Ytfafepmghcobdaa
