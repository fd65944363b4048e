/- Letters (chapter 17): turned bits within a letter's data are told. Plain Lean: no program in sight. -/
import Derived.Test.YtfafepmghcobdaaGb
namespace Go.Proofs.Ytfafepmghcobdaa
open Go.RowKit
set_option linter.unusedVariables false
set_option linter.unusedSimpArgs false
set_option maxRecDepth 20000
theorem tells_data {p : Pd} {most : Int} (hok : p.ok) (h : pduE p ⟨true, true, most⟩ = 0) (t : Nat) (B : BitVec 32) (k : Nat) (h32 : k ≤ 32) (hk : t + k ≤ 8 * p.data.length) (hany : anyN B k = true) :
    Rd1.next ⟨⟨true, true, most⟩, flipN (rawL p ⟨true, true, most⟩) (8 * 52 + t) B k, false⟩ = ({ p with data := [] }, 12, true, Rd1.rest ⟨⟨true, true, most⟩, flipN (rawL p ⟨true, true, most⟩) (8 * 52 + t) B k, false⟩) := by
  have h48 := headL_length hok.2.2.1
  have hpos : 0 < p.data.length := by
    rcases Nat.eq_zero_or_pos p.data.length with e | e
    · have : k = 0 := by omega
      subst this
      simp [anyN] at hany
    · exact e
  have hl4 : ∀ d, (sumL true d).length = 4 := fun d => sumL_length true d
  obtain ⟨HX, hHX⟩ : ∃ x, x = headL p ++ sumL true (headL p) := ⟨_, rfl⟩
  have hHl : HX.length = 52 := by rw [hHX, List.length_append, h48, hl4]
  have hraw : rawL p ⟨true, true, most⟩ = HX ++ (fullD p.data ++ sumL true (fullD p.data)) := by
    unfold rawL
    simp only [hpos, decide_true, Bool.and_self]
    rw [hHX, List.append_assoc]
  have hfl := fullD_length p.data
  have hflip : flipN (rawL p ⟨true, true, most⟩) (8 * 52 + t) B k = HX ++ (flipN (fullD p.data) t B k ++ sumL true (fullD p.data)) := by
    rw [hraw]
    exact flipN_mid HX (fullD p.data) (sumL true (fullD p.data)) t (8 * 52) B (by rw [hHl]) k (by rw [hfl]; omega)
  rw [hflip]
  have hFl := flipN_length (fullD p.data) t B k
  generalize hr : (⟨⟨true, true, most⟩, HX ++ (flipN (fullD p.data) t B k ++ sumL true (fullD p.data)), false⟩ : Rd1) = r
  have rb : r.b = HX ++ (flipN (fullD p.data) t B k ++ sumL true (fullD p.data)) := by rw [← hr]
  have ro : r.o = ⟨true, true, most⟩ := by rw [← hr]
  obtain ⟨hf, hrt, hl, hm⟩ := pduE_zero h
  have hsz : sizeP r.b = p.data.length := by
    rw [rb, hHX, List.append_assoc]
    exact (parse_head hok hf hl _).2.2
  have hat : r.at_ = HX.length := by unfold Rd1.at_; rw [ro, hHl]; rfl
  have d0 : r.b.drop r.at_ = flipN (fullD p.data) t B k ++ sumL true (fullD p.data) := by rw [rb, hat]; exact List.drop_left
  have hd : r.d = flipN (fullD p.data) t B k := by unfold Rd1.d; rw [hsz, d0, List.take_left' (by rw [hFl, hfl])]
  have hs : r.sum = crcDigest (crcSum (fullD p.data)) := by
    unfold Rd1.sum
    rw [hsz, ro, ← List.drop_drop, d0, List.drop_left' (by rw [hFl, hfl])]
    simp only [hpos, decide_true, Bool.and_self, if_true]
    exact List.take_of_length_le (by rw [hl4]; exact Nat.le_refl _)
  have n1 : ¬ r.b.length < r.all := by
    unfold Rd1.all
    rw [hsz, ro, hat, rb]
    simp only [List.length_append, hFl, hfl, hl4, hpos, decide_true, Bool.and_self, if_true]
    omega
  have hne := turned_sum (fullD p.data) t B k h32 (by rw [hfl]; omega) hany
  have n2 : (crcDigest (crcSum r.d) == r.sum) = false := by
    rw [hd, hs, beq_eq_false_iff_ne]
    intro e
    exact hne (crcDigest_inj e).symm
  have hh := next_head hok h (flipN (fullD p.data) t B k ++ sumL true (fullD p.data)) r (by rw [← hr, hHX, List.append_assoc])
  rw [hh, if_neg n1, n2, ro]
  simp [hpos]
end Go.Proofs.Ytfafepmghcobdaa
