/- The plain law of SumsTurned: bits of bytes that are turned one by one; with the sum's law: the sums are alike just where none is. -/
import Derived.Test.YtccbkagmglddfaaGa
import Derived.Test.YtccbkagmglddfaaCrc
namespace Go.Proofs.Ytccbkagmglddfaa
open Go.RowKit
set_option linter.unusedVariables false
set_option linter.unusedSimpArgs false

/-- A byte of which one bit is turned. -/
def flip1 (c : UInt8) (b : Nat) : UInt8 := ⟨c.toBitVec ^^^ (1#8 <<< b)⟩
/-- Of the bits from t on those that B has, the first k of them, are turned. -/
def flipN (xs : List UInt8) (t : Nat) (B : BitVec 32) : Nat → List UInt8
  | 0 => xs
  | k + 1 => if B.getLsbD k then (flipN xs t B k).set ((t + k) / 8) (flip1 ((flipN xs t B k).getD ((t + k) / 8) 0) ((t + k) % 8)) else flipN xs t B k
/-- Is one turned? -/
def anyN (B : BitVec 32) : Nat → Bool
  | 0 => false
  | k + 1 => if B.getLsbD k then true else anyN B k
theorem flipN_length (xs : List UInt8) (t : Nat) (B : BitVec 32) (k : Nat) : (flipN xs t B k).length = xs.length := by
  induction k with
  | zero => rfl
  | succ k ih =>
    rw [flipN]
    split
    · rw [List.length_set, ih]
    · exact ih
theorem flip1_bit (c : UInt8) (b i : Nat) (hb : b < 8) (hi : i < 8) : (flip1 c b).toBitVec.getLsbD i = (c.toBitVec.getLsbD i ^^ decide (i = b)) := by
  unfold flip1
  rw [BitVec.getLsbD_xor]
  congr 1
  rw [BitVec.getLsbD_shiftLeft]
  by_cases h : i = b
  · subst h; simp [hi]
  · by_cases h2 : i < b
    · simp [h, h2]
    · have : i - b ≠ 0 := by omega
      simp [h, h2, hi]
      omega
theorem bitAt_set (xs : List UInt8) (m b : Nat) (hm : m < xs.length) (hb : b < 8) (j : Nat) (hj : j < 8 * xs.length) :
    bitAt (xs.set m (flip1 (xs.getD m 0) b)) j = (bitAt xs j ^^ decide (j = 8 * m + b)) := by
  unfold bitAt
  by_cases h : j / 8 = m
  · subst h
    have e : (xs.set (j / 8) (flip1 (xs.getD (j / 8) 0) b)).getD (j / 8) 0 = flip1 (xs.getD (j / 8) 0) b := by
      simp [List.getD_eq_getElem?_getD, hm]
    rw [e, flip1_bit _ _ _ hb (by omega)]
    congr 1
    rw [decide_eq_decide]
    omega
  · have e : (xs.set m (flip1 (xs.getD m 0) b)).getD (j / 8) 0 = xs.getD (j / 8) 0 := by
      simp [List.getD_eq_getElem?_getD, List.getElem?_set, Ne.symm h]
    rw [e]
    have : ¬ j = 8 * m + b := by omega
    simp [this]
theorem bitAt_flipN (xs : List UInt8) (t : Nat) (B : BitVec 32) (k : Nat) (hk : t + k ≤ 8 * xs.length) (j : Nat) (hj : j < 8 * xs.length) :
    bitAt (flipN xs t B k) j = (bitAt xs j ^^ (decide (t ≤ j) && decide (j < t + k) && B.getLsbD (j - t))) := by
  induction k with
  | zero =>
    have : ¬ (t ≤ j ∧ j < t) := by omega
    by_cases h1 : t ≤ j
    · have h2 : ¬ j < t := by omega
      simp [flipN, h2]
    · simp [flipN, h1]
  | succ k ih =>
    have ih := ih (by omega)
    rw [flipN]
    by_cases hB : B.getLsbD k = true
    · rw [if_pos hB, bitAt_set _ _ _ (by rw [flipN_length]; omega) (by omega) _ (by rw [flipN_length]; exact hj), ih]
      by_cases h : j = t + k
      · subst h
        have e1 : 8 * ((t + k) / 8) + (t + k) % 8 = t + k := by omega
        have e2 : t + k - t = k := by omega
        simp [e1, e2, hB]
      · have e1 : ¬ j = 8 * ((t + k) / 8) + (t + k) % 8 := by omega
        have e2 : (j < t + k) = (j < t + (k + 1)) := by apply propext; omega
        simp only [e1, e2, decide_false, Bool.xor_false]
    · rw [if_neg hB, ih]
      by_cases h : j = t + k
      · subst h
        have e2 : t + k - t = k := by omega
        have hB' : B.getLsbD k = false := by simpa using hB
        simp [e2, hB']
      · have e2 : (j < t + k) = (j < t + (k + 1)) := by apply propext; omega
        simp only [e2]
theorem anyN_true (B : BitVec 32) (k : Nat) : anyN B k = true ↔ ∃ i, i < k ∧ B.getLsbD i = true := by
  induction k with
  | zero => simp [anyN]
  | succ k ih =>
    rw [anyN]
    by_cases hB : B.getLsbD k = true
    · rw [if_pos hB]
      exact ⟨fun _ => ⟨k, by omega, hB⟩, fun _ => rfl⟩
    · rw [if_neg hB, ih]
      constructor
      · rintro ⟨i, h1, h2⟩
        exact ⟨i, by omega, h2⟩
      · rintro ⟨i, h1, h2⟩
        by_cases h : i = k
        · subst h; exact absurd h2 hB
        · exact ⟨i, by omega, h2⟩
theorem flipN_none (xs : List UInt8) (t : Nat) (B : BitVec 32) (k : Nat) (h : anyN B k = false) : flipN xs t B k = xs := by
  induction k with
  | zero => rfl
  | succ k ih =>
    rw [anyN] at h
    by_cases hB : B.getLsbD k = true
    · rw [if_pos hB] at h; cases h
    · rw [if_neg hB] at h
      rw [flipN, if_neg hB, ih h]
/-- The sums part just where a bit is turned. -/
theorem turned_sum (xs : List UInt8) (t : Nat) (B : BitVec 32) (k : Nat) (h32 : k ≤ 32) (hk : t + k ≤ 8 * xs.length) (h : anyN B k = true) : crcSum xs ≠ crcSum (flipN xs t B k) := by
  intro e
  have hx := crc_turned xs (flipN xs t B k) (flipN_length ..).symm t (fun j hj hne => by
    rw [bitAt_flipN xs t B k hk j hj] at hne
    by_cases h1 : t ≤ j ∧ j < t + k
    · omega
    · exfalso
      apply hne
      by_cases h2 : t ≤ j
      · have h3 : ¬ j < t + k := by omega
        simp [h3]
      · simp [h2]) e
  obtain ⟨i, h1, h2⟩ := (anyN_true B k).1 h
  have h3 := bitAt_flipN xs t B k hk (t + i) (by omega)
  rw [← hx] at h3
  have e1 : t + i - t = i := by omega
  have e2 : t + i < t + k := by omega
  simp [e1, e2, h2] at h3
theorem crcDigest_inj {s r : BitVec 32} (h : crcDigest s = crcDigest r) : s = r := by
  unfold crcDigest at h
  simp only [List.cons.injEq, and_true] at h
  obtain ⟨h0, h1, h2, h3⟩ := h
  have e0 := congrArg UInt8.toBitVec h0
  have e1 := congrArg UInt8.toBitVec h1
  have e2 := congrArg UInt8.toBitVec h2
  have e3 := congrArg UInt8.toBitVec h3
  apply BitVec.eq_of_getLsbD_eq
  intro i hi
  have g (k : Nat) (e : (s >>> (8 * k)).setWidth 8 = (r >>> (8 * k)).setWidth 8) (h1 : 8 * k ≤ i) (h2 : i < 8 * k + 8) : s.getLsbD i = r.getLsbD i := by
    have := congrArg (fun x => x.getLsbD (i - 8 * k)) e
    simp only [BitVec.getLsbD_setWidth, BitVec.getLsbD_ushiftRight] at this
    have h3 : i - 8 * k < 8 := by omega
    have h4 : 8 * k + (i - 8 * k) = i := by omega
    simpa [h3, h4] using this
  rcases (show i < 8 ∨ (8 ≤ i ∧ i < 16) ∨ (16 ≤ i ∧ i < 24) ∨ 24 ≤ i by omega) with h | h | h | h
  · exact g 0 (by simpa using e0) (by omega) (by omega)
  · exact g 1 (by simpa using e1) (by omega) (by omega)
  · exact g 2 (by simpa using e2) (by omega) (by omega)
  · exact g 3 (by simpa using e3) (by omega) (by omega)
end Go.Proofs.Ytccbkagmglddfaa
