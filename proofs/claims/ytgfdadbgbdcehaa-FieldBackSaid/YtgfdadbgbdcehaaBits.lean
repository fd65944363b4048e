/- A few bits of a byte: what field.Set and Bits and the reference's compute. -/
import Derived.Test.YtgfdadbgbdcehaaRowsB
namespace Go.Proofs.Ytgfdadbgbdcehaa
open Go.RowKit
set_option linter.unusedVariables false
set_option linter.unusedSimpArgs false

/-- A byte of bits as Go's number. -/
def u8v (c : BitVec 8) : Int := (c.toNat : Int)
theorem u8v_range (c : BitVec 8) : 0 ≤ u8v c ∧ u8v c ≤ 255 := by
  have := c.isLt
  unfold u8v
  omega
theorem ofInt_u8v (c : BitVec 8) : BitVec.ofInt 8 (u8v c) = c := by
  unfold u8v
  rw [BitVec.ofInt_natCast, BitVec.ofNat_toNat, BitVec.setWidth_eq]
theorem wrap_u8v (c : BitVec 8) : IntKind.u8.wrap (c.toNat : Int) = u8v c := by
  have := c.isLt
  rw [IntKind.wrap_u8']
  unfold u8v
  omega
theorem u8v_andNot (a b : BitVec 8) : bits .andNot .u8 (u8v a) (u8v b) = u8v (a &&& ~~~b) := by
  show IntKind.u8.wrap ((BitVec.ofInt 8 (u8v a) &&& ~~~ BitVec.ofInt 8 (u8v b)).toNat : Int) = _
  rw [ofInt_u8v, ofInt_u8v, wrap_u8v]
theorem u8v_and (a b : BitVec 8) : bits .and .u8 (u8v a) (u8v b) = u8v (a &&& b) := by
  show IntKind.u8.wrap ((BitVec.ofInt 8 (u8v a) &&& BitVec.ofInt 8 (u8v b)).toNat : Int) = _
  rw [ofInt_u8v, ofInt_u8v, wrap_u8v]
theorem u8v_or (a b : BitVec 8) : bits .or .u8 (u8v a) (u8v b) = u8v (a ||| b) := by
  show IntKind.u8.wrap ((BitVec.ofInt 8 (u8v a) ||| BitVec.ofInt 8 (u8v b)).toNat : Int) = _
  rw [ofInt_u8v, ofInt_u8v, wrap_u8v]
theorem u8v_of (a : Int) (h0 : 0 ≤ a) (h1 : a ≤ 255) : ∃ c : BitVec 8, a = u8v c := by
  refine ⟨BitVec.ofNat 8 a.toNat, ?_⟩
  unfold u8v
  rw [BitVec.toNat_ofNat]
  omega
theorem u8v_inj {a b : BitVec 8} (h : u8v a = u8v b) : a = b := by
  unfold u8v at h
  apply BitVec.eq_of_toNat_eq
  omega
/-- Are there such bits? -/
def bitsB (low size : Int) : Bool := decide (0 ≤ low ∧ low ≤ 8 ∧ 1 ≤ size ∧ size ≤ 8 - low)
/-- The bits from l on, m of them, as a number. -/
def bitsN (c : BitVec 8) (l m : Nat) : Nat := c.toNat / 2 ^ l % 2 ^ m
/-- A byte whose bits from l on, m of them, are those of N. -/
def setV (c : BitVec 8) (l N : Nat) : Nat → BitVec 8
  | 0 => c
  | k + 1 => if N.testBit k then (setV c l N k &&& ~~~(1#8 <<< (l + k))) ||| (1#8 <<< (l + k)) else setV c l N k &&& ~~~(1#8 <<< (l + k))
theorem one_bit (s i : Nat) (hi : i < 8) : (1#8 <<< s).getLsbD i = decide (i = s) := by
  rw [BitVec.getLsbD_shiftLeft]
  by_cases h : i = s
  · subst h; simp [hi]
  · by_cases h2 : i < s
    · simp [h, h2]
    · have : ¬ i - s = 0 := by omega
      simp [h, h2, hi, this]
theorem setV_bit (c : BitVec 8) (l N k i : Nat) (hi : i < 8) : (setV c l N k).getLsbD i = if l ≤ i ∧ i < l + k then N.testBit (i - l) else c.getLsbD i := by
  induction k with
  | zero =>
    rw [if_neg (by omega)]
    rfl
  | succ k ih =>
    by_cases h : i = l + k
    · subst h
      rw [if_pos (by omega), show l + k - l = k by omega, setV]
      cases hb : N.testBit k <;> simp only [if_true, Bool.false_eq_true, if_false, BitVec.getLsbD_or, BitVec.getLsbD_and, BitVec.getLsbD_not, one_bit _ _ hi, hi, decide_true, Bool.true_and, Bool.not_true, Bool.and_false, Bool.or_true]
    · have e : (setV c l N (k + 1)).getLsbD i = (setV c l N k).getLsbD i := by
        rw [setV]
        cases hb : N.testBit k <;> simp only [if_true, Bool.false_eq_true, if_false, BitVec.getLsbD_or, BitVec.getLsbD_and, BitVec.getLsbD_not, one_bit _ _ hi, hi, h, decide_true, decide_false, Bool.true_and, Bool.not_false, Bool.and_true, Bool.or_false]
      rw [e, ih]
      by_cases h2 : l ≤ i ∧ i < l + k
      · rw [if_pos h2, if_pos (by omega)]
      · rw [if_neg h2, if_neg (by omega)]
/-- field.Set's own formula. -/
theorem setV_mask (c : BitVec 8) (l N m : Nat) (hN : N < 2 ^ m) : (c &&& ~~~(BitVec.ofNat 8 (2 ^ m - 1) <<< l)) ||| (BitVec.ofNat 8 N <<< l) = setV c l N m := by
  apply BitVec.eq_of_getLsbD_eq
  intro i hi
  rw [setV_bit c l N m i hi]
  simp only [BitVec.getLsbD_or, BitVec.getLsbD_and, BitVec.getLsbD_not, BitVec.getLsbD_shiftLeft, BitVec.getLsbD_ofNat, hi, decide_true, Bool.true_and]
  by_cases h1 : l ≤ i
  · have h2 : ¬ i < l := by omega
    have h3 : i - l < 8 := by omega
    simp only [h2, h3, decide_false, decide_true, Bool.not_false, Bool.true_and, Nat.testBit_two_pow_sub_one]
    by_cases h4 : i < l + m
    · have h5 : i - l < m := by omega
      rw [if_pos ⟨h1, h4⟩]
      simp [h5]
    · have h5 : ¬ i - l < m := by omega
      rw [if_neg (by omega)]
      have h6 : N.testBit (i - l) = false := Nat.testBit_lt_two_pow (Nat.lt_of_lt_of_le hN (Nat.pow_le_pow_right (by decide) (by omega)))
      simp [h5, h6]
  · have h2 : i < l := by omega
    rw [if_neg (by omega)]
    simp [h2]
theorem bitsN_lt (c : BitVec 8) (l m : Nat) : bitsN c l m < 2 ^ m := Nat.mod_lt _ (Nat.two_pow_pos m)
theorem bitsN_succ (c : BitVec 8) (l k : Nat) : bitsN c l (k + 1) = bitsN c l k + if c.getLsbD (l + k) then 2 ^ k else 0 := by
  unfold bitsN
  rw [Nat.mod_pow_succ]
  have : (c.toNat / 2 ^ l).testBit k = c.getLsbD (l + k) := by
    rw [← Nat.shiftRight_eq_div_pow, Nat.testBit_shiftRight]
    rfl
  rw [← this, Nat.testBit_eq_decide_div_mod_eq]
  rcases Nat.mod_two_eq_zero_or_one (c.toNat / 2 ^ l / 2 ^ k) with h | h <;> simp [h]
/-- field.Bits' own formula. -/
theorem bitsN_mask (c : BitVec 8) (l m : Nat) : (c.toNat &&& (2 ^ m - 1) * 2 ^ l) / 2 ^ l = bitsN c l m := by
  unfold bitsN
  rw [← Nat.shiftLeft_eq, ← Nat.shiftRight_eq_div_pow, ← Nat.shiftRight_eq_div_pow, ← Nat.and_two_pow_sub_one_eq_mod]
  apply Nat.eq_of_testBit_eq
  intro i
  simp only [Nat.testBit_shiftRight, Nat.testBit_and, Nat.testBit_shiftLeft]
  have h1 : l ≤ l + i := by omega
  simp [h1]
/-- What was set is told. -/
theorem bitsN_setV (c : BitVec 8) (l N m : Nat) (hlm : l + m ≤ 8) (hN : N < 2 ^ m) : bitsN (setV c l N m) l m = N := by
  apply Nat.eq_of_testBit_eq
  intro i
  unfold bitsN
  rw [Nat.testBit_mod_two_pow]
  by_cases h : i < m
  · have : ((setV c l N m).toNat / 2 ^ l).testBit i = (setV c l N m).getLsbD (l + i) := by
      rw [← Nat.shiftRight_eq_div_pow, Nat.testBit_shiftRight]
      rfl
    rw [this, setV_bit _ _ _ _ _ (by omega), if_pos (by omega), show l + i - l = i by omega]
    simp [h]
  · have h6 : N.testBit i = false := Nat.testBit_lt_two_pow (Nat.lt_of_lt_of_le hN (Nat.pow_le_pow_right (by decide) (by omega)))
    simp [h, h6]
/-- A byte with some bits set, and the error. -/
def setR (c : BitVec 8) (low size n : Int) : BitVec 8 := if bitsB low size then (if 0 ≤ n ∧ n < 2 ^ size.toNat then setV c low.toNat n.toNat size.toNat else 0#8) else 0#8
def setE (low size n : Int) : Int := if bitsB low size then (if 0 ≤ n ∧ n < 2 ^ size.toNat then 0 else 3) else 1
def bitsR (c : BitVec 8) (low size : Int) : Int := if bitsB low size then (bitsN c low.toNat size.toNat : Int) else 0
def bitsE (low size : Int) : Int := if bitsB low size then 0 else 1
end Go.Proofs.Ytgfdadbgbdcehaa
