/- What field.mask, Set, Bits and the reference's bits, Set, Bits compute. -/
import Derived.Test.YtgfdadbgbdcehaaBits
namespace Go.Proofs.Ytgfdadbgbdcehaa
open Go.RowKit
set_option linter.unusedVariables false
set_option linter.unusedSimpArgs false

/-- The mask; 0: there is none. -/
def maskN (low size : Int) : Int := if bitsB low size then (2 ^ size.toNat - 1) * 2 ^ low.toNat else 0
theorem pow8 (k : Nat) (h : k ≤ 8) : (1 : Int) ≤ 2 ^ k ∧ (2 : Int) ^ k ≤ 256 := by
  have h1 : 1 ≤ 2 ^ k := Nat.one_le_two_pow
  have h2 : 2 ^ k ≤ 2 ^ 8 := Nat.pow_le_pow_right (by decide) h
  have h3 : ((2 ^ k : Nat) : Int) = (2 : Int) ^ k := by rw [Int.natCast_pow]; rfl
  omega
theorem mul_pow8 (m l : Nat) (h : l + m ≤ 8) : 0 ≤ ((2 : Int) ^ m - 1) * 2 ^ l ∧ ((2 : Int) ^ m - 1) * 2 ^ l ≤ 255 := by
  obtain ⟨q1, q2⟩ := pow8 m (by omega)
  obtain ⟨q3, q4⟩ := pow8 l (by omega)
  obtain ⟨q5, q6⟩ := pow8 (l + m) h
  have e : ((2 : Int) ^ m - 1) * 2 ^ l = 2 ^ (l + m) - 2 ^ l := by
    rw [Int.sub_mul, ← Int.pow_add, Nat.add_comm m l]
    omega
  constructor
  · exact Int.mul_nonneg (by omega) (by omega)
  · rw [e]; omega
theorem mask_bv (m l : Nat) (h : l + m ≤ 8) : ((2 : Int) ^ m - 1) * 2 ^ l = u8v (BitVec.ofNat 8 (2 ^ m - 1) <<< l) := by
  obtain ⟨h1, h2⟩ := mul_pow8 m l h
  have h3 : 1 ≤ 2 ^ m := Nat.one_le_two_pow
  have e : ((2 : Int) ^ m - 1) * 2 ^ l = (((2 ^ m - 1) * 2 ^ l : Nat) : Int) := by
    rw [Int.natCast_mul, Int.natCast_sub h3, Int.natCast_pow, Int.natCast_pow]
    rfl
  have h4 : (2 ^ m - 1) * 2 ^ l < 2 ^ 8 := by omega
  have h5 : 2 ^ m - 1 < 2 ^ 8 := Nat.lt_of_le_of_lt (Nat.le_mul_of_pos_right _ (Nat.two_pow_pos l)) h4
  unfold u8v
  rw [e, BitVec.toNat_shiftLeft, BitVec.toNat_ofNat, Nat.shiftLeft_eq, Nat.mod_eq_of_lt h5, Nat.mod_eq_of_lt h4]
theorem shl_bv (N l : Nat) (h : N < 256) (hl : l ≤ 8) : wrap64 ((N : Int) * 2 ^ l) % 256 = u8v (BitVec.ofNat 8 N <<< l) := by
  obtain ⟨q3, q4⟩ := pow8 l hl
  have e : (N : Int) * 2 ^ l = ((N * 2 ^ l : Nat) : Int) := by
    rw [Int.natCast_mul, Int.natCast_pow]
    rfl
  have h6 : N * 2 ^ l ≤ 256 * 256 := Nat.mul_le_mul (by omega) (by have : ((2 ^ l : Nat) : Int) = (2 : Int) ^ l := by rw [Int.natCast_pow]; rfl
                                                                   omega)
  unfold u8v
  rw [e, BitVec.toNat_shiftLeft, BitVec.toNat_ofNat, Nat.shiftLeft_eq, Nat.mod_eq_of_lt h]
  unfold wrap64
  omega
theorem set_num (c : BitVec 8) (l m N : Nat) (h : l + m ≤ 8) (hN : N < 2 ^ m) :
    bits BinOp.or IntKind.u8 (bits BinOp.andNot IntKind.u8 (u8v c) (u8v (BitVec.ofNat 8 (2 ^ m - 1) <<< l))) (wrap64 ((N : Int) * 2 ^ l) % 256) = u8v (setV c l N m) := by
  have h7 : 2 ^ m ≤ 2 ^ 8 := Nat.pow_le_pow_right (by decide) (by omega)
  rw [shl_bv N l (by omega) (by omega), u8v_andNot, u8v_or, setV_mask c l N m hN]
theorem mask_any (low size : Int) (w : World) (h1 : -9223372036854775808 ≤ low) (h2 : low ≤ 9223372036854775807) (h3 : -9223372036854775808 ≤ size) (h4 : size ≤ 9223372036854775807) :
    Calls Try.prog 53 #[.int .i64 low, .int .i64 size] w fun e w' => e = .returned (.int .i64 (maskN low size)) ∧ w = w' := by
  by_cases hb : 0 ≤ low ∧ low ≤ 8 ∧ 1 ≤ size ∧ size ≤ 8 - low
  · have hm : maskN low size = (2 ^ size.toNat - 1) * 2 ^ low.toNat := by unfold maskN bitsB; rw [if_pos (by simpa using hb)]
    rw [hm]
    obtain ⟨b1, b2, b3, b4⟩ := hb
    have c1 : ¬ low < 0 := by omega
    have c2 : ¬ 8 < low := by omega
    have c3 : ¬ size < 1 := by omega
    have c4 : ¬ 8 - low < size := by omega
    obtain ⟨p1, p2⟩ := pow8 size.toNat (by omega)
    clear hm
    go_enter Try.func53, Try.ntmps53
    go_wp2
    go_ret
    exact ⟨ret_int (by
      have h7 := mul_pow8 size.toNat low.toNat (by omega)
      unfold wrap64
      omega), rfl⟩
  · have hm : maskN low size = 0 := by unfold maskN bitsB; rw [if_neg (by simpa using hb)]
    rw [hm]
    clear hm
    by_cases c1 : low < 0
    · go_enter Try.func53, Try.ntmps53
      go_wp2
      go_ret
      exact ⟨rfl, rfl⟩
    · by_cases c2 : 8 < low
      · go_enter Try.func53, Try.ntmps53
        go_wp2
        go_ret
        exact ⟨rfl, rfl⟩
      · by_cases c3 : size < 1
        · go_enter Try.func53, Try.ntmps53
          go_wp2
          go_ret
          exact ⟨rfl, rfl⟩
        · have c4 : 8 - low < size := by omega
          go_enter Try.func53, Try.ntmps53
          go_wp2
          go_ret
          exact ⟨rfl, rfl⟩
theorem rbits_any (low size : Int) (w : World) (h1 : -9223372036854775808 ≤ low) (h2 : low ≤ 9223372036854775807) (h3 : -9223372036854775808 ≤ size) (h4 : size ≤ 9223372036854775807) :
    Calls Try.prog 54 #[.int .i64 low, .int .i64 size] w fun e w' => e = .returned (.bool (bitsB low size)) ∧ w = w' := by
  unfold bitsB
  by_cases c1 : 0 ≤ low
  · by_cases c2 : low ≤ 8
    · by_cases c3 : 1 ≤ size
      · by_cases c4 : size ≤ 8 - low
        · go_enter Try.func54, Try.ntmps54
          go_wp2
          go_ret
          exact ⟨ret_bool (by simp; omega), rfl⟩
        · go_enter Try.func54, Try.ntmps54
          go_wp2
          go_ret
          exact ⟨ret_bool (by simp; omega), rfl⟩
      · go_enter Try.func54, Try.ntmps54
        go_wp2
        go_ret
        exact ⟨ret_bool (by simp; omega), rfl⟩
    · go_enter Try.func54, Try.ntmps54
      go_wp2
      go_ret
      exact ⟨ret_bool (by simp; omega), rfl⟩
  · go_enter Try.func54, Try.ntmps54
    go_wp2
    go_ret
    exact ⟨ret_bool (by simp; omega), rfl⟩
theorem set_any (c : BitVec 8) (low size n : Int) (w : World) (h1 : -9223372036854775808 ≤ low) (h2 : low ≤ 9223372036854775807) (h3 : -9223372036854775808 ≤ size) (h4 : size ≤ 9223372036854775807) (h5 : -9223372036854775808 ≤ n) (h6 : n ≤ 9223372036854775807) :
    Calls Try.prog 22 #[.int .u8 (u8v c), .int .i64 low, .int .i64 size, .int .i64 n] w fun e w' => e = .returned (.tuple #[.int .u8 (u8v (setR c low size n)), .int .i64 (setE low size n)]) ∧ w = w' := by
  have hmk := mask_any low size w h1 h2 h3 h4
  cases hb : bitsB low size with
  | false =>
    have e0 : maskN low size = 0 := by unfold maskN; rw [hb]; rfl
    have e1 : setR c low size n = 0#8 := by unfold setR; rw [hb]; rfl
    have e2 : setE low size n = 1 := by unfold setE; rw [hb]; rfl
    rw [e0] at hmk
    rw [e1, e2]
    go_enter Try.func22, Try.ntmps22
    go_wp2_with fail
    refine hmk.mono ?_
    rintro e w' ⟨rfl, rfl⟩
    go_wp2
    go_ret2
    exact ⟨rfl, rfl⟩
  | true =>
    have hbb : 0 ≤ low ∧ low ≤ 8 ∧ 1 ≤ size ∧ size ≤ 8 - low := by simpa [bitsB] using hb
    obtain ⟨l, hl⟩ : ∃ l : Nat, (l : Int) = low := ⟨low.toNat, by omega⟩
    obtain ⟨m, hm⟩ : ∃ m : Nat, (m : Int) = size := ⟨size.toNat, by omega⟩
    subst hl hm
    have e0 : maskN l m = (2 ^ m - 1) * 2 ^ l := by unfold maskN; rw [hb]; rfl
    rw [e0] at hmk
    obtain ⟨q1, q2⟩ := pow8 m (by omega)
    obtain ⟨q3, q4⟩ := pow8 l (by omega)
    have hlm : l + m ≤ 8 := by omega
    rw [mask_bv m l hlm] at hmk
    obtain ⟨M, hM⟩ : ∃ M : Int, M = u8v (BitVec.ofNat 8 (2 ^ m - 1) <<< l) := ⟨_, rfl⟩
    have hM2 : M / 2 ^ l = 2 ^ m - 1 := by rw [hM, ← mask_bv m l hlm]; exact Int.mul_ediv_cancel _ (by omega)
    have hM1 : 0 ≤ M ∧ M ≤ 255 := by rw [hM]; exact u8v_range _
    rw [← hM] at hmk
    have hm1 : 2 ≤ (2 : Int) ^ m := by
      have h1 : 2 ^ 1 ≤ 2 ^ m := Nat.pow_le_pow_right (by decide) (by omega)
      have h3 : ((2 ^ m : Nat) : Int) = (2 : Int) ^ m := by rw [Int.natCast_pow]; rfl
      omega
    have hne : (M == 0) = false := by
      simp only [beq_eq_false_iff_ne, ne_eq]
      intro e
      rw [e] at hM2
      simp at hM2
      omega
    have HMK := Lib.hid hmk
    have HM := Lib.hid hM
    clear hmk hM
    by_cases hn : 0 ≤ n ∧ n < 2 ^ m
    · have e1 : setR c l m n = setV c l n.toNat m := by unfold setR; rw [hb]; simp only [if_true, Int.toNat_natCast]; rw [if_pos hn]
      have e2 : setE l m n = 0 := by unfold setE; rw [hb]; simp only [if_true, Int.toNat_natCast]; rw [if_pos hn]
      rw [e1, e2]
      obtain ⟨N, rfl⟩ := Int.eq_ofNat_of_zero_le hn.1
      have hN : N < 2 ^ m := by
        have h3 : ((2 ^ m : Nat) : Int) = (2 : Int) ^ m := by rw [Int.natCast_pow]; rfl
        omega
      have c1 : ¬ ((N : Int) < 0) := by omega
      have c2 : ¬ ((2 : Int) ^ m - 1 < (N : Int)) := by omega
      clear e1 e2 hn
      go_enter Try.func22, Try.ntmps22
      go_wp2_with fail
      refine HMK.out.mono ?_
      rintro e w' ⟨rfl, rfl⟩
      go_wp2
      go_ret2
      refine ⟨?_, rfl⟩
      show Ending.returned (.tuple #[.int .u8 _, .int .i64 0]) = _
      rw [HM.out, set_num c l m N hlm hN]
      rfl
    · have e1 : setR c l m n = 0#8 := by unfold setR; rw [hb]; simp only [if_true, Int.toNat_natCast]; rw [if_neg hn]
      have e2 : setE l m n = 3 := by unfold setE; rw [hb]; simp only [if_true, Int.toNat_natCast]; rw [if_neg hn]
      rw [e1, e2]
      have c0 : (n < 0) ∨ (2 : Int) ^ m - 1 < n := by omega
      clear e1 e2 hn
      rcases c0 with c0 | c0
      all_goals
        go_enter Try.func22, Try.ntmps22
        go_wp2_with fail
        refine HMK.out.mono ?_
        rintro e w' ⟨rfl, rfl⟩
        go_wp2
        go_ret2
        exact ⟨rfl, rfl⟩
theorem and_i64_nat (a b : Nat) (ha : a < 9223372036854775808) (hb : b < 9223372036854775808) : bits .and .i64 (a : Int) (b : Int) = ((a &&& b : Nat) : Int) := by
  have hx : a &&& b < 2 ^ 63 := Nat.and_lt_two_pow _ (by omega)
  have h1 : (BitVec.ofInt 64 (a : Int)).toNat = a := by
    rw [BitVec.ofInt_natCast, BitVec.toNat_ofNat]; exact Nat.mod_eq_of_lt (by omega)
  have h2 : (BitVec.ofInt 64 (b : Int)).toNat = b := by
    rw [BitVec.ofInt_natCast, BitVec.toNat_ofNat]; exact Nat.mod_eq_of_lt (by omega)
  show IntKind.i64.wrap ((BitVec.ofInt 64 (a : Int) &&& BitVec.ofInt 64 (b : Int)).toNat : Int) = _
  rw [BitVec.toNat_and, h1, h2, IntKind.wrap_i64]
  omega
theorem bits_num (c : BitVec 8) (l m : Nat) (h : l + m ≤ 8) : bits .and .i64 (u8v c) (((2 : Int) ^ m - 1) * 2 ^ l) / 2 ^ l = (bitsN c l m : Int) := by
  have h3 : 1 ≤ 2 ^ m := Nat.one_le_two_pow
  have e : ((2 : Int) ^ m - 1) * 2 ^ l = (((2 ^ m - 1) * 2 ^ l : Nat) : Int) := by
    rw [Int.natCast_mul, Int.natCast_sub h3, Int.natCast_pow, Int.natCast_pow]
    rfl
  obtain ⟨h1, h2⟩ := mul_pow8 m l h
  have e2 : ((2 : Int) ^ l) = ((2 ^ l : Nat) : Int) := by rw [Int.natCast_pow]; rfl
  have hc := c.isLt
  rw [e] at h2 ⊢
  unfold u8v
  rw [and_i64_nat _ _ (by omega) (by omega), e2, ← Int.natCast_ediv, bitsN_mask]
theorem bits_any (c : BitVec 8) (low size : Int) (w : World) (h1 : -9223372036854775808 ≤ low) (h2 : low ≤ 9223372036854775807) (h3 : -9223372036854775808 ≤ size) (h4 : size ≤ 9223372036854775807) :
    Calls Try.prog 24 #[.int .u8 (u8v c), .int .i64 low, .int .i64 size] w fun e w' => e = .returned (.tuple #[.int .i64 (bitsR c low size), .int .i64 (bitsE low size)]) ∧ w = w' := by
  have hmk := mask_any low size w h1 h2 h3 h4
  cases hb : bitsB low size with
  | false =>
    have e0 : maskN low size = 0 := by unfold maskN; rw [hb]; rfl
    have e1 : bitsR c low size = 0 := by unfold bitsR; rw [hb]; rfl
    have e2 : bitsE low size = 1 := by unfold bitsE; rw [hb]; rfl
    rw [e0] at hmk
    rw [e1, e2]
    go_enter Try.func24, Try.ntmps24
    go_wp2_with fail
    refine hmk.mono ?_
    rintro e w' ⟨rfl, rfl⟩
    go_wp2
    go_ret2
    exact ⟨rfl, rfl⟩
  | true =>
    have hbb : 0 ≤ low ∧ low ≤ 8 ∧ 1 ≤ size ∧ size ≤ 8 - low := by simpa [bitsB] using hb
    obtain ⟨l, hl⟩ : ∃ l : Nat, (l : Int) = low := ⟨low.toNat, by omega⟩
    obtain ⟨m, hm⟩ : ∃ m : Nat, (m : Int) = size := ⟨size.toNat, by omega⟩
    subst hl hm
    have e0 : maskN l m = (2 ^ m - 1) * 2 ^ l := by unfold maskN; rw [hb]; rfl
    rw [e0] at hmk
    obtain ⟨q1, q2⟩ := pow8 m (by omega)
    obtain ⟨q3, q4⟩ := pow8 l (by omega)
    have hlm : l + m ≤ 8 := by omega
    have hmm := mul_pow8 m l hlm
    obtain ⟨M, hM⟩ : ∃ M : Int, M = (2 ^ m - 1) * 2 ^ l := ⟨_, rfl⟩
    have hM2 : M / 2 ^ l = 2 ^ m - 1 := by rw [hM]; exact Int.mul_ediv_cancel _ (by omega)
    rw [← hM] at hmk hmm
    have hm1 : 2 ≤ (2 : Int) ^ m := by
      have h1 : 2 ^ 1 ≤ 2 ^ m := Nat.pow_le_pow_right (by decide) (by omega)
      have h3 : ((2 ^ m : Nat) : Int) = (2 : Int) ^ m := by rw [Int.natCast_pow]; rfl
      omega
    have hne : (M == 0) = false := by
      simp only [beq_eq_false_iff_ne, ne_eq]
      intro e
      rw [e] at hM2
      simp at hM2
      omega
    have e1 : bitsR c l m = (bitsN c l m : Int) := by unfold bitsR; rw [hb]; rfl
    have e2 : bitsE l m = 0 := by unfold bitsE; rw [hb]; rfl
    rw [e1, e2]
    have HMK := Lib.hid hmk
    have HM := Lib.hid hM
    have hcr := u8v_range c
    clear hmk hM hM2 e1 e2
    go_enter Try.func24, Try.ntmps24
    go_wp2_with fail
    refine HMK.out.mono ?_
    rintro e w' ⟨rfl, rfl⟩
    go_wp2
    go_ret2
    refine ⟨?_, rfl⟩
    show Ending.returned (.tuple #[.int .i64 (bits .and .i64 (u8v c) M / 2 ^ l), .int .i64 0]) = _
    rw [HM.out, bits_num c l m hlm]
end Go.Proofs.Ytgfdadbgbdcehaa
