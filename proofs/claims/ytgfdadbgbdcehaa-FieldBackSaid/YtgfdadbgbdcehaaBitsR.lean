/- What the reference's Set and Bits compute. -/
import Derived.Test.YtgfdadbgbdcehaaBitsW
namespace Go.Proofs.Ytgfdadbgbdcehaa
open Go.RowKit
set_option linter.unusedVariables false
set_option linter.unusedSimpArgs false

theorem two_pow_cast (m : Nat) : ((2 ^ m : Nat) : Int) = (2 : Int) ^ m := by rw [Int.natCast_pow]; rfl
theorem bit_test (N k : Nat) (h : (N : Int) ≤ 9223372036854775807) : (bits BinOp.and IntKind.i64 ((N : Int) / 2 ^ k) 1 == 1) = N.testBit k := by
  have h1 : N / 2 ^ k ≤ N := Nat.div_le_self _ _
  have e : (N : Int) / 2 ^ k = ((N / 2 ^ k : Nat) : Int) := by rw [Int.natCast_ediv, two_pow_cast]
  rw [e, show (1 : Int) = ((1 : Nat) : Int) from rfl, and_i64_nat _ _ (by omega) (by omega), Nat.and_one_is_mod, Nat.testBit_eq_decide_div_mod_eq]
  rcases Nat.mod_two_eq_zero_or_one (N / 2 ^ k) with h | h <;> simp [h]
theorem one_shl (s : Nat) : (2 : Int) ^ s % 256 = u8v (1#8 <<< s) := by
  unfold u8v
  rw [BitVec.toNat_shiftLeft, ← two_pow_cast, Nat.shiftLeft_eq]
  simp
theorem rset_any (c : BitVec 8) (low size n : Int) (w : World) (h1 : -9223372036854775808 ≤ low) (h2 : low ≤ 9223372036854775807) (h3 : -9223372036854775808 ≤ size) (h4 : size ≤ 9223372036854775807) (h5 : -9223372036854775808 ≤ n) (h6 : n ≤ 9223372036854775807) :
    Calls Try.prog 23 #[.int .u8 (u8v c), .int .i64 low, .int .i64 size, .int .i64 n] w fun e w' => e = .returned (.tuple #[.int .u8 (u8v (setR c low size n)), .int .i64 (setE low size n)]) ∧ w = w' := by
  have hmk := rbits_any low size w h1 h2 h3 h4
  cases hb : bitsB low size with
  | false =>
    have e1 : setR c low size n = 0#8 := by unfold setR; rw [hb]; rfl
    have e2 : setE low size n = 1 := by unfold setE; rw [hb]; rfl
    rw [hb] at hmk
    rw [e1, e2]
    go_enter Try.func23, Try.ntmps23
    go_wp2_with fail
    refine hmk.mono ?_
    rintro e w' ⟨rfl, rfl⟩
    go_wp2
    go_ret2
    exact ⟨rfl, rfl⟩
  | true =>
    have hbb : 0 ≤ low ∧ low ≤ 8 ∧ 1 ≤ size ∧ size ≤ 8 - low := by simpa [bitsB] using hb
    rw [hb] at hmk
    obtain ⟨l, hl⟩ : ∃ l : Nat, (l : Int) = low := ⟨low.toNat, by omega⟩
    obtain ⟨m, hm⟩ : ∃ m : Nat, (m : Int) = size := ⟨size.toNat, by omega⟩
    subst hl hm
    obtain ⟨q1, q2⟩ := pow8 m (by omega)
    have hlm : l + m ≤ 8 := by omega
    have HMK := Lib.hid hmk
    clear hmk
    by_cases hn : 0 ≤ n ∧ n < 2 ^ m
    · have e1 : setR c l m n = setV c l n.toNat m := by unfold setR; rw [hb]; simp only [if_true, Int.toNat_natCast]; rw [if_pos hn]
      have e2 : setE l m n = 0 := by unfold setE; rw [hb]; simp only [if_true, Int.toNat_natCast]; rw [if_pos hn]
      rw [e1, e2]
      obtain ⟨N, rfl⟩ := Int.eq_ofNat_of_zero_le hn.1
      have hN : N < 2 ^ m := by
        have h3 := two_pow_cast m
        omega
      have c1 : ¬ ((N : Int) < 0) := by omega
      have c2 : ¬ ((2 : Int) ^ m ≤ (N : Int)) := by omega
      have c3 : (m : Int) < 63 := by omega
      have c4 : (m : Int) < 64 := by omega
      clear e1 e2 hn
      go_enter Try.func23, Try.ntmps23
      go_wp2_with fail
      refine HMK.out.mono ?_
      rintro e w' ⟨rfl, rfl⟩
      go_wp2_with fail
      go_loop [0, 10] (fun v0 v10 => ∃ k : Nat, k ≤ m ∧ v10 = .int .i64 k ∧ v0 = .int .u8 (u8v (setV c l N k))) (fun _ v10 => m - (intOf v10).toNat)
      case atStart => exact ⟨0, by omega, rfl, rfl⟩
      case round =>
        obtain ⟨k, hk, rfl, rfl⟩ := hrel
        have hcr := u8v_range (setV c l N k)
        by_cases hlt : k < m
        · have g1 : (k : Int) < (m : Int) := by omega
          have ht := bit_test N k h6
          cases hbit : N.testBit k with
          | true =>
            rw [hbit] at ht
            go_wp2_with fail
            go_round
            case rel =>
              refine ⟨k + 1, by omega, by go_num, ?_⟩
              rw [one_shl, u8v_andNot, u8v_or, setV, hbit]
              rfl
            case measure => simp [intOf]; omega
          | false =>
            rw [hbit] at ht
            go_wp2_with fail
            go_round
            case rel =>
              refine ⟨k + 1, by omega, by go_num, ?_⟩
              rw [one_shl, u8v_andNot, setV, hbit]
              rfl
            case measure => simp [intOf]; omega
        · have hkm : k = m := by omega
          subst hkm
          go_wp2_with fail
          go_ret2
          exact ⟨rfl, rfl⟩
    · have e1 : setR c l m n = 0#8 := by unfold setR; rw [hb]; simp only [if_true, Int.toNat_natCast]; rw [if_neg hn]
      have e2 : setE l m n = 3 := by unfold setE; rw [hb]; simp only [if_true, Int.toNat_natCast]; rw [if_neg hn]
      rw [e1, e2]
      have c3 : (m : Int) < 63 := by omega
      have c0 : (n < 0) ∨ ((0 ≤ n ∧ ¬ (n < 0)) ∧ (2 : Int) ^ m ≤ n) := by omega
      clear e1 e2 hn
      rcases c0 with c0 | ⟨⟨c0, c1⟩, c2⟩
      all_goals
        go_enter Try.func23, Try.ntmps23
        go_wp2_with fail
        refine HMK.out.mono ?_
        rintro e w' ⟨rfl, rfl⟩
        go_wp2
        go_ret2
        exact ⟨rfl, rfl⟩
theorem pow7 (k : Nat) (h : k < 8) : (1 : Int) ≤ 2 ^ k ∧ (2 : Int) ^ k ≤ 128 := by
  have h1 : 1 ≤ 2 ^ k := Nat.one_le_two_pow
  have h2 : 2 ^ k ≤ 2 ^ 7 := Nat.pow_le_pow_right (by decide) (by omega)
  have h3 := two_pow_cast k
  omega
theorem c_test (c : BitVec 8) (s : Nat) : (bits BinOp.and IntKind.u8 (u8v c / 2 ^ s) 1 == 1) = c.getLsbD s := by
  have h1 : c.toNat / 2 ^ s ≤ c.toNat := Nat.div_le_self _ _
  have h2 := c.isLt
  have e : u8v c / 2 ^ s = u8v (c >>> s) := by
    unfold u8v
    rw [BitVec.toNat_ushiftRight, Nat.shiftRight_eq_div_pow, Int.natCast_ediv, two_pow_cast]
  rw [e, show (1 : Int) = u8v 1#8 from rfl, u8v_and]
  have : (c >>> s &&& 1#8) = if c.getLsbD s then 1#8 else 0#8 := by
    apply BitVec.eq_of_getLsbD_eq
    intro i hi
    rw [BitVec.getLsbD_and, BitVec.getLsbD_ushiftRight]
    cases hb : c.getLsbD s
    · cases i with
      | zero => simp [hb]
      | succ i => simp
    · cases i with
      | zero => simp [hb]
      | succ i => simp
  rw [this]
  cases c.getLsbD s <;> rfl
theorem rbitsv_any (c : BitVec 8) (low size : Int) (w : World) (h1 : -9223372036854775808 ≤ low) (h2 : low ≤ 9223372036854775807) (h3 : -9223372036854775808 ≤ size) (h4 : size ≤ 9223372036854775807) :
    Calls Try.prog 25 #[.int .u8 (u8v c), .int .i64 low, .int .i64 size] w fun e w' => e = .returned (.tuple #[.int .i64 (bitsR c low size), .int .i64 (bitsE low size)]) ∧ w = w' := by
  have hmk := rbits_any low size w h1 h2 h3 h4
  cases hb : bitsB low size with
  | false =>
    have e1 : bitsR c low size = 0 := by unfold bitsR; rw [hb]; rfl
    have e2 : bitsE low size = 1 := by unfold bitsE; rw [hb]; rfl
    rw [hb] at hmk
    rw [e1, e2]
    go_enter Try.func25, Try.ntmps25
    go_wp2_with fail
    refine hmk.mono ?_
    rintro e w' ⟨rfl, rfl⟩
    go_wp2
    go_ret2
    exact ⟨rfl, rfl⟩
  | true =>
    have hbb : 0 ≤ low ∧ low ≤ 8 ∧ 1 ≤ size ∧ size ≤ 8 - low := by simpa [bitsB] using hb
    rw [hb] at hmk
    obtain ⟨l, hl⟩ : ∃ l : Nat, (l : Int) = low := ⟨low.toNat, by omega⟩
    obtain ⟨m, hm⟩ : ∃ m : Nat, (m : Int) = size := ⟨size.toNat, by omega⟩
    subst hl hm
    have hlm : l + m ≤ 8 := by omega
    have e1 : bitsR c l m = (bitsN c l m : Int) := by unfold bitsR; rw [hb]; rfl
    have e2 : bitsE l m = 0 := by unfold bitsE; rw [hb]; rfl
    rw [e1, e2]
    have HMK := Lib.hid hmk
    clear hmk e1 e2
    have hcr := u8v_range c
    go_enter Try.func25, Try.ntmps25
    go_wp2_with fail
    refine HMK.out.mono ?_
    rintro e w' ⟨rfl, rfl⟩
    go_wp2_with fail
    go_loop [8, 9] (fun v8 v9 => ∃ k : Nat, k ≤ m ∧ v9 = .int .i64 k ∧ v8 = .int .i64 (bitsN c l k : Nat)) (fun _ v9 => m - (intOf v9).toNat)
    case atStart => exact ⟨0, by omega, rfl, by unfold bitsN; rw [Nat.pow_zero, Nat.mod_one]; rfl⟩
    case round =>
      obtain ⟨k, hk, rfl, rfl⟩ := hrel
      by_cases hlt : k < m
      · have g1 : (k : Int) < (m : Int) := by omega
        have ht := c_test c (l + k)
        obtain ⟨p1, p2⟩ := pow7 k (by omega)
        have hB := bitsN_lt c l k
        have hB2 := two_pow_cast k
        have hs := bitsN_succ c l k
        obtain ⟨X, hX⟩ : ∃ X : Int, X = (bitsN c l k : Int) := ⟨_, rfl⟩
        have hX1 : 0 ≤ X ∧ X ≤ 128 := by omega
        have HX := Lib.hid hX
        have HS := Lib.hid hs
        rw [← hX]
        clear hs hX hB hB2
        cases hbit : c.getLsbD (l + k) with
        | true =>
          rw [hbit] at ht
          go_wp2_with fail
          go_round
          case rel =>
            refine ⟨k + 1, by omega, by go_num, ?_⟩
            have := HX.out
            have h7 := HS.out
            rw [hbit] at h7
            rw [h7]
            simp only [if_true, Int.natCast_add, two_pow_cast, this]
          case measure => simp [intOf]; omega
        | false =>
          rw [hbit] at ht
          go_wp2_with fail
          go_round
          case rel =>
            refine ⟨k + 1, by omega, by go_num, ?_⟩
            have := HX.out
            have h7 := HS.out
            rw [hbit] at h7
            rw [h7, this]
            rfl
          case measure => simp [intOf]; omega
      · have hkm : k = m := by omega
        subst hkm
        go_wp2_with fail
        go_ret2
        exact ⟨rfl, rfl⟩
end Go.Proofs.Ytgfdadbgbdcehaa
