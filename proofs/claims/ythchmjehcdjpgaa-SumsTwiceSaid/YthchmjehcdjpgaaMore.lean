/- What sums.More computes: the sum of bytes behind others. -/
import Derived.Test.YthchmjehcdjpgaaRowsB
import Derived.Test.YthchmjehcdjpgaaCrc
namespace Go.Proofs.Ythchmjehcdjpgaa
open Go.RowKit
set_option linter.unusedVariables false
set_option linter.unusedSimpArgs false

theorem u32_max : IntKind.u32.max = u32v (~~~ 0#32) := by decide
theorem u32_not (r : BitVec 32) : bits .xor .u32 IntKind.u32.max (u32v r) = u32v (~~~ r) := by
  rw [u32_max, u32_xor, BitVec.xor_comm, ← not_eq_xor]

theorem u32_xor8 (r : BitVec 32) (bs : List UInt8) (k : Nat) : bits .xor .u32 (u32v r) (at8 bs k) = u32v (r ^^^ (bs.getD k 0).toBitVec.setWidth 32) := by
  rw [← u32_xor]
  have h : at8 bs k = u32v ((bs.getD k 0).toBitVec.setWidth 32) := by
    unfold at8 u32v
    rw [BitVec.toNat_setWidth]
    have := (bs.getD k 0).toNat_lt
    show _ = (((bs.getD k 0).toNat % 2 ^ 32 : Nat) : Int)
    omega
  rw [h]
theorem u32_half (r : BitVec 32) : u32v r / (2 : Int) = u32v (r >>> 1) := by
  unfold u32v
  rw [BitVec.toNat_ushiftRight, Nat.shiftRight_eq_div_pow]
  omega
theorem crc_step (r : BitVec 32) : bits .xor .u32 (u32v r / 2) (bits .and .u32 2197175160 (-bits .and .u32 (u32v r) 1 % 4294967296)) = u32v (crcL r) := by
  have h1 : (1 : Int) = u32v 1#32 := by decide
  have hp : (2197175160 : Int) = u32v 0x82f63b78#32 := by decide
  have hn : -bits .and .u32 (u32v r) 1 % 4294967296 = u32v (if r.getLsbD 0 then ~~~ 0#32 else 0#32) := by
    rw [h1, u32_and]
    have e : r &&& 1#32 = if r.getLsbD 0 then 1#32 else 0#32 := by
      apply BitVec.eq_of_getLsbD_eq
      intro i hi
      rw [BitVec.getLsbD_and]
      cases i with
      | zero => cases r.getLsbD 0 <;> simp
      | succ i => cases r.getLsbD 0 <;> simp
    rw [e]
    cases r.getLsbD 0 <;> decide
  rw [hn, u32_half, hp, u32_and, u32_xor]
  congr 1
  unfold crcL
  cases r.getLsbD 0 <;> simp

theorem crcF_snoc (r : BitVec 32) (bs : List UInt8) (k : Nat) (h : k < bs.length) : crcN 8 (crcF r (bs.take k) ^^^ (bs.getD k 0).toBitVec.setWidth 32) = crcF r (bs.take (k + 1)) := by
  rw [List.take_succ_eq_append_getElem h, crcF_append]
  rw [List.getD_eq_getElem?_getD, List.getElem?_eq_getElem h]
  rfl

theorem more_any (b off n cap : Nat) (bs : List UInt8) (r : BitVec 32) (w : World) (hn : bs.length = n) (hm : n ≤ 9223372036854775807) (hc : BytesAt w b off bs) :
    Calls Try.prog 9 #[.int .u32 (u32v r), .slice (some ⟨b, off, none⟩) n cap] w fun e w' => e = .returned (.int .u32 (u32v (crcMore r bs))) ∧ w = w' := by
  have hr := u32v_range r
  go_enter Try.func9, Try.ntmps9
  go_wp2
  go_loop [5, 12] (fun r' i => ∃ k : Nat, k ≤ n ∧ i = .int .i64 k ∧ r' = .int .u32 (u32v (crcF (~~~ r) (bs.take k)))) (fun _ i => n - (intOf i).toNat)
  case atStart => exact ⟨0, by omega, rfl, by rw [u32_not]; rfl⟩
  case round =>
    obtain ⟨k, hk, rfl, rfl⟩ := hrel
    have hcell : k < n → w.cell? ⟨b, off + k, none⟩ = some (.int .u8 (at8 bs k)) := fun h => hc k (by omega)
    obtain ⟨R, hR⟩ : ∃ R, R = crcF (~~~ r) (bs.take k) := ⟨_, rfl⟩
    rw [← hR]
    have HR := Lib.hid hR
    clear hR
    have h1 := u32v_range R
    have h2 := at8_range bs k
    go_wp2
    · rw [u32_xor8]
      obtain ⟨X, hX⟩ : ∃ X, X = R ^^^ (bs.getD k 0).toBitVec.setWidth 32 := ⟨_, rfl⟩
      rw [← hX]
      have HX := Lib.hid hX
      clear hX
      go_loop [5, 20] (fun r' i => ∃ j : Nat, j ≤ 8 ∧ i = .int .i64 j ∧ r' = .int .u32 (u32v (crcN j X))) (fun _ i => 8 - (intOf i).toNat)
      case atStart => exact ⟨0, by omega, rfl, rfl⟩
      case round =>
        obtain ⟨j, hj, rfl, rfl⟩ := hrel
        obtain ⟨Y, hY⟩ : ∃ Y, Y = crcN j X := ⟨_, rfl⟩
        rw [← hY]
        have HY := Lib.hid hY
        clear hY
        have h3 := u32v_range Y
        go_wp2
        · go_round
          case rel => exact ⟨j + 1, by omega, by go_num, by rw [crc_step, HY.out, ← crcN_succ]⟩
          case measure => simp [intOf]; omega
        · go_round
          case rel =>
            have hj8 : j = 8 := by omega
            exact ⟨k + 1, by omega, by go_num, by rw [HY.out, hj8, HX.out, HR.out, crcF_snoc _ _ _ (by omega)]⟩
          case measure => simp [intOf]; omega
    · have hge : ¬ k < n := by assumption
      go_ret
      exact ⟨ret_int (by rw [u32_not, HR.out, List.take_of_length_le (by omega)]; rfl), rfl⟩

theorem more_empty (A : Option Addr) (cap : Nat) (r : BitVec 32) (w : World) :
    Calls Try.prog 9 #[.int .u32 (u32v r), .slice A 0 cap] w fun e w' => e = .returned (.int .u32 (u32v (crcMore r []))) ∧ w = w' := by
  have hr := u32v_range r
  go_enter Try.func9, Try.ntmps9
  go_wp2
  refine wp_loop_rounds 1 ?_
  rw [rounds_succ]
  go_wp2
  go_ret
  exact ⟨ret_int (by rw [u32_not, u32_not]; rfl), rfl⟩
/-- sums.More, of whatever slice of bytes. -/
theorem more_bs (v : Value) (bs : List UInt8) (r : BitVec 32) (w : World) (h : Bs w v bs) :
    Calls Try.prog 9 #[.int .u32 (u32v r), v] w fun e w' => e = .returned (.int .u32 (u32v (crcMore r bs))) ∧ w = w' := by
  rcases h.cases with ⟨rfl, A, cap, rfl, h1⟩ | ⟨h0, b, off, cap, rfl, h1, h2, h3⟩
  · exact more_empty A cap r w
  · exact more_any b off bs.length cap bs r w rfl (by omega) h3
theorem u32v_zero : u32v 0#32 = 0 := by decide
/-- sums.Sum. -/
theorem sum_bs (v : Value) (bs : List UInt8) (w : World) (h : Bs w v bs) :
    Calls Try.prog 10 #[v] w fun e w' => e = .returned (.int .u32 (u32v (crcSum bs))) ∧ w = w' := by
  have hm := more_bs v bs 0#32 w h
  rw [u32v_zero] at hm
  go_enter Try.func10, Try.ntmps10
  go_wp2_with fail
  refine hm.mono ?_
  rintro e w' ⟨rfl, rfl⟩
  go_wp2
  go_ret
  exact ⟨rfl, rfl⟩
end Go.Proofs.Ythchmjehcdjpgaa
