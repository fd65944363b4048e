/- The walk of FieldBack. -/
import Derived.Test.YtgfdadbgbdcehaaWalkFieldPlaces
import Derived.Deep.QuietTactic
import Derived.BigQuiet
import Derived.Deep.DeepCutAuto
import Derived.Deep.CutBlock
namespace Go.Proofs.Ytgfdadbgbdcehaa
open Go.RowKit
set_option linter.unusedVariables false
set_option linter.unusedSimpArgs false

/-- What a number's place holds and what lies off it, if the number was put. -/
theorem put_back (bs : List UInt8) (a s n : Int) (hn : 0 ≤ n) (h : putE bs.length a s n = 0) :
    (putL bs a s n).length = bs.length ∧ getE (putL bs a s n).length a s = 0 ∧ getN (putL bs a s n) a s = n ∧ 0 ≤ a ∧ 1 ≤ s ∧ a + s ≤ bs.length ∧ ∀ j : Nat, (j : Int) < a ∨ a + s ≤ j → at8 (putL bs a s n) j = at8 bs j := by
  unfold putE at h
  cases ht : thereB bs.length a s with
  | false => rw [ht] at h; simp at h
  | true =>
    rw [ht] at h
    have hts : 1 ≤ s ∧ s ≤ 8 ∧ 0 ≤ a ∧ a + s ≤ bs.length := by simpa [thereB] using ht
    cases hf : fitsB n s with
    | false => rw [hf] at h; simp at h
    | true =>
      have hfl : n < 256 ^ s.toNat := by simpa [fitsB] using hf
      have hL : putL bs a s n = bs.take a.toNat ++ numB n s.toNat ++ bs.drop (a + s).toNat := by unfold putL; rw [ht, hf]; rfl
      have hlen : (putL bs a s n).length = bs.length := by rw [hL]; simp [numB_length]; omega
      refine ⟨hlen, by unfold getE; rw [hlen, ht]; rfl, ?_, hts.2.2.1, hts.1, hts.2.2.2, ?_⟩
      · unfold getN
        rw [hlen, ht, hL]
        have e1 : (bs.take a.toNat).length = a.toNat := by simp; omega
        simp only [if_true]
        rw [List.append_assoc, List.drop_append_of_le_length (by omega), List.drop_eq_nil_of_le (by omega), List.nil_append, List.take_append_of_le_length (by rw [numB_length]; exact Nat.le_refl _), List.take_of_length_le (by rw [numB_length]; exact Nat.le_refl _)]
        exact valB_numB n s.toNat hn hfl
      · intro j hj
        rw [hL]
        unfold at8
        have e1 : (bs.take a.toNat).length = a.toNat := by simp; omega
        rcases hj with hj | hj
        · rw [List.append_assoc, List.getD_eq_getElem?_getD, List.getElem?_append_left (by omega), List.getElem?_take_of_lt (by omega), List.getD_eq_getElem?_getD]
        · rw [List.getD_eq_getElem?_getD, List.getElem?_append_right (by simp [numB_length]; omega), List.getElem?_drop, List.getD_eq_getElem?_getD]
          congr 4
          simp [numB_length]
          omega
theorem set_back (c : BitVec 8) (a s k : Int) (h : setE a s k = 0) :
    bitsE a s = 0 ∧ bitsR (setR c a s k) a s = k ∧ 0 ≤ a ∧ 1 ≤ s ∧ a + s ≤ 8 ∧ ∀ i : Nat, i < 8 → (i : Int) < a ∨ a + s ≤ i → (setR c a s k).getLsbD i = c.getLsbD i := by
  unfold setE at h
  cases hb : bitsB a s with
  | false => rw [hb] at h; simp at h
  | true =>
    rw [hb] at h
    have hbb : 0 ≤ a ∧ a ≤ 8 ∧ 1 ≤ s ∧ s ≤ 8 - a := by simpa [bitsB] using hb
    simp only [if_true] at h
    by_cases hk : 0 ≤ k ∧ k < 2 ^ s.toNat
    · have hR : setR c a s k = setV c a.toNat k.toNat s.toNat := by unfold setR; rw [hb, if_pos hk]; rfl
      have h3 := two_pow_cast s.toNat
      refine ⟨by unfold bitsE; rw [hb]; rfl, ?_, hbb.1, hbb.2.2.1, by omega, ?_⟩
      · unfold bitsR
        rw [hb, hR, bitsN_setV _ _ _ _ (by omega) (by omega)]
        simp only [if_true]
        omega
      · intro i hi hj
        rw [hR, setV_bit _ _ _ _ _ hi, if_neg (by omega)]
    · rw [if_neg hk] at h
      simp at h
theorem c_and1 (c : BitVec 8) (s : Nat) : bits BinOp.and IntKind.u8 (u8v c / 2 ^ s) 1 = if c.getLsbD s then 1 else 0 := by
  have h := c_test c s
  have e : u8v c / 2 ^ s = u8v (c >>> s) := by
    unfold u8v
    rw [BitVec.toNat_ushiftRight, Nat.shiftRight_eq_div_pow, Int.natCast_ediv, two_pow_cast]
  have h2 : bits BinOp.and IntKind.u8 (u8v c / 2 ^ s) 1 = u8v (c >>> s &&& 1#8) := by rw [e, show (1 : Int) = u8v 1#8 from rfl, u8v_and]
  have h3 : (c >>> s &&& 1#8).toNat = (c >>> s).toNat % 2 := by rw [BitVec.toNat_and]; exact Nat.and_one_is_mod _
  rw [h2] at h ⊢
  cases hb : c.getLsbD s with
  | true => rw [hb] at h; simpa using h
  | false =>
    rw [hb] at h
    have h4 : u8v (c >>> s &&& 1#8) ≠ 1 := by simpa using h
    unfold u8v at h4 ⊢
    rw [h3] at h4 ⊢
    simp only [Bool.false_eq_true, if_false]
    omega
set_option maxRecDepth 10000 in
theorem fieldBack_walk (w : World) (v : Value) (bs : List UInt8) (h : Bs w v bs) (hl : bs.length ≤ 140737488351232) (a : Int) (ha : (Lit.int .i64 a).wf = true) (s : Int) (hsz : (Lit.int .i64 s).wf = true) (n : Int) (hn : (Lit.int .u64 n).wf = true) (c : Int) (hc : (Lit.int .u8 c).wf = true) (k : Int) (hk : (Lit.int .i64 k).wf = true) :
    Calls Try.prog 5 #[v, .int .i64 a, .int .i64 s, .int .u64 n, .int .u8 c, .int .i64 k] w fun e w' => e = .returned (.bool true) ∧ Same w w' := by
  replace ha := bounds_i64 ha
  replace hsz := bounds_i64 hsz
  replace hn := bounds_u64 hn
  replace hc := bounds_u8 hc
  replace hk := bounds_i64 hk
  obtain ⟨d, rfl⟩ := u8v_of c (by omega) (by omega)
  clear hc
  have s1 := fun w => set_any d a s k w (by omega) (by omega) (by omega) (by omega) (by omega) (by omega)
  have s3 := fun d w => bits_any d a s w (by omega) (by omega) (by omega) (by omega)
  have p1 := put_bs v bs a s n w h (by omega) (by omega) (by omega) (by omega) (by omega) (by omega) (by omega)
  have p3 := fun v bs w h => get_bs v bs a s w h (by omega) (by omega) (by omega) (by omega)
  have S1 := Lib.hid s1
  have S3 := Lib.hid s3
  have P1 := Lib.hid p1
  have P3 := Lib.hid p3
  have hback := put_back bs a s n (by omega)
  have hset := set_back d a s k
  clear s1 s3 p1 p3
  obtain ⟨A, cap, rfl, k1, k2, _⟩ := id h
  generalize putE bs.length a s n = X5 at P1 hback
  generalize putL bs a s n = X6 at P1 hback
  generalize setE a s k = X2 at S1 hset
  generalize setR d a s k = X1 at S1 hset
  have HBACK := Lib.hid hback
  have HSET := Lib.hid hset
  clear hback hset
  go_enter Try.func5, Try.ntmps5
  go_wp2_with fail
  refine P1.out.mono ?_
  rintro e w1 ⟨v1, rfl, hv1, hs1⟩
  go_upto_if 32 with (fail)
  go_cut [17] (fun v17 wx => Same w wx)
  case first =>
    by_cases he : X5 = 0
    · obtain ⟨b1, b2, b3, b4, b5, b6, b7⟩ := HBACK.out he
      have p3 := P3.out v1 X6 w1 hv1.bs
      rw [b2, b3] at p3
      have P3 := Lib.hid p3
      clear p3 HBACK b2 b3
      obtain ⟨A1, n1, cap1, rfl, q1, q2, q3, q4⟩ := id hv1
      have q1 : X6.length = n1 := by simpa using q1
      have hne : ((n1 : Int) != (bs.length : Int)) = false := by simp; omega
      have B7 := Lib.hid b7
      have HX6 := Lib.hid b1
      have B1 := Lib.hid (show n1 = bs.length by omega)
      clear b7 q1 q4 b1
      have hw : IntKind.i64.wrap (a + s) = a + s := by rw [IntKind.wrap_i64]; omega
      subst he
      go_wp2_with fail
      refine P3.out.mono ?_
      rintro e w' ⟨rfl, rfl⟩
      go_wp2_with fail
      go_loopw [17] (fun v17 wr => ∃ i : Nat, i ≤ bs.length ∧ v17 = .int .i64 i ∧ Same w1 wr) (fun v17 _ => bs.length - (intOf v17).toNat)
      case atStart => exact ⟨0, by omega, rfl, Upd.refl _ w1⟩
      case round =>
        obtain ⟨i, hi, rfl, hsr⟩ := hrel
        by_cases hlt : i < bs.length
        · have g0 : (i : Int) < (bs.length : Int) := by omega
          obtain ⟨c0, co, e0, hcell⟩ := (h.same (Same.trans hs1 hsr)).at_ i hlt
          obtain ⟨c2, co2, e2, hcell2⟩ := (hv1.bs.same hsr).at_ i (by have := HX6.out; omega)
          have g1 : (i : Int) < (n1 : Int) := by have := B1.out; omega
          subst e0 e2
          have hb7 := B7.out i
          have hr1 := at8_range bs i
          by_cases t1 : (i : Int) < a
          · rw [hb7 (.inl t1)] at hcell2
            clear hb7
            go_wp2
            go_quiet (fail)
            go_wp2
            go_roundw
            case rel => exact ⟨i + 1, by omega, by go_num, hsr.drewN nq⟩
            case measure => simp [intOf]; omega
          · by_cases t2 : a + s ≤ (i : Int)
            · rw [hb7 (.inr t2)] at hcell2
              clear hb7
              go_wp2
              go_quiet (fail)
              go_wp2
              go_roundw
              case rel => exact ⟨i + 1, by omega, by go_num, hsr.drewN nq⟩
              case measure => simp [intOf]; omega
            · have t3 : decide (a + s ≤ (i : Int)) = false := by simp; omega
              have t4 : decide ((i : Int) < a) = false := by simp; omega
              clear hb7
              go_wp2
              go_quiet (fail)
              go_wp2
              go_roundw
              case rel => exact ⟨i + 1, by omega, by go_num, hsr.drewN nq⟩
              case measure => simp [intOf]; omega
        · obtain rfl : i = bs.length := by omega
          go_wp2_with fail
          go_meet
          exact Same.trans hs1 hsr
    · go_wp2_with fail
      go_meet
      exact hs1
  case rest =>
    clear hv1 hs1 HBACK P1 P3 h
    go_wp2_with fail
    refine (S1.out  wc).mono ?_
    rintro e w' ⟨rfl, rfl⟩
    by_cases he : X2 = 0
    · subst he
      obtain ⟨b1, b2, b3, b4, b5, b6⟩ := HSET.out rfl
      have s3 := S3.out X1  wc
      rw [b1, b2] at s3
      have S3 := Lib.hid s3
      have B6 := Lib.hid b6
      clear b1 b2 b6 s3
      go_wp2_with fail
      refine S3.out.mono ?_
      rintro e w' ⟨rfl, rfl⟩
      go_wp2_with fail
      go_loop [22] (fun v22 => ∃ i : Nat, i ≤ 8 ∧ v22 = .int .i64 i) (fun v22 => 8 - (intOf v22).toNat)
      case atStart => exact ⟨0, by omega, rfl⟩
      case round =>
        obtain ⟨i, hi, rfl⟩ := hrel
        by_cases hlt : i < 8
        · have g0 : (i : Int) < 8 := by omega
          have hb := B6.out i hlt
          have hz1 := c_and1 X1 i
          have hz2 := c_and1 d i
          have hw : wrap64 (a + s) = a + s := by unfold wrap64; omega
          obtain ⟨Y, hY⟩ : ∃ Y : Int, Y = if d.getLsbD i then 1 else 0 := ⟨_, rfl⟩
          rw [← hY] at hz2
          have r1 := u8v_range X1
          have r2 := u8v_range d
          by_cases t1 : (i : Int) < a
          · rw [hb (.inl t1), ← hY] at hz1
            clear hb hY
            go_wp2_with fail
            go_round
            case rel => exact ⟨i + 1, by omega, by go_num⟩
            case measure => simp [intOf]; omega
          · by_cases t2 : a + s ≤ (i : Int)
            · rw [hb (.inr t2), ← hY] at hz1
              clear hb hY
              go_wp2_with fail
              go_round
              case rel => exact ⟨i + 1, by omega, by go_num⟩
              case measure => simp [intOf]; omega
            · clear hb hY hz1 hz2
              have t3 : decide (a + s ≤ (i : Int)) = false := by simp; omega
              have t4 : decide ((i : Int) < a) = false := by simp; omega
              go_wp2_with fail
              go_round
              case rel => exact ⟨i + 1, by omega, by go_num⟩
              case measure => simp [intOf]; omega
        · obtain rfl : i = 8 := by omega
          go_wp2_with fail
          refine (known02_any wc).mono ?_
          rintro e w5 ⟨rfl, hs5⟩
          go_wp2_with fail
          go_ret
          exact ⟨rfl, Same.trans hcut hs5⟩
    · go_wp2_with fail
      refine (known02_any  wc).mono ?_
      rintro e w5 ⟨rfl, hs5⟩
      go_wp2_with fail
      go_ret
      exact ⟨rfl, Same.trans hcut hs5⟩
end Go.Proofs.Ytgfdadbgbdcehaa
