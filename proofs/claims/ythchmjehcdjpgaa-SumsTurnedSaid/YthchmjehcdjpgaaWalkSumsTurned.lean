/- The walk of SumsTurned: bits that are turned within 32 in a row turn the sum, and the digest. -/
import Derived.Test.YthchmjehcdjpgaaKnown01
import Derived.Test.YthchmjehcdjpgaaTurn
import Derived.Deep.RegionHeld3
import Derived.OpenShut
namespace Go.Proofs.Ythchmjehcdjpgaa
open Go.RowKit Go.ChangeShapes Go.WideShapes
set_option linter.unusedVariables false
set_option linter.unusedSimpArgs false

theorem test_num (B : BitVec 32) (k : Nat) : (bits BinOp.and IntKind.u32 (u32v B / 2 ^ k) 1 == 1) = B.getLsbD k := by
  have h1 : (1 : Int) = u32v 1#32 := by decide
  have h2 : u32v B / (2 : Int) ^ k = u32v (B >>> k) := by
    unfold u32v
    rw [BitVec.toNat_ushiftRight, Nat.shiftRight_eq_div_pow, Int.natCast_ediv, Int.natCast_pow]
    rfl
  have e : B >>> k &&& 1#32 = if B.getLsbD k then 1#32 else 0#32 := by
    apply BitVec.eq_of_getLsbD_eq
    intro i hi
    rw [BitVec.getLsbD_and, BitVec.getLsbD_ushiftRight]
    cases i with
    | zero => cases hb : B.getLsbD k <;> simp [hb]
    | succ i => cases hb : B.getLsbD k <;> simp
  have h3 : bits BinOp.and IntKind.u32 (u32v B / (2 : Int) ^ k) 1 = u32v (if B.getLsbD k then 1#32 else 0#32) := by
    rw [h2]
    conv => lhs; rw [h1]
    rw [u32_and, e]
  rw [h3]
  cases B.getLsbD k <;> decide
theorem flip_num (xs : List UInt8) (j b : Nat) (hb : b < 8) : bits BinOp.xor IntKind.u8 (at8 xs j) (2 ^ b % 256) = at8 [flip1 (xs.getD j 0) b] 0 := by
  have h1 := (xs.getD j 0).toNat_lt
  have h2 : (2 : Int) ^ b % 256 = ((2 ^ b : Nat) : Int) := by
    have : 2 ^ b < 256 := Nat.lt_of_lt_of_le (Nat.pow_lt_pow_right (by decide) hb) (by decide)
    rw [Int.natCast_pow]
    exact Int.emod_eq_of_lt (Int.pow_nonneg (by decide)) (by have := Int.ofNat_lt.2 this; rw [Int.natCast_pow] at this; exact this)
  have h3 : 2 ^ b < 256 := Nat.lt_of_lt_of_le (Nat.pow_lt_pow_right (by decide) hb) (by decide)
  unfold at8
  rw [h2, u8_xor_nat _ _ h1 h3]
  congr 1
  show _ = ((xs.getD j 0).toBitVec ^^^ (1#8 <<< b)).toNat
  rw [BitVec.toNat_xor]
  congr 1
  rw [BitVec.toNat_shiftLeft]
  simp [Nat.shiftLeft_eq]
  omega

set_option maxRecDepth 10000 in
theorem turned_go (w : World) (v : Value) (xs : List UInt8) (h : Bs w v xs) (hl : xs.length ≤ 140737488351232) (h0 : 0 < xs.length) (at_ : Int) (hat : (Lit.int .i64 at_).wf = true) (B : BitVec 32) :
    Calls Try.prog 7 #[v, .int .i64 at_, .int .u32 (u32v B)] w fun e w' => e = .returned (.bool true) ∧ Same w w' := by
  have hi5 : (Try.prog.info? 5).map (fun i => (i.zero, i.size, i.bytes)) = some (some (.int .u8 0), 1, 1) := by kernel_rfl
  have hB := u32v_range B
  have hatb := bounds_i64 hat
  obtain ⟨n, hn⟩ : ∃ n, n = xs.length := ⟨_, rfl⟩
  obtain ⟨A, cap, rfl, hcap⟩ : ∃ A cap, v = .slice A n cap ∧ n ≤ cap := by obtain ⟨A, cap, rfl, h1, _⟩ := h; exact ⟨A, cap, by rw [hn], by rw [hn]; exact h1⟩
  rw [← hn] at hl h0
  have HN := Lib.hid hn
  clear hn hat
  have hne : ((n : Int) == 0) = false := by simp; omega
  obtain ⟨t, ht⟩ : ∃ t : Nat, (t : Int) = at_ % (8 * n) := ⟨(at_ % (8 * n)).toNat, by have := Int.emod_nonneg at_ (show (8 * (n : Int)) ≠ 0 by omega); omega⟩
  have ht2 : t < 8 * n := by have := Int.emod_lt_of_pos at_ (show 0 < 8 * (n : Int) by omega); omega
  have HT := Lib.hid ht
  clear ht
  go_enter Try.func7, Try.ntmps7
  go_wp2_with fail
  refine (count_any at_ (8 * n) w (by omega) (by omega) hatb.1 hatb.2).mono ?_
  rintro e w' ⟨rfl, rfl⟩
  rw [← HT.out]
  go_wp2_with (at_builtin; refine wpl_append_bytes rfl (.tmp 19) (.tmp 20) 22 rfl Try.underlying22 hi5 w.heap.size (.slice none 0 0) (.slice A n cap) [] xs xs rfl rfl rfl (Fresh.nil _ _) h (Nat.le_refl _) (by have := HN.out; simp; omega) ?_; intro v2 w2 hf2 hu2 hr2)
  have hs2 : Same w w2 := hu2.mono fun i _ hi => by simp [room] at hi
  clear hu2 hr2
  obtain ⟨A2, cap2, rfl, hcap2⟩ : ∃ A cap, v2 = .slice A n cap ∧ n ≤ cap := by obtain ⟨A, cap, rfl, h1, _⟩ := hf2.bs; exact ⟨A, cap, by rw [HN.out], by rw [HN.out]; exact h1⟩
  obtain ⟨g, off, rfl⟩ := hf2.addr (by omega)
  go_loopw [8, 9] (fun v8 i wr => ∃ k : Nat, k ≤ 32 ∧ t + k ≤ 8 * n ∧ i = .int .i64 k ∧ v8 = .bool (anyN B k) ∧ Fresh w.heap.size wr (.slice (some ⟨g, off, none⟩) n cap2) (flipN xs t B k) ∧ Same w wr) (fun _ i _ => 32 - (intOf i).toNat)
  case atStart => exact ⟨0, by omega, by omega, rfl, rfl, hf2, hs2⟩
  case round =>
    obtain ⟨k, hk, htk, rfl, rfl, hf, hs⟩ := hrel
    have hkl : (flipN xs t B k).length = n := by rw [flipN_length]; exact HN.out.symm
    have HKL := Lib.hid hkl
    clear hkl
    by_cases hk2 : k < 32 ∧ t + k < 8 * n
    · obtain ⟨hk3, hk4⟩ := hk2
      have c1 : (k : Int) < 32 := by omega
      have c2 : (t : Int) + (k : Int) < 8 * (n : Int) := by omega
      obtain ⟨m, hm⟩ : ∃ m, m = (t + k) / 8 := ⟨_, rfl⟩
      have hm1 : m < n := by omega
      obtain ⟨hcell, hfr⟩ := hf.at_ m (by have := HKL.out; omega)
      rw [hm] at hcell hfr hm1
      have HM := Lib.hid hm
      clear hm
      have hidx : ((t : Int) + (k : Int)) / 8 < (n : Int) := by omega
      cases hb : B.getLsbD k with
      | true =>
        have htest : (bits BinOp.and IntKind.u32 (u32v B / 2 ^ k) 1 == 1) = true := (test_num B k).trans hb
        have H2 := Lib.hid hb
        clear hb
        obtain ⟨f1, f2, f3⟩ := hf.set ((t + k) / 8) (by have := HKL.out; omega) (flip1 ((flipN xs t B k).getD ((t + k) / 8) 0) ((t + k) % 8)) _ (flip_num (flipN xs t B k) ((t + k) / 8) ((t + k) % 8) (by omega))
        have hs3 := Same.trans hs (Upd.refl (fun _ => False) wr)
        have hs4 : Same w (wr.setCell ⟨g, off + (t + k) / 8, none⟩ (.int .u8 (bits BinOp.xor IntKind.u8 (at8 (flipN xs t B k) ((t + k) / 8)) (2 ^ ((t + k) % 8) % 256)))) := hs.setCell (p := ⟨g, off + (t + k) / 8, none⟩) (fun hlt => by have : w.heap.size ≤ g := f3; have : g < w.heap.size := hlt; omega) _
        have F1 := Lib.hid f1
        have S4 := Lib.hid hs4
        clear f1 f2 hs4 hs3
        go_wp2_with fail
        go_roundw
        case rel => exact ⟨k + 1, by omega, by omega, by go_num, by rw [anyN, H2.out]; rfl, by rw [flipN, H2.out]; exact F1.out, S4.out⟩
        case measure => simp [intOf]; omega
      | false =>
        have htest : (bits BinOp.and IntKind.u32 (u32v B / 2 ^ k) 1 == 1) = false := (test_num B k).trans hb
        have H2 := Lib.hid hb
        clear hb
        go_wp2_with fail
        go_roundw
        case rel => exact ⟨k + 1, by omega, by omega, by go_num, by rw [anyN, H2.out]; rfl, by rw [flipN, H2.out]; exact hf, hs⟩
        case measure => simp [intOf]; omega
    · obtain ⟨S1, hS1⟩ : ∃ s, s = crcSum xs := ⟨_, rfl⟩
      obtain ⟨S2, hS2⟩ : ∃ s, s = crcSum (flipN xs t B k) := ⟨_, rfl⟩
      obtain ⟨y, hy⟩ : ∃ y, y = anyN B k := ⟨_, rfl⟩
      have hbx : Bs wr (.slice A n cap) xs := h.same hs
      have hbc : Bs wr (.slice (some ⟨g, off, none⟩) n cap2) (flipN xs t B k) := hf.bs
      have hpart : y = true → S1 ≠ S2 := fun h1 => by rw [hS1, hS2]; exact turned_sum xs t B k hk (by rw [← HN.out]; exact htk) (by rw [← hy]; exact h1)
      have hmeet : y = false → S1 = S2 := fun h1 => by rw [hS1, hS2, flipN_none xs t B k (by rw [← hy]; exact h1)]
      have c0 := sum_bs _ _ _ hbx
      have c1 := sum_bs _ _ _ hbc
      have c2 := digest_bs _ _ _ hbx
      have c3 : ∀ (v' : Value) (ys : List UInt8) (w' : World), Same wr w' → Bs w' v' ys → Calls Try.prog 16 #[.slice (some ⟨g, off, none⟩) n cap2, v'] w' fun e w'' => e = .returned (.bool (eqB (crcDigest S2) ys)) ∧ Same w' w'' := fun v' ys w' hw hv => by
        rw [hS2]
        exact right_bs _ _ _ _ _ (hbc.same hw) hv
      rw [← hS1] at c0 c2
      rw [← hS2] at c1
      rw [← hy]
      clear hS1 hS2 hy hbx hbc hf
      have C0 := Lib.hid c0
      have C1 := Lib.hid c1
      have C2 := Lib.hid c2
      have C3 := Lib.hid c3
      clear c0 c1 c2 c3
      have hcond : ¬ ((k : Int) < 32 ∧ (t : Int) + (k : Int) < 8 * (n : Int)) := by omega
      cases y with
      | true =>
        have hne1 : (u32v S1 != u32v S2) = true := by
          have := hpart rfl
          simp only [bne_iff_ne, ne_eq]
          exact fun e => this (u32v_inj e)
        have hne2 : eqB (crcDigest S2) (crcDigest S1) = false := eqB_false fun e => hpart rfl (crcDigest_inj e).symm
        clear hpart hmeet
        go_wp2_with fail
        all_goals
          refine C0.out.mono ?_
          rintro e w' ⟨rfl, rfl⟩
          go_wp2_with fail
          refine C1.out.mono ?_
          rintro e w' ⟨rfl, rfl⟩
          go_wp2_with fail
          refine C2.out.mono ?_
          rintro e w3 ⟨v3, rfl, hf3, hs3⟩
          go_wp2_with fail
          refine (C3.out _ _ _ hs3 hf3.bs).mono ?_
          rintro e w4 ⟨rfl, hs4⟩
          rw [hne2]
          go_wp2_with fail
          refine (known_any _).mono ?_
          rintro e w5 ⟨rfl, hs5⟩
          go_wp2
          go_ret
          exact ⟨rfl, Same.trans hs (Same.trans hs3 (Same.trans hs4 hs5))⟩
      | false =>
        obtain rfl := hmeet rfl
        clear hpart hmeet
        go_wp2_with fail
        all_goals
          refine C0.out.mono ?_
          rintro e w' ⟨rfl, rfl⟩
          go_wp2_with fail
          refine C1.out.mono ?_
          rintro e w' ⟨rfl, rfl⟩
          go_wp2_with fail
          refine C2.out.mono ?_
          rintro e w3 ⟨v3, rfl, hf3, hs3⟩
          go_wp2_with fail
          refine (C3.out _ _ _ hs3 hf3.bs).mono ?_
          rintro e w4 ⟨rfl, hs4⟩
          rw [eqB_self]
          go_wp2_with fail
          refine (known_any _).mono ?_
          rintro e w5 ⟨rfl, hs5⟩
          go_wp2
          go_ret
          exact ⟨rfl, Same.trans hs (Same.trans hs3 (Same.trans hs4 hs5))⟩
theorem u32_of (a : Int) (h : (Lit.int .u32 a).wf = true) : ∃ B : BitVec 32, a = u32v B := by
  have hb := bounds_u32 h
  refine ⟨BitVec.ofNat 32 a.toNat, ?_⟩
  unfold u32v
  rw [BitVec.toNat_ofNat]
  omega
theorem sumsTurned_walk (w : World) (v : Value) (xs : List UInt8) (h : Bs w v xs) (hl : xs.length ≤ 140737488351232) (at_ : Int) (hat : (Lit.int .i64 at_).wf = true) (a2 : Int) (h2 : (Lit.int .u32 a2).wf = true) :
    Calls Try.prog 7 #[v, .int .i64 at_, .int .u32 a2] w fun e w' => e = .returned (.bool true) ∧ Same w w' := by
  obtain ⟨B, rfl⟩ := u32_of a2 h2
  by_cases h0 : 0 < xs.length
  · exact turned_go w v xs h hl h0 at_ hat B
  · have hx : xs = [] := List.eq_nil_of_length_eq_zero (by omega)
    subst hx
    obtain ⟨A, cap, rfl, _⟩ := h
    clear h0 hat h2 hl
    go_enter Try.func7, Try.ntmps7
    go_wp2_with fail
    refine (known_any _).mono ?_
    rintro e w5 ⟨rfl, hs5⟩
    go_wp2
    go_ret
    exact ⟨rfl, hs5⟩
end Go.Proofs.Ythchmjehcdjpgaa
