/- The walk of ChunkTells. -/
import Derived.Test.YtccbkagmglddfaaChkT
namespace Go.Proofs.Ytccbkagmglddfaa
open Go.RowKit
set_option linter.unusedVariables false
set_option linter.unusedSimpArgs false
set_option maxRecDepth 100000
set_option maxHeartbeats 4000000
theorem chunkTells_go (w : World) (a : Int) (ha : -9223372036854775808 ≤ a ∧ a ≤ 9223372036854775807) (v : Value) (x : List UInt8) (hx : Bs w v x) (hxl : x.length ≤ 140737488351232) (size : Int) (hs : -9223372036854775808 ≤ size ∧ size ≤ 9223372036854775807) (which : Int) (hw : -9223372036854775808 ≤ which ∧ which ≤ 9223372036854775807) (at_ : Int) (hat : -9223372036854775808 ≤ at_ ∧ at_ ≤ 9223372036854775807) (B : BitVec 32) (cut : Int) (hc : -9223372036854775808 ≤ cut ∧ cut ≤ 9223372036854775807) :
    Calls Try.prog 7 #[.int .i64 a, v, .int .i64 size, .int .i64 which, .int .i64 at_, .int .u32 (u32v B), .int .i64 cut] w fun e w' => e = .returned (.bool true) ∧ Same w w' := by
  have hi5 : (Try.prog.info? 5).map (fun i => (i.zero, i.size, i.bytes)) = some (some (.int .u8 0), 1, 1) := by kernel_rfl
  have hB := u32v_range B
  obtain ⟨A, ca, rfl, -⟩ := id hx
  have HSX := Lib.hid (fun w0 hh => split_any a size A ca x w0 hh hxl ha hs)
  have HX := Lib.hid hx
  have HKN := Lib.hid (fun W => known07_any W)
  obtain ⟨Lx, hLx⟩ : ∃ L, L = x.length := ⟨_, rfl⟩
  rw [← hLx] at HX HSX ⊢
  have HLX := Lib.hid hLx
  clear hx hLx hxl
  go_enter Try.func7, Try.ntmps7
  go_wp2_with fail
  refine (HSX.out _ HX.out).mono ?_
  rintro e w1 ⟨B1, n1, c1, rfl, ⟨ss, hss, hpc⟩, hs1⟩
  obtain ⟨E1, hE1⟩ : ∃ E, E = splE a Lx size := ⟨_, rfl⟩
  rw [← hE1]
  have HE1 := Lib.hid hE1
  have HS1 := Lib.hid hs1
  have HSS := Lib.hid hss
  have HPC := Lib.hid hpc
  clear hE1 hs1 hss hpc
  by_cases h1 : E1 = 0
  · subst h1
    have heX : splE a x.length size = 0 := by rw [← HLX.out]; exact HE1.out.symm
    have hlx := splL_len heX
    obtain ⟨N1, hN1⟩ : ∃ N, N = splN x.length size := ⟨_, rfl⟩
    have hn1 : n1 = N1 ∧ n1 ≤ c1 := by
      have h := HPC.out.len
      have h3 := congrArg List.length HSS.out
      rw [hlx, List.length_map] at h3
      omega
    obtain ⟨rfl, hc1⟩ := hn1
    have hp1 : 1 ≤ n1 := by rw [hN1]; exact splN_pos _ _
    have hm1 : n1 ≤ 256 := by rw [hN1]; exact (splE_ok heX).2.2.2
    have hb1 : (((n1 : Nat) : Int) == 0) = false := by simp; omega
    obtain ⟨k, hk⟩ : ∃ k : Nat, (k : Int) = which % (n1 : Int) := ⟨(which % (n1 : Int)).toNat, by have := Int.emod_nonneg which (show ((n1 : Nat) : Int) ≠ 0 by omega); omega⟩
    have hk2 : k < n1 := by have := Int.emod_lt_of_pos which (show 0 < (n1 : Int) by omega); omega
    have hkN : k < splN x.length size := by rw [← hN1]; exact hk2
    obtain ⟨t1, t2, t3⟩ := tells_piece heX hkN
    have t4 : (splP a x size k).length ≤ 5000 := splP_small heX k
    obtain ⟨b1, o1, Ap, cp, rfl, xp, hbp⟩ := HPC.out.at_ (k := k) (by rw [HSS.out]; exact splL_get heX hkN)
    generalize splP a x size k = P at t1 t2 t3 t4 xp hbp
    have hcp := hbp.capN.2
    obtain ⟨LP, hLP⟩ : ∃ LP, LP = P.length := ⟨_, rfl⟩
    rw [← hLP] at t2 t4 xp hbp hcp
    obtain ⟨nn, hnn⟩ : ∃ nn, LP = nn + 22 := ⟨LP - 22, by omega⟩
    have hDi : (LP : Int) - 22 = (nn : Int) := by omega
    have hnm : nn ≤ 5000 := by omega
    have hnn1 : LP ≤ nn + 22 := by omega
    have hnn2 : nn + 22 ≤ LP := by omega
    clear hnn
    have g6 : (k : Int) < (n1 : Int) := by omega
    have HK := Lib.hid hk
    have HP0 := Lib.hid t1
    have HPG := Lib.hid t3
    have HLP := Lib.hid hLP
    have HBP := Lib.hid hbp
    have hbne : (LP : Int) ≠ 0 := by omega
    obtain ⟨s, hs⟩ : ∃ s : Nat, (s : Int) = at_ % (8 * (16 + (nn : Int))) := ⟨(at_ % (8 * (16 + (nn : Int)))).toNat, by have := Int.emod_nonneg at_ (show 8 * (16 + (nn : Int)) ≠ 0 by omega); omega⟩
    have hs2 : s < 8 * (16 + nn) := by have := Int.emod_lt_of_pos at_ (show 0 < 8 * (16 + (nn : Int)) by omega); omega
    have HSA := Lib.hid hs
    obtain ⟨q, hq⟩ : ∃ q : Nat, (q : Int) = cut % (LP : Int) := ⟨(cut % (LP : Int)).toNat, by have := Int.emod_nonneg cut hbne; omega⟩
    have hq2 : q < LP := by have := Int.emod_lt_of_pos cut (show 0 < (LP : Int) by omega); omega
    have HQ := Lib.hid hq
    clear heX hlx hN1 HE1 hk hs hq hLP hbp t1 t3 hkN
    go_wp2_with fail
    refine (count_any which (n1 : Int) _ (by omega) (by omega) hw.1 hw.2).mono ?_
    rintro e w' ⟨rfl, rfl⟩
    rw [← HK.out]
    go_wp2_with (at_builtin; (refine wpl_append_bytes rfl (.tmp 46) (.tmp 47) 22 rfl Try.underlying22 hi5 w1.heap.size (.slice none 0 0) (.slice Ap LP cp) [] P P rfl rfl rfl (Fresh.nil _ _) HBP.out (Nat.le_refl _) (by have := HLP.out; simp; omega) ?_); intro v2 w2 hf2 hu2 hr2)
    have hs2 : Same w1 w2 := hu2.mono fun i _ hi => by simp [room] at hi
    clear hu2 hr2
    obtain ⟨A2, n2, cap2, rfl⟩ := Fresh.shape hf2
    have hcn2 := hf2.bs.capN
    have e2 : LP = n2 := by have := HLP.out; omega
    subst e2
    obtain ⟨g, off, rfl⟩ := hf2.addr (by omega)
    have HF2 := Lib.hid hf2
    have HS2 := Lib.hid hs2
    have hcm : LP ≤ cap2 ∧ cap2 ≤ 9223372036854775807 := by have := HLP.out; omega
    clear hcn2
    clear hf2 hs2
    refine (count_any at_ (8 * (16 + (nn : Int))) _ (by omega) (by omega) hat.1 hat.2).mono ?_
    rintro e w' ⟨rfl, rfl⟩
    rw [← HSA.out]
    obtain ⟨t, ht⟩ : ∃ t, t = if s < 128 then s else s + 16 := ⟨_, rfl⟩
    have HT := Lib.hid ht
    clear ht
    go_upto_if 58 with (fail)
    go_cut [4] from 26 (fun v4 wx => v4 = .int .i64 (t : Nat) ∧ wx = w2)
    case first => as_aux_lemma =>
      by_cases h5 : s < 128
      · have g7 : (s : Int) < 128 := by omega
        have HTT := Lib.hid (show t = s from by rw [HT.out, if_pos h5])
        clear h5
        go_wp2_with fail
        go_meet
        exact ⟨by rw [HTT.out], rfl⟩
      · have g7 : ¬ (s : Int) < 128 := by omega
        have HTT := Lib.hid (show t = s + 16 from by rw [HT.out, if_neg h5])
        clear h5
        go_wp2_with fail
        go_meet
        exact ⟨by rw [HTT.out]; go_num, rfl⟩
    case rest =>
    obtain ⟨rfl, rfl⟩ := hcut
    obtain ⟨M, hM⟩ : ∃ M, M = if t < 128 then 128 else 8 * (18 + nn) := ⟨_, rfl⟩
    have htM : t ≤ M ∧ M ≤ 8 * (18 + nn) ∧ (t < 128 ∨ 144 ≤ t) := by have := HT.out; split at this <;> split at hM <;> omega
    have hM1 : t < 128 → M = 128 := fun h => by rw [hM, if_pos h]
    have hM2 : ¬ t < 128 → M = 8 * (18 + nn) := fun h => by rw [hM, if_neg h]
    clear hM
    have hst : TlS w1 wc (.slice (some ⟨g, off, none⟩) LP cap2) P t B 0 := ⟨HF2.out, HS2.out⟩
    have HST := Lib.hid hst
    clear hst HF2 HS2
    go_wp2_with fail
    go_loopw [20, 21] (fun v20 v21 wr => ∃ (i m : Nat), i ≤ 32 ∧ m ≤ i ∧ t + m ≤ M ∧ (m < i → t + m = M) ∧ v20 = .bool (anyN B m) ∧ v21 = .int .i64 i ∧ Hid (TlS w1 wr (.slice (some ⟨g, off, none⟩) LP cap2) P t B m)) (fun _ v21 _ => 32 - (intOf v21).toNat)
    case atStart => exact ⟨0, 0, by omega, by omega, by omega, by omega, rfl, rfl, HST.out⟩
    case round =>
      obtain ⟨i, m, hi, hmi, hmM, hmm, rfl, rfl, hin⟩ := hrel
      by_cases hlt : i < 32
      · have g7 : (i : Int) < 32 := by omega
        cases hb : B.getLsbD i with
        | false =>
          have htest : (bits BinOp.and IntKind.u32 (u32v B / 2 ^ i) 1 == 1) = false := (test_num B i).trans hb
          have H2 := Lib.hid hb
          have HMM := Lib.hid hmm
          have HM1 := Lib.hid hM1
          have HM2 := Lib.hid hM2
          clear hb hmm hM1 hM2
          go_wp2_with fail
          go_roundw
          case rel =>
            rcases Nat.lt_or_ge (t + m) M with h7 | h7
            · have e : m = i := by have := HMM.out; omega
              subst e
              exact ⟨m + 1, m + 1, by omega, by omega, by omega, by omega, by rw [anyN, H2.out]; rfl, by go_num, by rw [TlS, flipN, H2.out]; exact hin.out⟩
            · exact ⟨i + 1, m, by omega, by omega, by omega, by omega, rfl, by go_num, hin.out⟩
          case measure => simp [intOf]; omega
        | true =>
          have htest : (bits BinOp.and IntKind.u32 (u32v B / 2 ^ i) 1 == 1) = true := (test_num B i).trans hb
          have H2 := Lib.hid hb
          clear hb
          rcases Nat.lt_or_ge (t + i) M with h7 | h7
          · have e : m = i := by omega
            subst e
            have hkl : (flipN P t B m).length = LP := by rw [flipN_length]; exact HLP.out.symm
            have c2 : (t : Int) + (m : Int) < 8 * (18 + (nn : Int)) := by omega
            have hm1 : (t + m) / 8 < LP := by omega
            obtain ⟨hcell, hfr⟩ := hin.out.1.at_ ((t + m) / 8) (by rw [hkl]; exact hm1)
            have hidx : ((t : Int) + (m : Int)) / 8 < (LP : Int) := by omega
            obtain ⟨f1, f2, f3⟩ := hin.out.1.set ((t + m) / 8) (by rw [hkl]; exact hm1) (flip1 ((flipN P t B m).getD ((t + m) / 8) 0) ((t + m) % 8)) _ (flip_num (flipN P t B m) ((t + m) / 8) ((t + m) % 8) (by omega))
            have hs4 := Same.into hin.out.2 f2 (fun j hj => by have e : j = g := hj; subst e; exact f3)
            have F1 := Lib.hid (show TlS w1 _ _ P t B (m + 1) from ⟨by rw [flipN, H2.out]; exact f1, hs4⟩)
            have hm8 : t < 128 → t + m < 128 := fun h => by have := hM1 h; omega
            clear hkl f1 f2 hs4 hM1 hM2 hmm
            rcases htM.2.2 with h8 | h8
            · have d1 : ¬ (128 : Int) ≤ (t : Int) := by omega
              have d2 : (t : Int) + (m : Int) < 128 := by have := hm8 h8; omega
              clear hm8
              go_wp2_with fail
              go_roundw
              case rel => exact ⟨m + 1, m + 1, by omega, by omega, by omega, by omega, by rw [anyN, H2.out]; rfl, by go_num, F1.out⟩
              case measure => simp [intOf]; omega
            · have d1 : (128 : Int) ≤ (t : Int) := by omega
              clear hm8
              go_wp2_with fail
              go_roundw
              case rel => exact ⟨m + 1, m + 1, by omega, by omega, by omega, by omega, by rw [anyN, H2.out]; rfl, by go_num, F1.out⟩
              case measure => simp [intOf]; omega
          · have hM3 := hM2
            by_cases h8 : t < 128
            · have hM4 := hM1 h8
              have d1 : ¬ (128 : Int) ≤ (t : Int) := by omega
              have d2 : ¬ (t : Int) + (i : Int) < 128 := by omega
              clear hM3
              by_cases h9 : t + i < 8 * (18 + nn)
              · have c2 : (t : Int) + (i : Int) < 8 * (18 + (nn : Int)) := by omega
                have hst2 : t + m = M := by omega
                have HST2 := Lib.hid hst2
                clear hmm hM1 hM2 hst2
                go_wp2_with fail
                go_roundw
                case rel => exact ⟨i + 1, m, by omega, by omega, by omega, fun _ => HST2.out, rfl, by go_num, hin.out⟩
                case measure => simp [intOf]; omega
              · have c2 : ¬ (t : Int) + (i : Int) < 8 * (18 + (nn : Int)) := by omega
                have hst2 : t + m = M := by omega
                have HST2 := Lib.hid hst2
                clear hmm hM1 hM2 hst2
                go_wp2_with fail
                go_roundw
                case rel => exact ⟨i + 1, m, by omega, by omega, by omega, fun _ => HST2.out, rfl, by go_num, hin.out⟩
                case measure => simp [intOf]; omega
            · have hM4 := hM3 h8
              have c2 : ¬ (t : Int) + (i : Int) < 8 * (18 + (nn : Int)) := by omega
              have hst2 : t + m = M := by omega
              have HST2 := Lib.hid hst2
              clear hmm hM1 hM2 hst2 hM3
              go_wp2_with fail
              go_roundw
              case rel => exact ⟨i + 1, m, by omega, by omega, by omega, fun _ => HST2.out, rfl, by go_num, hin.out⟩
              case measure => simp [intOf]; omega
      · obtain rfl : i = 32 := by omega
        obtain ⟨FL, hFL⟩ : ∃ FL, FL = flipN P t B m := ⟨_, rfl⟩
        obtain ⟨y, hy⟩ : ∃ y, y = anyN B m := ⟨_, rfl⟩
        have htu : y = true → readE FL = 12 := fun h => by
          rw [hFL]
          refine tell_turn HP0.out t B m (by omega) (by rw [← hy]; exact h) ?_
          have := HLP.out
          by_cases h8 : t < 128
          · have := hM1 h8; exact .inl (by omega)
          · have := hM2 h8; exact .inr (by omega)
        have hfl : FL.length = LP := by rw [hFL, flipN_length]; exact HLP.out.symm
        obtain ⟨hf, hsr⟩ := hin.out
        rw [← hFL] at hf
        rw [← hy]
        have HTU := Lib.hid htu
        have HFL := Lib.hid hfl
        have HBF := Lib.hid hf.bs
        have HSR := Lib.hid hsr
        have g7 : ¬ ((32 : Nat) : Int) < 32 := by omega
        clear hmi hmM hmm hM1 hM2 htM hin hFL hy htu hfl hf hsr hi hlt
        go_wp2_with fail
        refine (Rdy.new wr).mono ?_
        rintro e w3 ⟨p, rfl, hr3⟩
        have HR3 := Lib.hid hr3
        clear hr3
        cases y
        case' false =>
          obtain ⟨w4, rfl⟩ : ∃ w4, w4 = w3 := ⟨_, rfl⟩
          have HR4 := HR3
          go_wp2_with fail
        case' true =>
          have HT2 := Lib.hid (HTU.out rfl)
          clear HTU
          go_wp2_with fail
          refine (HR3.out.bad _ _ _ FL (HBF.out.same (HR3.out.sm (Upd.refl _ _))) (by have := HFL.out; omega) (by rw [HT2.out]; decide)).mono ?_
          rintro e w4 ⟨rfl, hr4⟩
          rw [HT2.out]
          have HR4 := Lib.hid hr4
          clear hr4
          go_wp2_with fail
        all_goals
          have hq3 : q ≤ cp := by omega
          have HB4 := Lib.hid (HBP.out.same (HR4.out.sm HSR.out))
          refine (count_any cut (LP : Int) _ (by omega) (by omega) hc.1 hc.2).mono ?_
          rintro e w' ⟨rfl, rfl⟩
          rw [← HQ.out]
          go_wp2_with fail
          refine (HR4.out.bad _ _ _ (P.take q) (HB4.out.take q (by omega)) (by rw [List.length_take]; have := HLP.out; omega) (tells_cut HP0.out (by have := HLP.out; omega))).mono ?_
          rintro e w5 ⟨rfl, hr5⟩
          obtain ⟨E2, hE2⟩ : ∃ E2, E2 = readE (P.take q) := ⟨_, rfl⟩
          have hE3 : (E2 != 0) = true := by rw [hE2]; simpa using tells_cut HP0.out (by have := HLP.out; omega)
          rw [← hE2]
          have HR5 := Lib.hid hr5
          have HB5 := Lib.hid (HBP.out.same (hr5.sm HSR.out))
          clear hr5 hE2 HB4 HR4
          go_upto_region 29 with (at_builtin; (refine wpl_append_bytes rfl (.tmp 125) (.tmp 126) 22 rfl Try.underlying22 hi5 w5.heap.size (.slice none 0 0) (.slice Ap LP cp) [] P P rfl rfl rfl (Fresh.nil _ _) HB5.out (Nat.le_refl _) (by have := HLP.out; simp; omega) ?_); intro v6 w6 hf6 hu6 hr6)
          have hs6 : Same w5 w6 := hu6.mono fun i _ hi => by simp [room] at hi
          have HF6 := Lib.hid hf6
          have HR6 := Lib.hid (HR5.out.low.same hs6)
          have HZ6 := Lib.hid (HR5.out.2.1.size)
          have hz6 := hs6.size
          clear hu6 hr6 hf6 hs6
          go_wp2_with (at_builtin; (refine wpl_append_bytes rfl (.tmp 128) (.tmp 129) 22 rfl Try.underlying22 hi5 w5.heap.size v6 (.slice (some ⟨w6.heap.size, 0, none⟩) 1 1) P [0] (P ++ [0]) rfl rfl rfl (HF6.out.same ((Upd.refl _ w6).alloc _)) (Bs.one _ 0 _ _ rfl (by decide) (by decide)) (by simp; omega) (by simp; have := HLP.out; omega) ?_); intro v7 w7 hf7 hu7 hr7)
          have hr7b := (HR6.out.same ((Upd.refl _ w6).alloc _)).off hu7 (fun k hk => (HF6.out.ge k hk).1) HZ6.out
          have HR7 := Lib.hid hr7b.rdy
          obtain ⟨A7, n7, c7, rfl⟩ := Fresh.shape hf7
          have HF7 := Lib.hid hf7
          clear hu7 hr7 hf7 hr7b
          refine (HR7.out.bad _ _ _ (P ++ [0]) HF7.out.bs (by rw [List.length_append]; have := HLP.out; simp; omega) (tells_more HP0.out 0)).mono ?_
          rintro e w8 ⟨rfl, hr8⟩
          obtain ⟨E3, hE3e⟩ : ∃ E3, E3 = readE (P ++ [0]) := ⟨_, rfl⟩
          have hE4 : (E3 != 0) = true := by rw [hE3e]; simpa using tells_more HP0.out 0
          rw [← hE3e]
          have HR8 := Lib.hid hr8
          clear hr8 hE3e
          go_wp2_with fail
          refine HR8.out.id0.mono ?_
          rintro e w9 ⟨rfl, rfl⟩
          go_wp2_with fail
          refine HR8.out.added0.mono ?_
          rintro e w9 ⟨rfl, rfl⟩
          go_wp2_with fail
          refine (HR8.out.good _ _ _ P (HBP.out.same (HR8.out.sm HSR.out)) (by have := HLP.out; omega) HPG.out).mono ?_
          rintro e w10 ⟨rfl, hr10⟩
          have HS10 := Lib.hid (hr10.sm (Same.trans HS1.out HSR.out))
          clear hr10
          go_wp2_with fail
          refine (HKN.out _).mono ?_
          rintro e wk ⟨rfl, hsk⟩
          have HSK := Lib.hid (Same.trans HS10.out hsk)
          clear hsk
          go_wp2_with fail
          go_ret
          exact ⟨rfl, HSK.out⟩
  · have hb1 : (E1 != 0) = true := by simpa using h1
    clear h1
    go_wp2_with fail
    refine (HKN.out _).mono ?_
    rintro e wk ⟨rfl, hsk⟩
    have HSK := Lib.hid (Same.trans HS1.out hsk)
    clear hsk
    go_wp2_with fail
    go_ret
    exact ⟨rfl, HSK.out⟩
theorem chunkTells_walk (w : World) (a : Int) (ha : -9223372036854775808 ≤ a ∧ a ≤ 9223372036854775807) (v : Value) (x : List UInt8) (hx : Bs w v x) (hxl : x.length ≤ 140737488351232) (size : Int) (hs : -9223372036854775808 ≤ size ∧ size ≤ 9223372036854775807) (which : Int) (hw : -9223372036854775808 ≤ which ∧ which ≤ 9223372036854775807) (at_ : Int) (hat : -9223372036854775808 ≤ at_ ∧ at_ ≤ 9223372036854775807) (b : Int) (hb : 0 ≤ b ∧ b ≤ 4294967295) (cut : Int) (hc : -9223372036854775808 ≤ cut ∧ cut ≤ 9223372036854775807) :
    Calls Try.prog 7 #[.int .i64 a, v, .int .i64 size, .int .i64 which, .int .i64 at_, .int .u32 b, .int .i64 cut] w fun e w' => e = .returned (.bool true) ∧ Same w w' := by
  obtain ⟨B, rfl⟩ : ∃ B : BitVec 32, b = u32v B := ⟨BitVec.ofNat 32 b.toNat, by unfold u32v; rw [BitVec.toNat_ofNat]; omega⟩
  exact chunkTells_go w a ha v x hx hxl size hs which hw at_ hat B cut hc
end Go.Proofs.Ytccbkagmglddfaa
