/- The walk of ChunkBack. -/
import Derived.Test.YtccbkagmglddfaaChkI
namespace Go.Proofs.Ytccbkagmglddfaa
open Go.RowKit
set_option linter.unusedVariables false
set_option linter.unusedSimpArgs false
set_option maxRecDepth 100000
set_option maxHeartbeats 4000000
theorem made_bool (N j : Nat) (u : Value) (hj : (dB N (fun _ => false))[j]? = some u) : (madeCells #[Value.bool false] N)[j]? = some u := by
  have hl : j < N := by have := (List.getElem?_eq_some_iff.1 hj).1; rwa [dB_length] at this
  rw [dB_get N _ hl] at hj
  injection hj with hj
  subst hj
  simp [madeCells, hl, Nat.mod_one]
def BkS (wN wr : World) (X p : Nat) (id : Int) (b : List UInt8) (size : Int) (D : Nat → Bool) (i : Nat) (cp : Nat) : Prop :=
  ∃ c, RdyX wN wr X p c ∧ BackC id b size D i c ∧ Own wN.heap.size wr (.slice (some ⟨X, 0, none⟩) (splN b.length size) cp) 1 (dB (splN b.length size) D) ∧ ∀ t, 100 ≤ t → t < i → D (t % splN b.length size) = true
theorem chunkBack_walk (w : World) (a : Int) (ha : -9223372036854775808 ≤ a ∧ a ≤ 9223372036854775807) (v : Value) (x : List UInt8) (hx : Bs w v x) (hxl : x.length ≤ 140737488351232) (size : Int) (hs : -9223372036854775808 ≤ size ∧ size ≤ 9223372036854775807) (u : Value) (turns : List Int) (ht : NumsAt w u turns) :
    Calls Try.prog 6 #[.int .i64 a, v, .int .i64 size, u] w fun e w' => e = .returned (.bool true) ∧ Same w w' := by
  obtain ⟨A, ca, rfl, -⟩ := id hx
  have HSX := Lib.hid (fun w0 hh => split_any a size A ca x w0 hh hxl ha hs)
  have HX := Lib.hid hx
  have HKN := Lib.hid (fun W => known07_any W)
  obtain ⟨T, tc, rfl, htl, htm, htc⟩ := ht
  have HT := Lib.hid htc
  obtain ⟨Lx, hLx⟩ : ∃ L, L = x.length := ⟨_, rfl⟩
  rw [← hLx] at HX HSX ⊢
  have HLX := Lib.hid hLx
  clear hx hLx hxl htc
  go_enter Try.func6, Try.ntmps6
  go_wp2_with fail
  refine (HSX.out _ HX.out).mono ?_
  rintro e w1 ⟨B1, n1, c1, rfl, ⟨ss, hss, hpc⟩, hs1⟩
  obtain ⟨E1, hE1⟩ : ∃ E, E = splE a Lx size := ⟨_, rfl⟩
  rw [← hE1]
  have HE1 := Lib.hid hE1
  have HS1 := Lib.hid hs1
  have HSS := Lib.hid hss
  have HPC := Lib.hid hpc
  clear hE1 hs1 hss hpc
  by_cases h1 : E1 = 0
  · subst h1
    have heX : splE a x.length size = 0 := by rw [← HLX.out]; exact HE1.out.symm
    have hlx := splL_len heX
    obtain ⟨N1, hN1⟩ : ∃ N, N = splN x.length size := ⟨_, rfl⟩
    have hn1 : n1 = N1 ∧ n1 ≤ c1 := by
      have h := HPC.out.len
      have h3 := congrArg List.length HSS.out
      rw [hlx, List.length_map] at h3
      omega
    obtain ⟨rfl, hc1⟩ := hn1
    have hp1 : 1 ≤ n1 := by rw [hN1]; exact splN_pos _ _
    have hm1 : n1 ≤ 256 := by rw [hN1]; exact (splE_ok heX).2.2.2
    have HN1 := Lib.hid hN1
    have HEX := Lib.hid heX
    have HJS := Lib.hid (join_split heX)
    have hjl : ∀ y ∈ ss, y.2.length ≤ 140737488351232 := fun y hy => by
      have h1 : y.2 ∈ ss.map (·.2) := List.mem_map.2 ⟨y, hy, rfl⟩
      rw [HSS.out] at h1
      obtain ⟨k, hk, e⟩ := List.getElem_of_mem h1
      have hk2 : k < splN x.length size := by rw [splL_len heX] at hk; exact hk
      have h2 := splL_get heX hk2
      rw [List.getElem?_eq_getElem hk] at h2
      injection h2 with h2
      rw [← e, h2]
      have := splP_small heX k
      omega
    have HJN := Lib.hid (join_any B1 n1 c1 ss w1 HPC.out.rows hjl (by omega))
    rw [HSS.out, HJS.out.1, HJS.out.2] at HJN
    clear heX hlx hN1 HE1 hjl
    go_wp2_with fail
    refine HJN.out.mono ?_
    rintro e w2 ⟨B2, n2, c2, rfl, hf2, hs2⟩
    have HF2 := Lib.hid hf2
    have HS2 := Lib.hid (Same.trans HS1.out hs2)
    have HPC2 := Lib.hid (HPC.out.same hs2)
    clear hf2 hs2
    go_wp2_with fail
    refine (Rdy.new w2).mono ?_
    rintro e w3 ⟨p, rfl, hr3⟩
    have HR3 := Lib.hid hr3
    have hS3 : Same w2 w3 := Same.into (Upd.refl (fun _ => False) w2) hr3.2.1 (fun k hk => hk)
    have cv1 := conv_bs (P := Try.prog) (src := 22) (dst := 9) Try.underlying22 Try.underlying5 Try.underlying9 (HF2.out.bs.same hS3)
    have cv2 := conv_bs (P := Try.prog) (src := 22) (dst := 9) Try.underlying22 Try.underlying5 Try.underlying9 (HX.out.same (Same.trans HS2.out hS3))
    have hmk := fun W => run_make_row' (P := Try.prog) 44 4 (.bool false) 1 Try.underlying44 (by kernel_rfl) rfl .i64 .i64 n1 (by omega) (by omega) W
    have hnb : ¬ (256 : Int) < (n1 : Int) := by omega
    clear hr3 hS3
    go_upto_region 9 with (fail)
    have hst : BkS w2 (w3.alloc (.cells (madeCells #[.bool false] n1) 4)) w3.heap.size p a x size (fun _ => false) 0 n1 := by
      have hal : Same w3 (w3.alloc (.cells (madeCells #[.bool false] n1) 4)) := (Upd.refl _ w3).alloc _
      obtain ⟨⟨vl, ls, hv⟩, hl, hf⟩ := HR3.out
      refine ⟨Cs.none, ⟨⟨vl, ls, hv.same hal, fun k hk => by have := (hv.foot k hk).2; omega⟩, by simp, hl.trans (LowK.of hal), hf⟩, ⟨by simp [Cs.none], .inl ⟨rfl, fun _ => rfl⟩⟩, ?_, fun t h1 h2 => by omega⟩
      rw [← HN1.out]
      exact Own.lit w3 (madeCells #[.bool false] n1) 4 (dB n1 (fun _ => false)) w3.heap.size n1 n1 1 _ rfl hl.size (fun j u hj => made_bool n1 j u hj) (by rw [dB_length, Nat.mul_one]) (Nat.le_refl _) (by omega) (by simp [madeCells])
    have hX : w2.heap.size ≤ w3.heap.size := HR3.out.2.1.size
    generalize w3.alloc (.cells (madeCells #[.bool false] n1) 4) = w4 at hst ⊢
    generalize w3.heap.size = X at hst hX ⊢
    have HST := Lib.hid hst
    have HXX := Lib.hid hX
    clear hst hX hmk cv1 cv2 HR3
    go_wp2_with fail
    go_loopw [15, 16] (fun v15 v16 wr => ∃ (i : Nat) (D : Nat → Bool), i ≤ 600 ∧ v15 = .int .i64 ((lackN n1 D : Nat) : Int) ∧ v16 = .int .i64 i ∧ Hid (BkS w2 wr X p a x size D i n1)) (fun _ v16 _ => 600 - (intOf v16).toNat)
    case atStart => exact ⟨0, fun _ => false, by omega, by rw [lackN_none], rfl, HST.out⟩
    case round =>
      obtain ⟨i, D, hi, rfl, rfl, hin⟩ := hrel
      obtain ⟨M, hM⟩ : ∃ M, M = lackN n1 D := ⟨_, rfl⟩
      have hMn : M ≤ n1 := by rw [hM]; unfold lackN; exact Nat.le_trans (List.length_filter_le _ _) (by simp)
      rw [← hM]
      have HM := Lib.hid hM
      clear hM
      by_cases hlt : 0 < M ∧ i < 600
      · have g1 : (0 : Int) < (M : Int) := by omega
        have g2 : (i : Int) < 600 := by omega
        have g3 : 0 < M := hlt.1
        have hn0 : ¬ (n1 : Int) = 0 := by omega
        have hrem : Int.tmod (i : Int) (n1 : Int) = ((i % n1 : Nat) : Int) := by rw [Int.tmod_eq_emod_of_nonneg (by omega)]; omega
        have hremlt : i % n1 < n1 := Nat.mod_lt _ (by omega)
        obtain ⟨km, hkm⟩ : ∃ km, km = i % n1 := ⟨_, rfl⟩
        rw [← hkm] at hrem hremlt
        have HKM := Lib.hid hkm
        clear hlt hkm
        obtain ⟨F, hF⟩ : ∃ F, F = decide (i < turns.length ∧ i < 100) := ⟨_, rfl⟩
        have HF := Lib.hid hF
        clear hF
        go_upto_region 14 with (fail)
        go_cut [78] from 59 to 128 (fun v78 wx => v78 = .bool F ∧ wr = wx)
        case first => as_aux_lemma =>
          by_cases h1 : i < turns.length
          · by_cases h2 : i < 100
            · have g4 : (i : Int) < (turns.length : Int) := by omega
              have g5 : (i : Int) < 100 := by omega
              have HG := Lib.hid (show Value.bool true = Value.bool F from by rw [HF.out, decide_eq_true ⟨h1, h2⟩])
              clear h1 h2
              go_wp2_with fail
              go_meet
              exact ⟨HG.out, rfl⟩
            · have g4 : (i : Int) < (turns.length : Int) := by omega
              have g5 : ¬ (i : Int) < 100 := by omega
              have HG := Lib.hid (show Value.bool false = Value.bool F from by rw [HF.out, decide_eq_false (fun h => h2 h.2)])
              clear h1 h2
              go_wp2_with fail
              go_meet
              exact ⟨HG.out, rfl⟩
          · have g4 : ¬ (i : Int) < (turns.length : Int) := by omega
            have HG := Lib.hid (show Value.bool false = Value.bool F from by rw [HF.out, decide_eq_false (fun h => h1 h.1)])
            clear h1
            go_wp2_with fail
            go_meet
            exact ⟨HG.out, rfl⟩
        case rest =>
        obtain ⟨rfl, rfl⟩ := hcut
        go_upto_if 78 with (fail)
        go_cut [17] from 59 to 128 (fun v17 wx => ∃ k : Nat, k < n1 ∧ (100 ≤ i → k = km) ∧ v17 = .int .i64 k ∧ wr = wx)
        case first => as_aux_lemma =>
          cases F
          · go_wp2_with fail
            go_meet
            exact ⟨km, hremlt, fun _ => rfl, rfl, rfl⟩
          · have hc := of_decide_eq_true HF.out.symm
            have g4 : (i : Int) < (turns.length : Int) := by omega
            have g5 : (i : Int) < 100 := by omega
            obtain ⟨bc, oc, rfl, hcc, hcr⟩ := HT.out i hc.1
            have hsw : Same w wr := by
              obtain ⟨c, hr, -⟩ := hin.out
              exact Same.into HS2.out hr.rdy.2.1 (fun k hk => Nat.le_trans HS2.out.size hk)
            have cc := hsw.cell hcc id
            generalize turns.getD i 0 = z at cc hcr hcc
            have HCR := Lib.hid hcr
            clear hcc hcr hsw
            go_wp2_with fail
            refine (count_any z (n1 : Int) _ (by omega) (by omega) HCR.out.1 HCR.out.2).mono ?_
            rintro e w' ⟨rfl, rfl⟩
            go_wp2_with fail
            go_meet
            have h1 := Int.emod_nonneg z (show (n1 : Int) ≠ 0 by omega)
            have h2 := Int.emod_lt_of_pos z (show (0 : Int) < (n1 : Int) by omega)
            exact ⟨(z % (n1 : Int)).toNat, by omega, fun h => absurd hc.2 (by omega), by rw [Int.toNat_of_nonneg h1], rfl⟩
        case rest =>
        obtain ⟨k, hk, hkk, rfl, rfl⟩ := hcut
        have hkN : k < splN x.length size := by rw [← HN1.out]; exact hk
        obtain ⟨c, hr, hbc, hown, hcov⟩ := hin.out
        obtain ⟨ha1, ha2⟩ := hbc.add HEX.out hkN
        obtain ⟨P, hP⟩ : ∃ P, P = splP a x size k := ⟨_, rfl⟩
        rw [← hP] at ha1 ha2
        obtain ⟨b1, o1, Ap, cp, rfl, xp, hbp⟩ := (HPC2.out.low (Nat.le_refl _) hr.rdy.2.1).at_ (k := k) (by rw [HSS.out]; exact splL_get HEX.out hkN)
        rw [← hP] at xp hbp
        have hpl : P.length ≤ 5000 := by rw [hP]; exact splP_small HEX.out k
        have HADD := Lib.hid (hr.add (by have := hbc.1; omega) Ap cp P hbp (by omega))
        rw [ha1] at HADD
        have g6 : (k : Int) < (n1 : Int) := by omega
        obtain ⟨D', hD'⟩ : ∃ E : Nat → Bool, E = fun j => D j || decide (j = k) := ⟨_, rfl⟩
        rw [← hD'] at ha2
        have HDD := Lib.hid hD'
        have HA2 := Lib.hid ha2
        have HCOV := Lib.hid (show ∀ t, 100 ≤ t → t < i + 1 → D' (t % splN x.length size) = true from fun t h1 h2 => by
          rw [hD']
          rcases Nat.lt_succ_iff_lt_or_eq.1 h2 with h3 | h3
          · simp [hcov t h1 h3]
          · subst h3
            have := hkk h1
            rw [this, HKM.out, HN1.out]
            simp)
        have HOWN := Lib.hid hown
        have HKN2 := Lib.hid hkN
        generalize P.length = Lp at xp HADD
        clear hkk hkN hr hbc hown hcov ha1 ha2 hP hbp hpl hD' hin
        go_wp2_with fail
        refine HADD.out.mono ?_
        rintro e w5 ⟨rfl, hr5, hu5⟩
        have hown5 := HOWN.out.upd hu5 (fun q hq e => by simp [room] at hq; exact e.2 hq.2.symm)
        have hcell := (Own.at_ hown5 (by rw [dB_length]; exact splN_pos _ _))
        obtain ⟨bx, ox, hax, hcx⟩ := hcell
        injection hax with hax
        injection hax with hax1 hax2
        subst hax1 hax2
        have xd := hcx k _ (dB_get _ D HKN2.out)
        simp only [Nat.zero_add] at xd
        have HR5 := Lib.hid hr5
        have HO5 := Lib.hid hown5
        clear hr5 hu5 hown5 hcx xp
        go_upto_region 18 with (fail)
        obtain ⟨M', hM'⟩ : ∃ M', M' = lackN n1 D' := ⟨_, rfl⟩
        have HM' := Lib.hid hM'
        clear hM'
        go_upto_if 97 with (fail)
        go_cut [15] from 59 to 128 (fun v15 wx => v15 = .int .i64 ((M' : Nat) : Int) ∧ Hid (BkS w2 wx X p a x size D' (i + 1) n1))
        case first =>
          cases hDk : D k with
          | true =>
            have hsame : ∀ j, j < n1 → D j = D' j := fun j hj => by
              rw [HDD.out]
              by_cases e : j = k
              · subst e; rw [hDk]; simp
              · simp [e]
            have HMM := Lib.hid (show M' = M from by rw [HM'.out, HM.out]; exact (lackN_same hsame).symm)
            have HB := Lib.hid (show BkS w2 w5 X p a x size D' (i + 1) n1 from ⟨_, HR5.out, HA2.out, by rw [← dB_same (splN x.length size) (fun j hj => hsame j (by rw [HN1.out]; exact hj))]; exact HO5.out, HCOV.out⟩)
            rw [hDk] at xd
            clear hDk hsame
            go_wp2_with fail
            go_meet
            exact ⟨by rw [HMM.out], HB.out⟩
          | false =>
            have hlk := lackN_put n1 D k hk hDk
            rw [← HDD.out, ← HM'.out, ← HM.out] at hlk
            obtain ⟨hset, hus, hfz⟩ := Own.set1 HO5.out k (by rw [dB_length]; exact HKN2.out) (.bool true) rfl
            rw [dB_set _ _ HKN2.out, ← HDD.out] at hset
            simp only [Nat.zero_add] at hset hus hfz
            have hux : Upd (fun q => q = X) w5 (w5.setCell ⟨X, k, none⟩ (.bool true)) := hus.mono (fun q _ hq => by simp [room] at hq; exact hq.2.symm)
            have HB := Lib.hid (show BkS w2 (w5.setCell ⟨X, k, none⟩ (.bool true)) X p a x size D' (i + 1) n1 from ⟨_, HR5.out.off hux HXX.out, HA2.out, hset, HCOV.out⟩)
            have HLK := Lib.hid hlk
            rw [hDk] at xd
            clear hDk hlk hset hus hux
            go_wp2_with fail
            go_meet
            exact ⟨by have := HLK.out; congr 1; omega, HB.out⟩
        case rest =>
        obtain ⟨rfl, hb6⟩ := hcut
        obtain ⟨c6, hr6, hbc6, hown6, hcov6⟩ := hb6.out
        have hwh := hbc6.whole HEX.out HKN2.out (by rw [HDD.out]; simp)
        rw [← HN1.out, ← HM'.out] at hwh
        have HB6 := Lib.hid hb6.out
        have hMx : (missL c6.l).length = M' := hwh.1
        have HWH := Lib.hid hwh.2
        have HRY := Lib.hid hr6.rdy
        have HX6 := Lib.hid (show ∀ W', Same wc W' → BkS w2 W' X p a x size D' (i + 1) n1 from fun W' hs => ⟨c6, hr6.same hs, hbc6, hown6.same hs, hcov6⟩)
        have HMX := Lib.hid hMx
        clear hb6 hr6 hbc6 hown6 hcov6 hwh hMx xd HO5 HR5 HADD
        go_wp2_with fail
        refine HRY.out.whole.mono ?_
        rintro e w7 ⟨A7, n7, c7, rfl, hf7, hs7, hr7⟩
        rw [HWH.out] at hf7 ⊢
        have HR7 := Lib.hid hr7
        have HS7 := Lib.hid hs7
        have cv2 := conv_bs (P := Try.prog) (src := 22) (dst := 9) Try.underlying22 Try.underlying5 Try.underlying9 (HX.out.same (Same.into HS2.out hr7.2.1 (fun q hq => Nat.le_trans HS2.out.size hq)))
        have cv1 := conv_bs (P := Try.prog) (src := 22) (dst := 9) Try.underlying22 Try.underlying5 Try.underlying9 hf7.bs
        clear hf7 hs7 hr7
        by_cases hz : M' = 0
        · subst hz
          simp only [if_true, Option.isSome_some, Option.getD_some] at cv1 ⊢
          go_wp2_with fail
          refine HR7.out.miss.mono ?_
          rintro e w8 ⟨A8, c8, rfl, hm8, hs8, hr8⟩
          rw [HMX.out]
          have HB8 := Lib.hid (HX6.out _ (Same.trans HS7.out hs8))
          clear hm8 hs8 hr8 cv1 cv2
          go_wp2_with fail
          go_roundw
          case rel => exact ⟨i + 1, D', by omega, by rw [← HM'.out]; rfl, by go_num, HB8.out⟩
          case measure => simp [intOf]; omega
        · have hz2 : (((M' : Nat) : Int) == 0) = false := by simpa using hz
          have hMM : ((((M' : Nat) : Int)) != (((M' : Nat) : Int))) = false := by simp
          simp only [if_neg hz, Option.isSome_none] at cv1 ⊢
          clear hz
          go_wp2_with fail
          refine HR7.out.miss.mono ?_
          rintro e w8 ⟨A8, c8, rfl, hm8, hs8, hr8⟩
          rw [HMX.out]
          have HB8 := Lib.hid (HX6.out _ (Same.trans HS7.out hs8))
          clear hm8 hs8 hr8 cv1 cv2
          go_wp2_with fail
          go_roundw
          case rel => exact ⟨i + 1, D', by omega, by rw [← HM'.out], by go_num, HB8.out⟩
          case measure => simp [intOf]; omega
      · have hM0 : M = 0 := by
          by_cases h6 : i = 600
          · obtain ⟨c, hr, hbc, hown, hcov⟩ := hin.out
            subst h6
            rw [HM.out]
            rw [← HN1.out] at hcov
            exact lack_turn ⟨hp1, hm1⟩ hcov
          · omega
        subst hM0
        have HS9 := Lib.hid (show Same w wr from by
          obtain ⟨c, hr, -⟩ := hin.out
          exact Same.into HS2.out hr.rdy.2.1 (fun k hk => Nat.le_trans HS2.out.size hk))
        clear hin hlt hMn
        go_wp2_with fail
        refine (HKN.out _).mono ?_
        rintro e wk ⟨rfl, hsk⟩
        have HSK := Lib.hid (Same.trans HS9.out hsk)
        clear hsk
        go_wp2_with fail
        go_ret
        exact ⟨rfl, HSK.out⟩
  · have hb1 : (E1 != 0) = true := by simpa using h1
    clear h1
    go_wp2_with fail
    refine (HKN.out _).mono ?_
    rintro e wk ⟨rfl, hsk⟩
    have HSK := Lib.hid (Same.trans HS1.out hsk)
    clear hsk
    go_wp2_with fail
    go_ret
    exact ⟨rfl, HSK.out⟩
end Go.Proofs.Ytccbkagmglddfaa
