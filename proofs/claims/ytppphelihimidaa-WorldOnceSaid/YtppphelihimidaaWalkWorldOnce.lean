/- The walk of WorldOnce. -/
import Derived.Test.YtppphelihimidaaWorI
import Derived.Test.YtppphelihimidaaCount
import Derived.Test.YtppphelihimidaaOpenWOps
import Derived.Test.YtppphelihimidaaOrd
import Derived.Test.YtppphelihimidaaOrdT
import Derived.Deep.DeepCutAuto
import Derived.Deep.CutRange
import Derived.Deep.CutBlock
namespace Go.Proofs.Ytppphelihimidaa
open Go.RowKit
set_option linter.unusedVariables false
set_option linter.unusedSimpArgs false
attribute [local go_sem ↓] Go.wp_at_zero Go.wp_at_succ
set_option maxRecDepth 100000 in
set_option maxHeartbeats 8000000 in
theorem worldOnce_walk (w : World) (n : Int) (hn : -9223372036854775808 ≤ n ∧ n ≤ 9223372036854775807) (v : Value) (os : List WOps) (h : WOpsAt w v os) :
    Calls Try.prog 4 #[.int .i64 n, v] w fun e w' => e = .returned (.bool true) ∧ Same w w' := by
  have HC1 := Lib.hid (count_any n 3 w (by decide) (by decide) hn.1 hn.2)
  obtain ⟨l1, l2⟩ : 0 ≤ n % 3 ∧ n % 3 < 3 := ⟨Int.emod_nonneg _ (by decide), Int.emod_lt_of_pos _ (by decide)⟩
  generalize n % 3 = N0 at HC1 l1 l2
  obtain ⟨M, hM⟩ : ∃ M : Nat, 2 + N0 = M := ⟨(2 + N0).toNat, by omega⟩
  have m1 : 1 ≤ M := by omega
  have m2 : M ≤ 5 := by omega
  have HNW := Lib.hid (wnew_any M 5 m1 m2 (by decide) (by decide) w)
  have hmk := fun w => run_make_row' (P := Try.prog) 22 3 (.int .i64 0) 8 Try.underlying22 (by kernel_rfl) rfl .i64 .i64 200 (by decide) (by decide) w
  simp only [show ((200 : Nat) : Int) = 200 from rfl] at hmk
  obtain ⟨A, cap, rfl, q1, q2, -⟩ := id h
  have HT := Lib.hid h
  obtain ⟨N, hN⟩ : ∃ N, N = os.length := ⟨_, rfl⟩
  rw [← hN] at q1 ⊢
  have HN := Lib.hid hN
  clear hn h hN
  go_enter Try.func4, Try.ntmps4
  go_wp2_with fail
  refine HC1.out.mono ?_
  rintro e w1 ⟨rfl, rfl⟩
  go_wp2_with fail
  clear hM l1 l2 HC1
  refine HNW.out.mono ?_
  rintro e w1 hnew
  obtain rfl := hnew.1
  have HST := Lib.hid (on_first hnew m1 m2 (by decide) (by decide) 3 3)
  clear hnew HNW
  generalize w.heap.size + 1 = p at HST ⊢
  go_wp2_with fail
  generalize w1.heap.size + 1 = bt at HST ⊢
  generalize w1.heap.size = bc at HST ⊢
  go_loopw [7, 10] (fun v7 v10 wr => ∃ k S : Nat, k ≤ N ∧ k ≤ 150 ∧ v10 = .int .i64 k ∧ v7 = .int .i64 S ∧ Hid (OLoop w wr p bc bt M S k)) (fun _ v10 _ => N - (intOf v10).toNat)
  case atStart => exact ⟨0, 0, by omega, by omega, rfl, rfl, HST.out⟩
  case round =>
    obtain ⟨k, S, hk, hk3, rfl, rfl, hL⟩ := hrel
    clear HST
    by_cases hlt : k < N ∧ k < 150
    · obtain ⟨hlt1, hlt2⟩ := hlt
      have g1 : (k : Int) < (N : Int) := by omega
      have g2 : (k : Int) < 150 := by omega
      obtain ⟨d, cm, tw, hst, hin⟩ := hL.out
      obtain ⟨A', cap', e0, _, _, hcells⟩ := HT.out.same hst.s0
      injection e0 with e1 e2 e3
      subst e1
      obtain ⟨b, off, rfl, y0, y1, y2, y3, r0, r1, r2, hb, hbl⟩ := hcells k (by have := HN.out; omega)
      generalize (os[k]'(by have := HN.out; omega)) = oo at y0 y1 y2 y3 r0 r1 r2 hb hbl
      obtain ⟨kd, fr, nn, bv, bB⟩ := oo
      simp only at y0 y1 y2 y3 r0 r1 r2 hb hbl
      obtain ⟨A5, c5, rfl, -⟩ := id hb
      have HSI := Lib.hid (And.intro hst hin)
      have hS1 := hin.s
      clear hcells hb hbl e2 e3 hL hst hin
      rcases (show (kd = 0 ∨ kd = 1 ∨ kd = 2) ∨ (kd = 3 ∨ kd = 4) ∨ kd = 5 ∨ kd = 6 ∨ kd = 7 ∨ (kd ≠ 0 ∧ kd ≠ 1 ∧ kd ≠ 2 ∧ kd ≠ 3 ∧ kd ≠ 4 ∧ kd ≠ 5 ∧ kd ≠ 6 ∧ kd ≠ 7) by omega) with hkd | hkd | rfl | rfl | rfl | hkd
      · have HSN := Lib.hid (ol_send HSI.out.1 HSI.out.2 hlt2)
        have HCF := Lib.hid (fun w => count_any fr M w (by omega) (by omega) r1.1 r1.2)
        have HCN := Lib.hid (fun w => count_any nn M w (by omega) (by omega) r2.1 r2.2)
        have f1 : 0 ≤ fr % (M : Int) ∧ fr % (M : Int) < M := ⟨Int.emod_nonneg _ (by omega), Int.emod_lt_of_pos _ (by omega)⟩
        have f2 : 0 ≤ nn % (M : Int) ∧ nn % (M : Int) < M := ⟨Int.emod_nonneg _ (by omega), Int.emod_lt_of_pos _ (by omega)⟩
        generalize fr % (M : Int) = fq at HCF f1
        generalize nn % (M : Int) = nq at HCN f2
        have F1 := Lib.hid f1
        have F2 := Lib.hid f2
        have hwr : IntKind.u8.wrap (S : Int) = S := by simp only [IntKind.wrap_u8]; omega
        have hn0 := heap_alloc_new wr (.cells #[.int .i64 kd, .int .i64 fr, .int .i64 nn, .slice A5 bB.length c5] 37)
        have o1 : (wr.alloc (.cells #[.int .i64 kd, .int .i64 fr, .int .i64 nn, .slice A5 bB.length c5] 37)).cell? ⟨wr.heap.size, 1, none⟩ = some (.int .i64 fr) := by rw [cell_of_row _ _ _ _ _ (0, 0) hn0]; rfl
        have o2 : (wr.alloc (.cells #[.int .i64 kd, .int .i64 fr, .int .i64 nn, .slice A5 bB.length c5] 37)).cell? ⟨wr.heap.size, 2, none⟩ = some (.int .i64 nn) := by rw [cell_of_row _ _ _ _ _ (0, 0) hn0]; rfl
        clear f1 f2 hn0
        rcases hkd with rfl | rfl | rfl
        all_goals
          go_wp2_with fail
          refine wp_region_noPanic ?_
          have hS0 := And.intro ((Upd.refl (fun _ => False) _).drew.cell o1 (fun h => h)) ((Upd.refl (fun _ => False) _).drew.cell o2 (fun h => h))
          have hS1 := And.intro (((Upd.refl (fun _ => False) _).drew.alloc (.cells #[.int .u8 (S : Int)] 5)).cell o1 (fun h => h)) (((Upd.refl (fun _ => False) _).drew.alloc (.cells #[.int .u8 (S : Int)] 5)).cell o2 (fun h => h))
          refine wp_region_need (fun w' => w'.cell? ⟨wr.heap.size, 1, none⟩ = some (.int .i64 fr) ∧ w'.cell? ⟨wr.heap.size, 2, none⟩ = some (.int .i64 nn)) (fun i => decide (i < 12)) (by kernel_rfl) (fun hcl => ?_)
          refine wpAnyN_take (i := 0) (v := ?_) rfl (by kernel_rfl) (by kernel_rfl) (by kernel_rfl) (by kernel_rfl) (fun _ _ _ h => h) (by assumption) hS0 (Or.inl ⟨by rfl, ?_⟩) (fun hcl0 => ?_)
          rotate_left
          · (intro wS hSw; obtain ⟨x1, x2⟩ := hSw; go_simp; (try with_reducible rfl))
          clear hcl
          try simp only [Act.put, List.getElem_toArray, List.getElem_cons_succ, List.getElem_cons_zero, List.setIfInBounds_toArray, List.set_cons_zero, List.set_cons_succ]
          refine wpAnyN_take (i := 1) (v := ?_) rfl (by kernel_rfl) (by kernel_rfl) (by kernel_rfl) (by kernel_rfl) (fun _ _ _ h => h) (by assumption) hS0 (Or.inl ⟨by rfl, ?_⟩) (fun hcl1 => ?_)
          rotate_left
          · (intro wS hSw; obtain ⟨x1, x2⟩ := hSw; go_simp; (try with_reducible rfl))
          clear hcl0
          try simp only [Act.put, List.getElem_toArray, List.getElem_cons_succ, List.getElem_cons_zero, List.setIfInBounds_toArray, List.set_cons_zero, List.set_cons_succ]
          refine wpAnyN_take (i := 2) (v := ?_) rfl (by kernel_rfl) (by kernel_rfl) (by kernel_rfl) (by kernel_rfl) (fun _ _ _ h => h) (by assumption) hS0 (Or.inl ⟨by rfl, ?_⟩) (fun hcl2 => ?_)
          rotate_left
          · (intro wS hSw; obtain ⟨x1, x2⟩ := hSw; go_simp; (try with_reducible rfl))
          clear hcl1
          try simp only [Act.put, List.getElem_toArray, List.getElem_cons_succ, List.getElem_cons_zero, List.setIfInBounds_toArray, List.set_cons_zero, List.set_cons_succ]
          refine wpAnyN_take (i := 3) (v := ?_) rfl (by kernel_rfl) (by kernel_rfl) (by kernel_rfl) (by kernel_rfl) (fun _ _ _ h => h) (by assumption) hS0 (Or.inl ⟨by rfl, ?_⟩) (fun hcl3 => ?_)
          rotate_left
          · (intro wS hSw; obtain ⟨x1, x2⟩ := hSw; go_simp; (try with_reducible rfl))
          clear hcl2
          try simp only [Act.put, List.getElem_toArray, List.getElem_cons_succ, List.getElem_cons_zero, List.setIfInBounds_toArray, List.set_cons_zero, List.set_cons_succ]
          refine wpAnyN_take (i := 5) (v := ?_) rfl (by kernel_rfl) (by kernel_rfl) (by kernel_rfl) (by kernel_rfl) (fun _ _ _ h => h) (by assumption) hS0 (Or.inl ⟨by rfl, ?_⟩) (fun hcl5 => ?_)
          rotate_left
          · (intro wS hSw; obtain ⟨x1, x2⟩ := hSw; go_simp; (try with_reducible rfl))
          clear hcl3
          try simp only [Act.put, List.getElem_toArray, List.getElem_cons_succ, List.getElem_cons_zero, List.setIfInBounds_toArray, List.set_cons_zero, List.set_cons_succ]
          refine wpAnyN_take (i := 6) (v := ?_) rfl (by kernel_rfl) (by kernel_rfl) (by kernel_rfl) (by kernel_rfl) (fun _ _ _ h => h) (by assumption) hS0 (Or.inl ⟨by rfl, ?_⟩) (fun hcl6 => ?_)
          rotate_left
          · (intro wS hSw; obtain ⟨x1, x2⟩ := hSw; go_simp; (try with_reducible rfl))
          clear hcl5
          try simp only [Act.put, List.getElem_toArray, List.getElem_cons_succ, List.getElem_cons_zero, List.setIfInBounds_toArray, List.set_cons_zero, List.set_cons_succ]
          refine wpAnyN_take (i := 7) (v := ?_) rfl (by kernel_rfl) (by kernel_rfl) (by kernel_rfl) (by kernel_rfl) (fun _ _ _ h => h) (by assumption) hS0 (Or.inl ⟨by rfl, ?_⟩) (fun hcl7 => ?_)
          rotate_left
          · (intro wS hSw; obtain ⟨x1, x2⟩ := hSw; go_simp; (try with_reducible rfl))
          clear hcl6
          try simp only [Act.put, List.getElem_toArray, List.getElem_cons_succ, List.getElem_cons_zero, List.setIfInBounds_toArray, List.set_cons_zero, List.set_cons_succ]
          refine wpAnyN_take (i := 9) (v := ?_) rfl (by kernel_rfl) (by kernel_rfl) (by kernel_rfl) (by kernel_rfl) (fun _ _ _ h => h) (by assumption) hS0 (Or.inl ⟨by rfl, ?_⟩) (fun hcl9 => ?_)
          rotate_left
          · (intro wS hSw; obtain ⟨x1, x2⟩ := hSw; go_simp; (try with_reducible rfl))
          clear hcl7
          try simp only [Act.put, List.getElem_toArray, List.getElem_cons_succ, List.getElem_cons_zero, List.setIfInBounds_toArray, List.set_cons_zero, List.set_cons_succ]
          refine wpAnyN_take (i := 10) (v := ?_) rfl (by kernel_rfl) (by kernel_rfl) (by kernel_rfl) (by kernel_rfl) (fun _ _ _ h => h) (by assumption) hS0 (Or.inl ⟨by rfl, ?_⟩) (fun hcl10 => ?_)
          rotate_left
          · (intro wS hSw; obtain ⟨x1, x2⟩ := hSw; go_simp; (try with_reducible rfl))
          clear hcl9
          try simp only [Act.put, List.getElem_toArray, List.getElem_cons_succ, List.getElem_cons_zero, List.setIfInBounds_toArray, List.set_cons_zero, List.set_cons_succ]
          refine wpAnyN_twoC (i := 4) (j := 11) (by kernel_rfl) rfl rfl (by assumption) (fun hcl4 K' hK' => ?_) (fun hcl11 K' hK' => ?_)
          · clear hcl10
            go_simp
            go_at_call 7
            refine (HCF.out _).mono ?_
            rintro r w8 ⟨rfl, rfl⟩
            refine hK'.out _ _ (fun _ => hS0) ?_
            clear hK' K'
            refine wpAnyN_twoC (i := 8) (j := 11) (by kernel_rfl) rfl rfl (by assumption) (fun hcl8 K' hK' => ?_) (fun hcl11 K' hK' => ?_)
            · clear hcl4
              go_simp
              go_at_call 7
              refine (HCN.out _).mono ?_
              rintro r w8 ⟨rfl, rfl⟩
              refine hK'.out _ _ (fun _ => hS0) ?_
              clear hK' K'
              refine wpAnyN_oneC (i := 11) (by kernel_rfl) rfl (by assumption) (fun hcl11 K' hK' => ?_)
              clear hcl8
              go_simp
              refine hK'.out _ _ (fun _ => hS1) ?_
              clear hK' K'
              refine wpAnyN_oneC (i := 12) (by kernel_rfl) rfl (by assumption) (fun hcl12 K' hK' => ?_)
              clear hcl11
              go_simp
              go_at_call 13
              refine (HSN.out _ _ F1.out F2.out _ (((Upd.refl _ _).alloc _).drew.alloc _) _ (bs_by1 _ S _ _ (by simp) (by omega))).mono ?_
              rintro r w9 ⟨rfl, hl⟩
              have HL := Lib.hid hl
              clear hl
              refine hK'.out _ _ (fun h => absurd h (by decide)) ?_
              clear hK' K'
              refine wpAnyN_oneC (i := 13) (by kernel_rfl) rfl (by assumption) (fun hcl13 K' hK' => ?_)
              clear hcl12
              go_simp
              refine hK'.out _ _ (fun h => absurd h (by decide)) ?_
              clear hK' K'
              refine wpAnyN_done (by kernel_rfl) ?_ _
              refine NoPanic.normal ?_
              go_wp2_with fail
              go_roundw
              case rel => exact ⟨k + 1, S + 1, by omega, by omega, by go_num, by go_num, HL.out⟩
              case measure => simp [intOf]; omega
            · clear hcl4
              go_simp
              refine hK'.out _ _ (fun _ => hS1) ?_
              clear hK' K'
              refine wpAnyN_oneC (i := 8) (by kernel_rfl) rfl (by assumption) (fun hcl8 K' hK' => ?_)
              clear hcl11
              go_simp
              go_at_call 7
              refine (HCN.out _).mono ?_
              rintro r w8 ⟨rfl, rfl⟩
              refine hK'.out _ _ (fun _ => hS1) ?_
              clear hK' K'
              refine wpAnyN_oneC (i := 12) (by kernel_rfl) rfl (by assumption) (fun hcl12 K' hK' => ?_)
              clear hcl8
              go_simp
              go_at_call 13
              refine (HSN.out _ _ F1.out F2.out _ (((Upd.refl _ _).alloc _).drew.alloc _) _ (bs_by1 _ S _ _ (by simp) (by omega))).mono ?_
              rintro r w9 ⟨rfl, hl⟩
              have HL := Lib.hid hl
              clear hl
              refine hK'.out _ _ (fun h => absurd h (by decide)) ?_
              clear hK' K'
              refine wpAnyN_oneC (i := 13) (by kernel_rfl) rfl (by assumption) (fun hcl13 K' hK' => ?_)
              clear hcl12
              go_simp
              refine hK'.out _ _ (fun h => absurd h (by decide)) ?_
              clear hK' K'
              refine wpAnyN_done (by kernel_rfl) ?_ _
              refine NoPanic.normal ?_
              go_wp2_with fail
              go_roundw
              case rel => exact ⟨k + 1, S + 1, by omega, by omega, by go_num, by go_num, HL.out⟩
              case measure => simp [intOf]; omega
          · clear hcl10
            go_simp
            refine hK'.out _ _ (fun _ => hS1) ?_
            clear hK' K'
            refine wpAnyN_oneC (i := 4) (by kernel_rfl) rfl (by assumption) (fun hcl4 K' hK' => ?_)
            clear hcl11
            go_simp
            go_at_call 7
            refine (HCF.out _).mono ?_
            rintro r w8 ⟨rfl, rfl⟩
            refine hK'.out _ _ (fun _ => hS1) ?_
            clear hK' K'
            refine wpAnyN_oneC (i := 8) (by kernel_rfl) rfl (by assumption) (fun hcl8 K' hK' => ?_)
            clear hcl4
            go_simp
            go_at_call 7
            refine (HCN.out _).mono ?_
            rintro r w8 ⟨rfl, rfl⟩
            refine hK'.out _ _ (fun _ => hS1) ?_
            clear hK' K'
            refine wpAnyN_oneC (i := 12) (by kernel_rfl) rfl (by assumption) (fun hcl12 K' hK' => ?_)
            clear hcl8
            go_simp
            go_at_call 13
            refine (HSN.out _ _ F1.out F2.out _ (((Upd.refl _ _).alloc _).drew.alloc _) _ (bs_by1 _ S _ _ (by simp) (by omega))).mono ?_
            rintro r w9 ⟨rfl, hl⟩
            have HL := Lib.hid hl
            clear hl
            refine hK'.out _ _ (fun h => absurd h (by decide)) ?_
            clear hK' K'
            refine wpAnyN_oneC (i := 13) (by kernel_rfl) rfl (by assumption) (fun hcl13 K' hK' => ?_)
            clear hcl12
            go_simp
            refine hK'.out _ _ (fun h => absurd h (by decide)) ?_
            clear hK' K'
            refine wpAnyN_done (by kernel_rfl) ?_ _
            refine NoPanic.normal ?_
            go_wp2_with fail
            go_roundw
            case rel => exact ⟨k + 1, S + 1, by omega, by omega, by go_num, by go_num, HL.out⟩
            case measure => simp [intOf]; omega
      · have HTK := Lib.hid (ol_take HSI.out.1 HSI.out.2 hlt2 nn)
        rcases hkd with rfl | rfl
        all_goals
          go_wp2_with fail
          refine (HTK.out _ ((Upd.refl _ _).alloc _)).mono ?_
          rintro e w2 (⟨c, hc, rfl, hl⟩ | ⟨d', cm', tw', b', f', t', v', hb', rfl, hv, hst, ⟨mm, hok⟩, hap, hcb, hin⟩)
          · have hc0 : (c == 0) = false := by simpa using hc
            have HL := Lib.hid hl
            clear hl hc
            unfold noLet letV
            go_wp2_with fail
            go_roundw
            case rel => exact ⟨k + 1, S, by omega, by omega, by go_num, rfl, HL.out.same ((Upd.refl _ _).alloc _)⟩
            case measure => simp [intOf]; omega
          · obtain ⟨q, of, cp, rfl, hcp, hce, -⟩ := fresh_one hv (by omega)
            unfold letV
            have hs0 := (Upd.refl (fun _ => False) w2).alloc (.cells #[.int .i64 f', .int .i64 t', .slice (some ⟨q, of, none⟩) 1 cp] 40)
            have hb3 := Box3.new w2 (.int .i64 f') (.int .i64 t') (.slice (some ⟨q, of, none⟩) 1 cp) 40 _ rfl
            have hce1 := hs0.cell hce (fun h => h)
            have hap2 := fun (W' : World) (hs : Same w2 W') => on_apart (hst.same hs) hok f' t'
            rw [hap] at hap2
            have HAP := Lib.hid (hap2 _ hs0)
            have g3 : (b' : Int) < (S : Int) := by omega
            have g4 : (b' : Int) < 200 := by omega
            have HS0 := Lib.hid hs0
            have HB3 := Lib.hid hb3
            have HST := Lib.hid hst
            have HCE := Lib.hid hce1
            obtain ⟨ca, hca⟩ : ∃ ca, ca = cm'.getD b' 0 := ⟨_, rfl⟩
            rw [← hca] at hin hcb
            have HCA := Lib.hid hca
            have HIN := Lib.hid hin
            clear hs0 hb3 hap2 hap hst hin hce hca hv
            go_wp2_with fail
            refine HAP.out.mono ?_
            rintro e w3 ⟨rfl, hs3⟩
            obtain ⟨⟨k0, k1, k2⟩, -⟩ := HB3.out.upd hs3 (fun h => h)
            have hce3 := hs3.cell HCE.out (fun h => h)
            have hst3 := HST.out.same (Same.trans HS0.out hs3)
            have x0 := hst3.cellC b' (by omega)
            rw [← HCA.out] at x0
            obtain ⟨hst4, hfz⟩ := hst3.putC b' (by omega) (ca + 1)
            have HL : Hid (OLoop w _ p bc bt M S (k + 1)) := Lib.hid ⟨_, _, _, hst4, HIN.out⟩
            clear hst3 hst4 hs3
            go_wp2_with fail
            go_roundw
            case rel => exact ⟨k + 1, S, by omega, by omega, by go_num, rfl, HL.out⟩
            case measure => simp [intOf]; omega
      · have HD := Lib.hid (ol_drop HSI.out.1 HSI.out.2 hlt2 nn)
        go_wp2_with fail
        refine (HD.out _ ((Upd.refl _ _).alloc _)).mono ?_
        rintro e w2 ⟨⟨c, rfl⟩, hl⟩
        have HL := Lib.hid hl
        clear hl
        go_wp2_with fail
        go_roundw
        case rel => exact ⟨k + 1, S, by omega, by omega, by go_num, rfl, HL.out⟩
        case measure => simp [intOf]; omega
      · have hn0 := heap_alloc_new wr (.cells #[.int .i64 6, .int .i64 fr, .int .i64 nn, .slice A5 bB.length c5] 37)
        have o2 : (wr.alloc (.cells #[.int .i64 6, .int .i64 fr, .int .i64 nn, .slice A5 bB.length c5] 37)).cell? ⟨wr.heap.size, 2, none⟩ = some (.int .i64 nn) := by rw [cell_of_row _ _ _ _ _ (0, 0) hn0]; rfl
        have O2 := Lib.hid o2
        have HLK := Lib.hid (fun W' (hs : Same wr W') => on_look (HSI.out.1.same hs) HSI.out.2.ok nn)
        have HDB := Lib.hid (fun W' (hs : Same wr W') => on_double HSI.out.1 hs HSI.out.2.ok nn)
        clear hn0 o2
        go_wp2_with fail
        refine (HLK.out _ ((Upd.refl _ _).alloc _)).mono ?_
        rintro e w2 ⟨he, hs2⟩
        by_cases hx : d.has nn
        · rw [if_pos hx] at he
          obtain ⟨v', rfl, hv⟩ := he
          obtain ⟨b', hb', hbe⟩ := HSI.out.2.at_ nn hx
          rw [hbe] at hv
          obtain ⟨q, of, cp, rfl, hcp, hce, hqb⟩ := fresh_one hv (by omega)
          simp only [World.size_alloc] at hqb
          have hdb := HSI.out.2.double hlt2 nn hx b' hb' hbe HSI.out.1.len.2
          have hlw := HSI.out.2.law b' (by omega)
          unfold letV
          generalize (d.at_ nn).1 = f'
          generalize (d.at_ nn).2.1 = t'
          have hs0 := (Upd.refl (fun _ => False) w2).alloc (.cells #[.int .i64 f', .int .i64 t', .slice (some ⟨q, of, none⟩) 1 cp] 40)
          have o2 := hs0.cell (hs2.cell O2.out (fun h => h)) (fun h => h)
          have HB3 := Lib.hid (Box3.new w2 (.int .i64 f') (.int .i64 t') (.slice (some ⟨q, of, none⟩) 1 cp) 40 _ rfl)
          have HCE := Lib.hid (hs0.cell hce (fun h => h))
          have HS4 := Lib.hid (Same.trans (Same.trans ((Upd.refl (fun _ => False) wr).alloc _) hs2) hs0)
          have hz2 := hs2.size
          simp only [World.size_alloc] at hz2
          have g3 : (b' : Int) < (S : Int) := by omega
          have g4 : (b' : Int) < 200 := by omega
          obtain ⟨ta, hta⟩ : ∃ ta, ta = tw.getD b' 0 := ⟨_, rfl⟩
          rw [← hta] at hdb hlw
          have t1 := hlw.2.2.1
          have t2 := hlw.2.2.2.1
          have HTA := Lib.hid hta
          have HDD := Lib.hid hdb
          clear hs0 hs2 hce hv hdb hlw hta hbe hx
          go_wp2_with fail
          refine (HDB.out _ HS4.out).mono ?_
          rintro e w3 ⟨rfl, hst3, hu3⟩
          rw [HDD.out.1]
          obtain ⟨⟨k0, k1, k2⟩, -⟩ := HB3.out.upd hu3 (by omega)
          have hce3 := hu3.cell HCE.out (by show ¬ q < wr.heap.size; omega)
          have x0 := hst3.cellT b' (by omega)
          rw [← HTA.out] at x0
          obtain ⟨hst4, hfz⟩ := hst3.putT b' (by omega) (ta + 1)
          have HL : Hid (OLoop w _ p bc bt M S (k + 1)) := Lib.hid ⟨_, _, _, hst4, HDD.out.2⟩
          clear hst3 hst4 hu3
          go_wp2_with fail
          go_roundw
          case rel => exact ⟨k + 1, S, by omega, by omega, by go_num, rfl, HL.out⟩
          case measure => simp [intOf]; omega
        · rw [if_neg hx] at he
          subst he
          unfold noLet letV
          have hs0 := (Upd.refl (fun _ => False) w2).alloc (.cells #[.int .i64 0, .int .i64 0, .slice none 0 0] 40)
          have o2 := hs0.cell (hs2.cell O2.out (fun h => h)) (fun h => h)
          have HS4 := Lib.hid (Same.trans (Same.trans ((Upd.refl (fun _ => False) wr).alloc _) hs2) hs0)
          have hdd : d.double nn = (1, d) := by unfold Wd.double; rw [if_neg hx]
          have HDD := Lib.hid hdd
          clear hs0 hs2 hdd hx
          go_wp2_with fail
          refine (HDB.out _ HS4.out).mono ?_
          rintro e w3 ⟨rfl, hst3, hu3⟩
          rw [HDD.out] at hst3 ⊢
          have HL : Hid (OLoop w w3 p bc bt M S (k + 1)) := Lib.hid (ol_stay hst3 HSI.out.2 hlt2)
          clear hst3 hu3
          go_wp2_with fail
          go_roundw
          case rel => exact ⟨k + 1, S, by omega, by omega, by go_num, rfl, HL.out⟩
          case measure => simp [intOf]; omega
      · have HD := Lib.hid (ol_cut HSI.out.1 HSI.out.2 hlt2 nn)
        go_wp2_with fail
        refine (HD.out _ ((Upd.refl _ _).alloc _)).mono ?_
        rintro e w2 ⟨⟨c, rfl⟩, hl⟩
        have HL := Lib.hid hl
        clear hl
        go_wp2_with fail
        go_roundw
        case rel => exact ⟨k + 1, S, by omega, by omega, by go_num, rfl, HL.out⟩
        case measure => simp [intOf]; omega
      · obtain ⟨z0, z1, z2, z3, z4, z5, z6, z7⟩ := hkd
        have z0 : (kd == 0) = false := by simpa using z0
        have z1 : (kd == 1) = false := by simpa using z1
        have z2 : (kd == 2) = false := by simpa using z2
        have z3 : (kd == 3) = false := by simpa using z3
        have z4 : (kd == 4) = false := by simpa using z4
        have z5 : (kd == 5) = false := by simpa using z5
        have z6 : (kd == 6) = false := by simpa using z6
        have z7 : (kd == 7) = false := by simpa using z7
        go_wp2_with fail
        go_roundw
        case rel => exact ⟨k + 1, S, by omega, by omega, by go_num, rfl, (ol_stay HSI.out.1 HSI.out.2 hlt2).same ((Upd.refl _ _).alloc _)⟩
        case measure => simp [intOf]; omega
    · have h1 : (k < N ∧ k = 150) ∨ N = k := by omega
      obtain ⟨d, cm, tw, hst, hin⟩ := hL.out
      have HKN := Lib.hid known_any
      have HSI := Lib.hid (And.intro hst hin)
      have hS1 := hin.s
      clear hL hst hin
      rcases h1 with ⟨h1, rfl⟩ | rfl
      · have g1 : (150 : Int) < (N : Int) := by omega
        go_wp2_with fail
        go_loopw [16] (fun v16 wx => ∃ j : Nat, j ≤ S ∧ v16 = .int .i64 j ∧ Hid (Same wr wx)) (fun v16 _ => S - (intOf v16).toNat)
        case atStart => exact ⟨0, by omega, rfl, Lib.hid (Upd.refl _ _)⟩
        case round =>
          obtain ⟨j, hj, rfl, hs⟩ := hrel
          by_cases hjS : j < S
          · have g3 : (j : Int) < (S : Int) := by omega
            have g4 : (j : Int) < 200 := by omega
            have hst2 := HSI.out.1.same (Same.trans hs.out (Upd.refl _ _).drew)
            have x0 := hst2.cellC j (by omega)
            have x1 := hst2.cellT j (by omega)
            have hla := HSI.out.2.last j hjS (by omega)
            have hlw := HSI.out.2.law j (by omega)
            generalize cm.getD j 0 = ca at x0 hla hlw
            generalize tw.getD j 0 = ta at x1 hla hlw
            have g5 : IntKind.i64.wrap (1 + ta) = 1 + ta := by simp only [IntKind.wrap_i64]; omega
            have g6 : decide (1 + ta < ca) = false := by simpa using hla
            have HS2 := Lib.hid (Same.trans hs.out (Upd.refl _ _).drew)
            clear hst2 hla hlw hs
            go_wp2_with fail
            go_region
            all_goals
              go_wp2_with fail
              go_roundw
              case rel => exact ⟨j + 1, by omega, by go_num, HS2.out⟩
              case measure => simp [intOf]; omega
          · obtain rfl : S = j := by omega
            go_wp2_with fail
            refine (HKN.out _).mono ?_
            rintro r w8 ⟨rfl, hs8⟩
            have HS8 := Lib.hid (Same.trans (Same.trans HSI.out.1.s0 hs.out) hs8)
            clear hs8
            go_wp2_with fail
            go_ret
            exact ⟨rfl, HS8.out⟩
      · go_wp2_with fail
        go_loopw [16] (fun v16 wx => ∃ j : Nat, j ≤ S ∧ v16 = .int .i64 j ∧ Hid (Same wr wx)) (fun v16 _ => S - (intOf v16).toNat)
        case atStart => exact ⟨0, by omega, rfl, Lib.hid (Upd.refl _ _)⟩
        case round =>
          obtain ⟨j, hj, rfl, hs⟩ := hrel
          by_cases hjS : j < S
          · have g3 : (j : Int) < (S : Int) := by omega
            have g4 : (j : Int) < 200 := by omega
            have hst2 := HSI.out.1.same (Same.trans hs.out (Upd.refl _ _).drew)
            have x0 := hst2.cellC j (by omega)
            have x1 := hst2.cellT j (by omega)
            have hla := HSI.out.2.last j hjS (by omega)
            have hlw := HSI.out.2.law j (by omega)
            generalize cm.getD j 0 = ca at x0 hla hlw
            generalize tw.getD j 0 = ta at x1 hla hlw
            have g5 : IntKind.i64.wrap (1 + ta) = 1 + ta := by simp only [IntKind.wrap_i64]; omega
            have g6 : decide (1 + ta < ca) = false := by simpa using hla
            have HS2 := Lib.hid (Same.trans hs.out (Upd.refl _ _).drew)
            clear hst2 hla hlw hs
            go_wp2_with fail
            go_region
            all_goals
              go_wp2_with fail
              go_roundw
              case rel => exact ⟨j + 1, by omega, by go_num, HS2.out⟩
              case measure => simp [intOf]; omega
          · obtain rfl : S = j := by omega
            go_wp2_with fail
            refine (HKN.out _).mono ?_
            rintro r w8 ⟨rfl, hs8⟩
            have HS8 := Lib.hid (Same.trans (Same.trans HSI.out.1.s0 hs.out) hs8)
            clear hs8
            go_wp2_with fail
            go_ret
            exact ⟨rfl, HS8.out⟩
end Go.Proofs.Ytppphelihimidaa
