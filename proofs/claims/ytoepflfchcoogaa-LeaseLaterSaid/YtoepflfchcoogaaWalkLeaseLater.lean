/- The walk of LeaseLater. -/
import Derived.Test.YtoepflfchcoogaaLeaseP
import Derived.Test.YtoepflfchcoogaaOpenN
namespace Go.Proofs.Ytoepflfchcoogaa
open Go.RowKit
set_option linter.unusedVariables false
set_option linter.unusedSimpArgs false
attribute [local go_sem ↓] Go.wp_at_zero Go.wp_at_succ
set_option maxRecDepth 100000 in
set_option maxHeartbeats 4000000 in
theorem leaseLater_walk (w : World) (least : Int) (hle : (Lit.int .i64 least).wf = true) (rho : Int) (hrh : (Lit.int .i64 rho).wf = true) (v1 : Value) (rs : List Int) (hv1 : NumsAt w v1 rs) (v2 : Value) (ts : List Int) (hv2 : NumsAt w v2 ts) (a : Int) (ha : (Lit.int .i64 a).wf = true) (b : Int) (hb : (Lit.int .i64 b).wf = true) :
    Calls Try.prog 3 #[.int .i64 least, .int .i64 rho, v1, v2, .int .i64 a, .int .i64 b] w fun e w' => e = .returned (.bool true) ∧ Same w w' := by
  replace hle := bounds_i64 hle
  replace hrh := bounds_i64 hrh
  replace ha := bounds_i64 ha
  replace hb := bounds_i64 hb
  obtain ⟨A, cap, rfl, q1, q2, q3⟩ := id hv1
  obtain ⟨B, cup, rfl, q4, q5, q6⟩ := id hv2
  have HV1 := Lib.hid hv1
  have HV2 := Lib.hid hv2
  obtain ⟨N, hN⟩ : ∃ N, N = rs.length := ⟨_, rfl⟩
  obtain ⟨M, hM⟩ : ∃ M, M = ts.length := ⟨_, rfl⟩
  rw [← hN] at q1
  rw [← hM] at q4
  rw [show rs.length = N from hN.symm, show ts.length = M from hM.symm]
  have HN := Lib.hid (And.intro hN hM)
  clear q3 q6 hv1 hv2 hN hM
  by_cases hbad : least < 1 ∨ 1000 < least ∨ rho < 1 ∨ 1000 < rho
  · have HNB := Lib.hid (lnew_bad least rho w hbad)
    clear hbad
    go_enter Try.func3, Try.ntmps3
    go_wp2_with fail
    refine HNB.out.mono ?_
    rintro r w1 ⟨rfl, rfl⟩
    go_wp2_with fail
    refine (known_any _).mono ?_
    rintro r w2 ⟨rfl, hs⟩
    have HS := Lib.hid hs
    clear hs
    go_wp2_with fail
    go_ret
    exact ⟨rfl, HS.out⟩
  · have b1 : 1 ≤ least := by omega
    have b2 : least ≤ 1000 := by omega
    have b3 : 1 ≤ rho := by omega
    have b4 : rho ≤ 1000 := by omega
    clear hbad
    go_enter Try.func3, Try.ntmps3
    go_wp2_with fail
    refine (lnew_good least rho w b1 b2 b3 b4).mono ?_
    rintro r w1 ⟨rfl, hc, hs1⟩
    obtain ⟨hO, hok⟩ := lnew_o (least - 2 * rho) w hc w.heap.size (Nat.le_refl _)
    have HO := Lib.hid (And.intro hO (And.intro hok hs1))
    clear hc hO hok hs1
    go_wp2_with fail
    go_loopw [15, 16] (fun v15 v16 wr => ∃ (k : Nat) (last : Int), k ≤ N ∧ k ≤ M ∧ k ≤ 150 ∧ v16 = .int .i64 k ∧ v15 = .int .i64 last ∧ ∃ F ls, LeO w.heap.size F wr w.heap.size (least - 2 * rho) ls ∧ LOk ls ∧ LSorted ls ∧ LLast ls last ∧ Same w wr) (fun _ v16 _ => N - (intOf v16).toNat)
    case atStart => exact ⟨0, 0, by omega, by omega, by omega, rfl, rfl, _, [], HO.out.1, HO.out.2.1, List.Pairwise.nil, ⟨by decide, by decide, by simp⟩, HO.out.2.2⟩
    case round =>
      obtain ⟨k, last, hk1, hk2, hk3, rfl, rfl, F, ls, hO, hok, hso, hla, hs⟩ := hrel
      have HE := Lib.hid (And.intro hO (And.intro hok (And.intro hso (And.intro hla hs))))
      have hl0 := hla.1
      have hl1 := hla.2.1
      clear hso hla
      by_cases hlt : k < N ∧ k < M ∧ k < 150
      · obtain ⟨l1, l2, l3⟩ := hlt
        have g1 : (k : Int) < (N : Int) := by omega
        have g2 : (k : Int) < (M : Int) := by omega
        have g3 : (k : Int) < 150 := by omega
        have g4 : (0 : Int) ≤ (k : Int) := by omega
        obtain ⟨A', cap', e0, _, _, c1⟩ := HV1.out
        injection e0 with e1 e2 e3
        subst e1
        obtain ⟨bA, oA, rfl, x1, r1⟩ := c1 k (by have := HN.out.1; omega)
        obtain ⟨B', cup', e0, _, _, c2⟩ := HV2.out
        injection e0 with e1 e4 e5
        subst e1
        obtain ⟨bB, oB, rfl, x2, r2⟩ := c2 k (by have := HN.out.2; omega)
        have nA := World.block_lt_of_cell? w _ x1
        have nB := World.block_lt_of_cell? w _ x2
        have y1 := hs.cell x1 (fun h => h)
        have y2 := hs.cell x2 (fun h => h)
        generalize rs.getD k 0 = R at y1 r1
        generalize ts.getD k 0 = T at y2 r2
        have hz := hs.size
        clear c1 c2 e2 e3 e4 e5 x1 x2 hO hok hs
        go_wp2_with fail
        go_region_held3 (fun w' => w'.cell? ⟨bA, oA + k, none⟩ = some (.int .i64 R) ∧ w'.cell? ⟨bB, oB + k, none⟩ = some (.int .i64 T)) (first | assumption | exact ⟨(Upd.refl (fun _ => False) _).drew.cell y1 (fun h => h), (Upd.refl (fun _ => False) _).drew.cell y2 (fun h => h)⟩ | exact ⟨z1, z2⟩) (first
          | (go_at_call 10; refine (sent_o (HE.out.1.same (Upd.refl _ _).drew) hz HE.out.2.1 R T).mono ?_; rintro r w3 ⟨rfl, hg⟩; have hgU := hg.choose_spec.2.1; have z1 := hgU.cell ((Upd.refl (fun _ => False) _).drew.cell y1 (fun h => h)) (fun e => by obtain ⟨v, p1, p2, p3⟩ := HE.out.1; have := (p3 _ e).1; simp at this; omega); have z2 := hgU.cell ((Upd.refl (fun _ => False) _).drew.cell y2 (fun h => h)) (fun e => by obtain ⟨v, p1, p2, p3⟩ := HE.out.1; have := (p3 _ e).1; simp at this; omega); have HG := Lib.hid hg; clear hg hgU))
        all_goals
          obtain ⟨F2, hO2, hs2⟩ := HG.out.go (HE.out.1.same (Upd.refl _ _).drew) (Same.trans HE.out.2.2.2.2 (Upd.refl _ _).drew)
          have hso2 := sentL_sorted HE.out.2.2.1 HE.out.2.2.2.1 R T
          have hok2 := HE.out.2.1.sent R T
          have hcode := sentL_code ls R T
          generalize sentL ls R T = S at hO2 hso2 hok2 hcode
          obtain ⟨code, ls2⟩ := S
          simp only at hO2 hso2 hok2 hcode
          have HO2 := Lib.hid hO2
          have HS2 := Lib.hid hs2
          have HK2 := Lib.hid hok2
          rcases hcode with rfl | ⟨hne, rfl⟩
          · have HP := Lib.hid hso2
            clear hO2 hs2 hok2 hso2 HG
            go_wp2_with fail
            go_roundw
            case rel => exact ⟨k + 1, T, by omega, by omega, by omega, by go_num, rfl, F2, ls2, HO2.out, HK2.out, HP.out.1, by simpa using HP.out.2, HS2.out⟩
            case measure => simp [intOf]; omega
          · have hb : (code == 0) = false := by simpa using hne
            have hla2 := hso2.2
            rw [if_neg hne] at hla2
            have HP := Lib.hid (And.intro hso2.1 hla2)
            clear hO2 hs2 hok2 hso2 hla2 HG hne
            go_wp2_with fail
            go_roundw
            case rel => exact ⟨k + 1, last, by omega, by omega, by omega, by go_num, rfl, F2, ls2, HO2.out, HK2.out, HP.out.1, HP.out.2, HS2.out⟩
            case measure => simp [intOf]; omega
      · have HKN := Lib.hid known_any
        have hz := hs.size
        have hq := fun hab => until_later (h := least - 2 * rho) HE.out.2.2.1 HE.out.2.1 HE.out.2.2.2.1 (a := a) (b := b) hab (by omega) b1
        have HUA := Lib.hid (fun w' (h : Same wr w') => until_o (hO.same h) hok (by omega) a)
        have HUB := Lib.hid (fun w' (h : Same wr w') => until_o (hO.same h) hok (by omega) b)
        generalize untilL (least - 2 * rho) ls a = X at hq HUA
        generalize untilL (least - 2 * rho) ls b = Y at hq HUB
        clear hO hok hs
        have hw : (k = N) ∨ (k < N ∧ k = M) ∨ (k < N ∧ k < M ∧ k = 150) := by omega
        by_cases hab : b < a
        · clear hq
          rcases hw with rfl | ⟨hw1, rfl⟩ | ⟨hw1, hw2, rfl⟩
          · go_wp2_with fail
            refine (HKN.out _).mono ?_
            rintro r w5 ⟨rfl, hs5⟩
            have HS5 := Lib.hid hs5
            clear hs5
            go_wp2_with fail
            go_ret
            exact ⟨rfl, Same.trans HE.out.2.2.2.2 HS5.out⟩
          · have f1 : (k : Int) < (N : Int) := by omega
            go_wp2_with fail
            refine (HKN.out _).mono ?_
            rintro r w5 ⟨rfl, hs5⟩
            have HS5 := Lib.hid hs5
            clear hs5
            go_wp2_with fail
            go_ret
            exact ⟨rfl, Same.trans HE.out.2.2.2.2 HS5.out⟩
          · have f1 : (150 : Int) < (N : Int) := by omega
            have f2 : (150 : Int) < (M : Int) := by omega
            go_wp2_with fail
            refine (HKN.out _).mono ?_
            rintro r w5 ⟨rfl, hs5⟩
            have HS5 := Lib.hid hs5
            clear hs5
            go_wp2_with fail
            go_ret
            exact ⟨rfl, Same.trans HE.out.2.2.2.2 HS5.out⟩
        · have hab2 : a ≤ b := by omega
          obtain ⟨t1, t2, t3⟩ := hq hab2
          clear hq
          rcases hw with rfl | ⟨hw1, rfl⟩ | ⟨hw1, hw2, rfl⟩
          · go_wp2_with fail
            refine (HUA.out _ (Upd.refl _ _)).mono ?_
            rintro r w5 ⟨rfl, hs5⟩
            have HS5 := Lib.hid hs5
            clear hs5
            go_wp2_with fail
            refine (HUB.out _ HS5.out).mono ?_
            rintro r w6 ⟨rfl, hs6⟩
            have HS6 := Lib.hid hs6
            clear hs6
            go_wp2_with fail
            refine (HKN.out _).mono ?_
            rintro r w7 ⟨rfl, hs7⟩
            have HS7 := Lib.hid hs7
            clear hs7
            go_wp2_with fail
            go_ret
            exact ⟨rfl, Same.trans HE.out.2.2.2.2 (Same.trans HS5.out (Same.trans HS6.out HS7.out))⟩
          · have f1 : (k : Int) < (N : Int) := by omega
            go_wp2_with fail
            refine (HUA.out _ (Upd.refl _ _)).mono ?_
            rintro r w5 ⟨rfl, hs5⟩
            have HS5 := Lib.hid hs5
            clear hs5
            go_wp2_with fail
            refine (HUB.out _ HS5.out).mono ?_
            rintro r w6 ⟨rfl, hs6⟩
            have HS6 := Lib.hid hs6
            clear hs6
            go_wp2_with fail
            refine (HKN.out _).mono ?_
            rintro r w7 ⟨rfl, hs7⟩
            have HS7 := Lib.hid hs7
            clear hs7
            go_wp2_with fail
            go_ret
            exact ⟨rfl, Same.trans HE.out.2.2.2.2 (Same.trans HS5.out (Same.trans HS6.out HS7.out))⟩
          · have f1 : (150 : Int) < (N : Int) := by omega
            have f2 : (150 : Int) < (M : Int) := by omega
            go_wp2_with fail
            refine (HUA.out _ (Upd.refl _ _)).mono ?_
            rintro r w5 ⟨rfl, hs5⟩
            have HS5 := Lib.hid hs5
            clear hs5
            go_wp2_with fail
            refine (HUB.out _ HS5.out).mono ?_
            rintro r w6 ⟨rfl, hs6⟩
            have HS6 := Lib.hid hs6
            clear hs6
            go_wp2_with fail
            refine (HKN.out _).mono ?_
            rintro r w7 ⟨rfl, hs7⟩
            have HS7 := Lib.hid hs7
            clear hs7
            go_wp2_with fail
            go_ret
            exact ⟨rfl, Same.trans HE.out.2.2.2.2 (Same.trans HS5.out (Same.trans HS6.out HS7.out))⟩
end Go.Proofs.Ytoepflfchcoogaa
