/- The walk of LeaseOnce. -/
import Derived.Test.YtoepflfchcoogaaOnceN
import Derived.Test.YtoepflfchcoogaaStepA
import Derived.Deep.DeepCutAuto
import Derived.Deep.CutRange
import Derived.Deep.CutBlock
namespace Go.Proofs.Ytoepflfchcoogaa
open Go.RowKit
set_option linter.unusedVariables false
set_option linter.unusedSimpArgs false
attribute [local go_sem ↓] Go.wp_at_zero Go.wp_at_succ
def ActO (W : World) (B : Nat) (x y z : Int) : Prop := W.cell? ⟨B, 0, none⟩ = some (.int .i64 x) ∧ W.cell? ⟨B, 1, none⟩ = some (.int .i64 y) ∧ W.cell? ⟨B, 2, none⟩ = some (.int .i64 z)
theorem ActO.upd {S : Nat → Prop} {W W' : World} {B : Nat} {x y z : Int} (h : ActO W B x y z) (hu : Upd S W W') (hn : ¬ S B) : ActO W' B x y z := ⟨hu.cell h.1 hn, hu.cell h.2.1 hn, hu.cell h.2.2 hn⟩
theorem ActO.new (W : World) (x y z : Int) (t : TypeId) (B : Nat) (hB : B = W.heap.size) : ActO (W.alloc (.cells #[.int .i64 x, .int .i64 y, .int .i64 z] t)) B x y z := by
  subst hB
  have h : (W.alloc (.cells #[.int .i64 x, .int .i64 y, .int .i64 z] t)).heap[W.heap.size]? = some (.cells #[.int .i64 x, .int .i64 y, .int .i64 z] t) := heap_alloc_new W _
  refine ⟨?_, ?_, ?_⟩
  all_goals (rw [cell_of_row _ _ _ _ t (0, 0) h]; rfl)

set_option maxRecDepth 100000 in
set_option maxHeartbeats 8000000 in
theorem leaseOnce_walk (w : World) (l : Value) (os : List LAsk) (ho : LAskAt w l os) :
    Calls Try.prog 6 #[l] w fun e w' => e = .returned (.bool true) ∧ Same w w' := by
  obtain ⟨A, cap, rfl, q1, q2, q3⟩ := id ho
  have HOS := Lib.hid ho
  obtain ⟨N, hN⟩ : ∃ N, N = os.length := ⟨_, rfl⟩
  rw [← hN] at q1
  have HN := Lib.hid hN
  clear q3 ho
  rw [show os.length = N from hN.symm]
  clear hN
  go_enter Try.func6, Try.ntmps6
  go_wp2_with fail
  refine (rdnew_any w).mono ?_
  rintro r w1 ⟨rfl, hc, hs1⟩
  have hr : ∀ k, ¬ room (.slice none 0 0) = some k := fun k e => by simp [room] at e
  have hO : RdO w.heap.size (fun k => k = w.heap.size) w1 w.heap.size [] := ⟨_, ⟨Nat.le_refl _, hc, Own.nil _ _ _, hr _⟩, fun k hk => hk.elim (fun e => e) (fun e => (hr k e).elim), fun k hk => ⟨by omega, by have := hc.lt; omega⟩⟩
  have HP : Hid (OnceA w w1 w.heap.size [] (.slice none 0 0) (.slice none 0 0) (.slice none 0 0) [] [] []) := Lib.hid ⟨_, hO, Own.nil _ _ _, Own.nil _ _ _, Own.nil _ _ _, fun j hj => absurd hj (hr j), fun j hj => absurd hj (hr j), fun j hj => absurd hj (hr j), hs1⟩
  clear hO hr hc hs1
  go_wp2_with fail
  go_loopw [4, 5, 6] (fun v4 v5 v6 wr => ∃ k : Nat, k ≤ N ∧ k ≤ 100 ∧ v6 = .int .i64 k ∧ ∃ ls, OnceA w wr w.heap.size ls v4 v5 (.slice none 0 0) (ls.map (·.1)) (ls.map (·.2)) [] ∧ OnceOk ls) (fun _ _ v6 _ => N - (intOf v6).toNat)
  case atStart => exact ⟨0, by omega, by omega, rfl, [], HP.out, OnceOk.nil⟩
  case round =>
    obtain ⟨k, hk, hk3, rfl, ls, hPr, hok⟩ := hrel
    by_cases hlt : k < N ∧ k < 100
    · obtain ⟨hlt1, hlt2⟩ := hlt
      have g1 : (k : Int) < (N : Int) := by omega
      have g2 : (k : Int) < 100 := by omega
      have hko : k < os.length := by have := HN.out; omega
      obtain ⟨F, h1, h2, h3, h4, h5, h6, h7, h8⟩ := id hPr
      obtain ⟨A', cap', e0, _, _, hcells⟩ := HOS.out.same h8
      injection e0 with e1 e2 e3
      subst e1
      obtain ⟨b, off, rfl, o0, o1, o2, ob0, ob1, ob2⟩ := hcells k hko
      generalize os[k] = o at o0 o1 o2 ob0 ob1 ob2
      obtain ⟨ok, oa, ob⟩ := o
      simp only at o0 o1 o2 ob0 ob1 ob2
      have hA5 := ActO.new wr ok oa ob 49 _ rfl
      have ha := (Upd.refl (fun _ => False) wr).alloc (.cells #[.int .i64 ok, .int .i64 oa, .int .i64 ob] 49)
      have hB1 : ¬ F wr.heap.size := fun e => by have := (h1.foot _ e).2; omega
      have hB2 : ¬ room u4 = some wr.heap.size := fun e => by have := (h2.ge (by decide) _ e).2; omega
      have hB3 : ¬ room u5 = some wr.heap.size := fun e => by have := (h3.ge (by decide) _ e).2; omega
      have H5 := Lib.hid (And.intro (h1.same ha) (And.intro (h2.same ha) (And.intro (h3.same ha) (And.intro h5 (And.intro h6 (And.intro (Same.trans h8 ha) (And.intro hB1 (And.intro hB2 hB3))))))))
      have HPA := Lib.hid (hPr.same ha)
      have HA := Lib.hid hA5
      have HOK := Lib.hid hok
      clear hcells hPr h1 h2 h3 h4 h5 h6 h7 h8 hA5 ha hB1 hB2 hB3 e2 e3 hok
      go_upto_block 2 with (fail)
      generalize wr.alloc (.cells #[.int .i64 ok, .int .i64 oa, .int .i64 ob] 49) = W5 at H5 HPA HA ⊢
      generalize wr.heap.size = B at H5 HA ⊢
      clear o0 o1 o2
      obtain ⟨o0, o1, o2⟩ := HA.out
      have hz6 := HPA.out.base
      go_cut [4, 5, 8, 9] from 18 to 130 (fun v4 v5 v8 v9 wx => OnceMid w w.heap.size v4 v5 v8 v9 wx)
      case first =>
        have hcases : (ok = 0 ∨ ok = 1 ∨ ok = 2) ∨ (ok = 3 ∨ ok = 4) ∨ ok = 5 ∨ ((ok == 0) = false ∧ (ok == 1) = false ∧ (ok == 2) = false ∧ (ok == 3) = false ∧ (ok == 4) = false ∧ (ok == 5) = false) := by simp; omega
        rcases hcases with hk1 | hk1 | hk1 | hk1
        · have HS1 := Lib.hid (ask_o H5.out.1 hz6 oa ob)
          have HK2 := Lib.hid (HOK.out.ask oa ob ob2.2)
          have hcode := askL_code ls oa ob
          generalize askL ls oa ob = S at HS1 HK2 hcode
          obtain ⟨code, ls2⟩ := S
          simp only at HS1 HK2 hcode
          rcases hcode with ⟨rfl, rfl, hl⟩ | ⟨hc, rfl⟩
          · rcases hk1 with rfl | rfl | rfl
            all_goals
              go_wp2_with fail
              refine HS1.out.mono ?_
              rintro r w8 ⟨rfl, hg⟩
              have hq := OnceA.reads H5.out.1 H5.out.2.1 H5.out.2.2.1 H5.out.2.2.2.1 H5.out.2.2.2.2.1 H5.out.2.2.2.2.2.1 hg (vo := .slice none 0 0) (os := []) (Own.nil _ _ _)
              obtain ⟨x0, x1, x2⟩ := HA.out.upd hg.choose_spec.2.1 H5.out.2.2.2.2.2.2.1
              have HQ := Lib.hid hq
              have HX := Lib.hid (show ActO w8 B _ oa ob from ⟨x0, x1, x2⟩)
              clear hg hq
              have hbx := HX.out.2.1
              go_wp2_with (first
                | (at_builtin; refine wpl_append_own rfl (.tmp 45) (.tmp 48) 22 rfl Try.underlying22 hinfo_num3 rfl (by decide) u4 _ rfl rfl (HQ.out.choose_spec.2.1.same ((Upd.refl _ _).alloc _)) (Rdr.box _ [numC oa] _ _ _ rfl 1 rfl) (by simp [numC]; rfl) (by have := HQ.out.base; simp; omega) ls.length 1 (by simp) rfl (by omega) (by omega) ?_; intro v9 w9 hf9 hu9 hr9; have hq9 := OnceA.setw (xs' := ls.map (·.1) ++ [oa]) (HQ.out.same ((Upd.refl _ _).alloc _)) (by simpa using hf9) hu9 hr9; obtain ⟨y0, y1, y2⟩ := (HX.out.upd ((Upd.refl (fun _ => False) _).alloc _) (fun h => h)).upd hu9 H5.out.2.2.2.2.2.2.2.1; have HQ9 := Lib.hid hq9; clear hf9 hu9 hr9 hq9)
                | (at_builtin; refine wpl_append_own rfl (.tmp 50) (.tmp 53) 22 rfl Try.underlying22 hinfo_num3 rfl (by decide) u5 _ rfl rfl (HQ9.out.choose_spec.2.2.1.same ((Upd.refl _ _).alloc _)) (Rdr.box _ [numC ob] _ _ _ rfl 1 rfl) (by simp [numC]; rfl) (by have := HQ9.out.base; simp; omega) ls.length 1 (by simp) rfl (by omega) (by omega) ?_; intro v10 w10 hf10 hu10 hr10; have hq10 := OnceA.seta (xs' := ls.map (·.2) ++ [ob]) (HQ9.out.same ((Upd.refl _ _).alloc _)) (by simpa using hf10) hu10 hr10; have HQ10 := Lib.hid hq10; clear hf10 hu10 hr10 hq10))
              go_meet
              exact onceMid_none (ls := ls ++ [(oa, ob)]) (by simpa using HQ10.out) HK2.out
          · have hcb : (code == 0) = false := by simpa using hc
            rcases hk1 with rfl | rfl | rfl
            all_goals
              go_wp2_with fail
              refine HS1.out.mono ?_
              rintro r w8 ⟨rfl, hg⟩
              have HQ := Lib.hid (OnceA.reads H5.out.1 H5.out.2.1 H5.out.2.2.1 H5.out.2.2.2.1 H5.out.2.2.2.2.1 H5.out.2.2.2.2.2.1 hg (vo := .slice none 0 0) (os := []) (Own.nil _ _ _))
              clear hg
              go_wp2_with fail
              go_meet
              exact onceMid_none HQ.out HK2.out
        · rcases hk1 with rfl | rfl
          all_goals
            go_wp2_with fail
            refine (ready_o H5.out.1 hz6 HOK.out.2.1 ob).mono ?_
            rintro r w8 ⟨vo, rfl, hV, hg⟩
            have HQ := Lib.hid (OnceA.reads H5.out.1 H5.out.2.1 H5.out.2.2.1 H5.out.2.2.2.1 H5.out.2.2.2.2.1 H5.out.2.2.2.2.2.1 hg hV)
            obtain ⟨x0, x1, x2⟩ := HA.out.upd hg.choose_spec.2.1 H5.out.2.2.2.2.2.2.1
            clear hg hV
            go_wp2_with fail
            go_meet
            exact onceMid_ready HQ.out HOK.out
        · subst hk1
          go_wp2_with fail
          refine (drop_o H5.out.1 hz6 HOK.out.2.1).mono ?_
          rintro r w8 ⟨vo, rfl, hV, hg⟩
          have HQ := Lib.hid (OnceA.reads H5.out.1 H5.out.2.1 H5.out.2.2.1 H5.out.2.2.2.1 H5.out.2.2.2.2.1 H5.out.2.2.2.2.2.1 hg hV)
          clear hg hV
          go_wp2_with fail
          go_meet
          exact onceMid_drop HQ.out HOK.out
        · obtain ⟨k0, k1, k2, k3, k4, k5⟩ := hk1
          go_wp2_with fail
          go_meet
          exact onceMid_none HPA.out HOK.out
      case rest =>
        obtain ⟨cur, f, most, hA, hok2, hmost, rfl⟩ := hcut
        have HST := Lib.hid (OnceSt.start f cur)
        have HRM := Lib.hid (OnceRm.start (f := f) hok2.1 hok2.2.1)
        have htl : ((cur.filter f).map (·.1)).length ≤ 100 := by rw [List.length_map]; exact Nat.le_trans (List.length_filter_le _ _) hok2.2.1
        generalize (cur.filter f).map (·.1) = tol at hA HST HRM htl
        obtain ⟨T, hT⟩ : ∃ T, T = tol.length := ⟨_, rfl⟩
        obtain ⟨C, hC⟩ : ∃ C, C = cur.length := ⟨_, rfl⟩
        obtain ⟨F2, h1, h2, h3, h4, -⟩ := id hA
        obtain ⟨tA, tcap, rfl⟩ := rows_open h4.rdr
        obtain ⟨aA, acap, rfl⟩ := rows_open h3.rdr
        have HTL := Lib.hid (RowNums.of h4.rdr)
        have HAT := Lib.hid (RowNums.of h3.rdr)
        have HPL := Lib.hid (fun n => placeLaw_any h2.rdr (by rw [List.length_map]; have := hok2.2.1; omega) n)
        have HD := Lib.hid hok2
        have HMO := Lib.hid hmost
        have HAA := Lib.hid hA
        rw [← hT] at htl ⊢
        have e1 : (cur.map (·.2)).length = C := by rw [List.length_map, hC]
        rw [e1]
        have HT := Lib.hid hT
        have HC := Lib.hid hC
        clear hA h1 h2 h3 h4 hok2 hmost hT hC e1 H5 HA HPA HOK o0 o1 o2 hz6
        go_wp2_with fail
        go_loop [10, 11] (fun v10 v11 => ∃ (k : Nat) (last : Int), k ≤ T ∧ v11 = .int .i64 k ∧ v10 = .int .i64 last ∧ Hid (OnceSt f cur tol k last)) (fun _ v11 => T - (intOf v11).toNat)
        case atStart => exact ⟨0, -1, by omega, rfl, rfl, HST.out⟩
        case round =>
          obtain ⟨m, last, hm, rfl, rfl, hst⟩ := hrel
          by_cases hlt3 : m < T
          · have g3 : (m : Int) < (T : Int) := by omega
            obtain ⟨n, n1, n2, n3, ⟨x, xm, xf, x2⟩, n5⟩ := OnceSt.step HD.out.1 hst.out (by have := HT.out; omega)
            obtain ⟨tb, tf, rfl, tc⟩ := HTL.out m (by have := HT.out; omega)
            obtain ⟨ab, ao, rfl, ac⟩ := HAT.out n (by simpa using n1)
            have hcn := HPL.out (tol.getD m 0)
            rw [n2] at hcn
            generalize tol.getD m 0 = tm at tc hcn
            have hxm := HMO.out x xm xf
            rw [x2] at ac
            have n1C : n < C := by have := HC.out; omega
            have HN5 := Lib.hid n5
            have HCN := Lib.hid hcn
            have g4 : (n : Int) < (C : Int) := by omega
            have g5 : ¬ (n : Int) ≤ last := by omega
            have g6 : ¬ most < x.2 := by omega
            clear n2 x2 n5 hcn hst
            go_wp2_with fail
            refine HCN.out.mono ?_
            rintro r w8 ⟨rfl, rfl⟩
            go_wp2_with fail
            go_round
            case rel => exact ⟨m + 1, n, by omega, by go_num, rfl, HN5.out⟩
            case measure => simp [intOf]; omega
          · obtain rfl : T = m := by omega
            go_wp2_with fail
            go_loopw [4, 5, 13] (fun v4 v5 v13 wr => ∃ (k : Nat) (cur' : List (Int × Int)), k ≤ T ∧ v13 = .int .i64 k ∧ OnceA w wr w.heap.size (cur.filter fun x => !(f x)) v4 v5 (.slice tA T tcap) (cur'.map (·.1)) (cur'.map (·.2)) tol ∧ Hid (OnceRm f cur tol k cur')) (fun _ _ v13 _ => T - (intOf v13).toNat)
            case atStart => exact ⟨0, cur, by omega, rfl, by have := HAA.out; rw [← HT.out, List.length_map, ← HC.out] at this; exact this, HRM.out⟩
            case round =>
              clear HTL HAT HPL HST HRM HAA
              obtain ⟨m, cur', hm, rfl, hA, hrm⟩ := hrel
              obtain ⟨F3, h1, h2, h3, h4, h5, h6, h7, h8⟩ := id hA
              obtain ⟨D, hD⟩ : ∃ D, D = cur'.length := ⟨_, rfl⟩
              have hD100 : D ≤ 100 := by rw [hD]; exact hrm.out.2.2.2
              by_cases hlt3 : m < T
              · have g3 : (m : Int) < (T : Int) := by omega
                obtain ⟨n, n1, n2, n3⟩ := OnceRm.step hrm.out (by have := HT.out; omega)
                obtain ⟨tb, tf, rfl, tc⟩ := RowNums.of h4.rdr m (by have := HT.out; omega)
                have hcn := placeLaw_any h2.rdr (by rw [List.length_map]; omega) (tol.getD m 0)
                rw [n2] at hcn
                generalize tol.getD m 0 = tm at tc hcn
                obtain ⟨wA, wcap, rfl⟩ := rows_open h2.rdr
                obtain ⟨aA, acap, rfl⟩ := rows_open h3.rdr
                have ed1 : (cur'.map (·.1)).length = D := by rw [List.length_map, hD]
                have ed2 : (cur'.map (·.2)).length = D := by rw [List.length_map, hD]
                have nD : n < D := by omega
                obtain ⟨b1, f1, rfl, -⟩ := RowNums.of h2.rdr n (by omega)
                obtain ⟨b2, f2, rfl, -⟩ := RowNums.of h3.rdr n (by omega)
                rw [ed1] at hA hcn h2
                rw [ed2] at hA h3
                rw [ed1, ed2]
                have hb8 := hA.base
                have hp1 := row_parts h2 n nD
                have hp2 := row_parts h3 n nD
                obtain ⟨_, _, _, e0, j1, j2, j3⟩ := h2.open_
                injection e0 with e01 e02 e03
                subst e01 e02 e03
                obtain ⟨_, _, _, e0, j4, j5, j6⟩ := h3.open_
                injection e0 with e01 e02 e03
                subst e01 e02 e03
                have HAA := Lib.hid hA
                have HN3 := Lib.hid n3
                have HCN := Lib.hid hcn
                have k1 : (0 : Int) ≤ (n : Int) := by omega
                have k2 : (n : Int) ≤ (wcap : Int) := by omega
                have k3 : (n : Int) ≤ (acap : Int) := by omega
                have k4 : (n : Int) + 1 ≤ (D : Int) := by omega
                have k5 : n ≤ wcap := by omega
                have k6 : n ≤ acap := by omega
                have k7 : n + 1 ≤ D := by omega
                have k8 : (0 : Int) ≤ (n : Int) + 1 := by omega
                have k9 : (n : Int) ≤ (D : Int) := by omega
                have k10 : IntKind.i64.wrap ((n : Int) + 1) = (n : Int) + 1 := by rw [IntKind.wrap_i64]; omega
                have k11 : n + 1 ≤ wcap := by omega
                have k12 : n + 1 ≤ acap := by omega
                have hl1 : ((cur'.map (·.1)).take n).length = n := by rw [List.length_take]; omega
                have hl2 : ((cur'.map (·.2)).take n).length = n := by rw [List.length_take]; omega
                have hl3 : ((cur'.map (·.1)).drop (n + 1)).length = D - (n + 1) := by rw [List.length_drop]; omega
                have hl4 : ((cur'.map (·.2)).drop (n + 1)).length = D - (n + 1) := by rw [List.length_drop]; omega
                have HL := Lib.hid (And.intro hl1 (And.intro hl2 (And.intro hl3 (And.intro hl4 hD100))))
                obtain ⟨hf1, -, hp1⟩ := hp1
                obtain ⟨-, -, hp2⟩ := hp2
                have HF1 := Lib.hid hf1
                clear hA h1 h2 h3 h4 h5 h6 h7 h8 n2 n3 hcn ed1 ed2 j1 j4 hl1 hl2 hl3 hl4 hD hrm n1 hD100 hf1
                rcases hp1 with ⟨rfl, rfl, HB1⟩ | ⟨c1, HB1⟩
                · rcases hp2 with ⟨rfl, -, -⟩ | ⟨c2, -⟩
                  · skip
                    have k13 : (n : Int) ≤ (n : Int) + 1 := by omega
                    go_wp2_with fail
                    refine HCN.out.mono ?_
                    rintro r w8 ⟨rfl, rfl⟩
                    go_wp2_with fail
                    go_region_law (first
                      | (refine step_append_own rfl (.tmp 111) (.tmp 115) 22 rfl Try.underlying22 hinfo_num3 rfl (by decide) (.slice (some ⟨b1, f1, none⟩) n n) (.slice (some ⟨b1, f1, none⟩) 0 0) (by simp [Act.eval, Act.put]) (by simp [Act.eval, Act.put]) (HF1.out.same (Upd.refl _ _).drew) (HB1.out.same (Upd.refl _ _).drew) (numC_one _) (by simpa using hb8) n _ (by rw [List.length_map, HL.out.1, Nat.mul_one]) (by rw [List.length_map, HL.out.2.2.1, Nat.mul_one]) (by have := HL.out.2.2.2.2; omega) (by have := HL.out.2.2.2.2; omega) ?_; intro v9 w9 hf9 hu9 hr9; have HQ9 := Lib.hid (HAA.out.rmw nD hf9 hu9 hr9); clear hf9 hu9 hr9))
                    have hb9 := HQ9.out.base
                    have hp9 := row_parts HQ9.out.choose_spec.2.2.1 n nD
                    have HF2 := Lib.hid hp9.1
                    have HB2 := Lib.hid (back_full hp9)
                    clear hp9
                    clear HB1 HF1
                    go_wp2_with fail
                    go_region_law (first
                      | (refine step_append_own rfl (.tmp 120) (.tmp 124) 22 rfl Try.underlying22 hinfo_num3 rfl (by decide) (.slice (some ⟨b2, f2, none⟩) n n) (.slice (some ⟨b2, f2, none⟩) 0 0) (by simp [Act.eval, Act.put]) (by simp [Act.eval, Act.put]) (HF2.out.same (Upd.refl _ _).drew) (HB2.out.same (Upd.refl _ _).drew) (numC_one _) (by simpa using hb9) n _ (by rw [List.length_map, HL.out.2.1, Nat.mul_one]) (by rw [List.length_map, HL.out.2.2.2.1, Nat.mul_one]) (by have := HL.out.2.2.2.2; omega) (by have := HL.out.2.2.2.2; omega) ?_; intro v10 w10 hf10 hu10 hr10; have HQ10 := Lib.hid (HQ9.out.rma nD hf10 hu10 hr10); clear hf10 hu10 hr10))
                    go_wp2_with fail
                    go_roundw
                    case rel => exact ⟨m + 1, cur'.take n ++ cur'.drop (n + 1), by omega, by go_num, by have := HQ10.out; simpa [List.map_append, List.map_take, List.map_drop] using this, HN3.out⟩
                    case measure => simp [intOf]; omega
                  · skip
                    have k13 : (n : Int) ≤ (n : Int) + 1 := by omega
                    go_wp2_with fail
                    refine HCN.out.mono ?_
                    rintro r w8 ⟨rfl, rfl⟩
                    go_wp2_with fail
                    go_region_law (first
                      | (refine step_append_own rfl (.tmp 111) (.tmp 115) 22 rfl Try.underlying22 hinfo_num3 rfl (by decide) (.slice (some ⟨b1, f1, none⟩) n n) (.slice (some ⟨b1, f1, none⟩) 0 0) (by simp [Act.eval, Act.put]) (by simp [Act.eval, Act.put]) (HF1.out.same (Upd.refl _ _).drew) (HB1.out.same (Upd.refl _ _).drew) (numC_one _) (by simpa using hb8) n _ (by rw [List.length_map, HL.out.1, Nat.mul_one]) (by rw [List.length_map, HL.out.2.2.1, Nat.mul_one]) (by have := HL.out.2.2.2.2; omega) (by have := HL.out.2.2.2.2; omega) ?_; intro v9 w9 hf9 hu9 hr9; have HQ9 := Lib.hid (HAA.out.rmw nD hf9 hu9 hr9); clear hf9 hu9 hr9))
                    have hb9 := HQ9.out.base
                    have hp9 := row_parts HQ9.out.choose_spec.2.2.1 n nD
                    have HF2 := Lib.hid hp9.1
                    have HB2 := Lib.hid (back_some hp9 c2)
                    clear hp9
                    clear HB1 HF1
                    go_wp2_with fail
                    go_region_law (first
                      | (refine step_append_own rfl (.tmp 120) (.tmp 124) 22 rfl Try.underlying22 hinfo_num3 rfl (by decide) (.slice (some ⟨b2, f2, none⟩) n n) (.slice (some ⟨b2, f2 + (n + 1), none⟩) (n + 1 - (n + 1)) (acap - (n + 1))) (by simp [Act.eval, Act.put]) (by simp [Act.eval, Act.put]) (HF2.out.same (Upd.refl _ _).drew) (HB2.out.same (Upd.refl _ _).drew) (numC_one _) (by simpa using hb9) n _ (by rw [List.length_map, HL.out.2.1, Nat.mul_one]) (by rw [List.length_map, HL.out.2.2.2.1, Nat.mul_one]) (by have := HL.out.2.2.2.2; omega) (by have := HL.out.2.2.2.2; omega) ?_; intro v10 w10 hf10 hu10 hr10; have HQ10 := Lib.hid (HQ9.out.rma nD hf10 hu10 hr10); clear hf10 hu10 hr10))
                    go_wp2_with fail
                    go_roundw
                    case rel => exact ⟨m + 1, cur'.take n ++ cur'.drop (n + 1), by omega, by go_num, by have := HQ10.out; simpa [List.map_append, List.map_take, List.map_drop] using this, HN3.out⟩
                    case measure => simp [intOf]; omega
                · rcases hp2 with ⟨rfl, rfl, -⟩ | ⟨c2, -⟩
                  · skip
                    have k13 : (n : Int) ≤ (n : Int) + 1 := by omega
                    go_wp2_with fail
                    refine HCN.out.mono ?_
                    rintro r w8 ⟨rfl, rfl⟩
                    go_wp2_with fail
                    go_region_law (first
                      | (refine step_append_own rfl (.tmp 111) (.tmp 115) 22 rfl Try.underlying22 hinfo_num3 rfl (by decide) (.slice (some ⟨b1, f1, none⟩) n n) (.slice (some ⟨b1, f1 + (n + 1), none⟩) (n + 1 - (n + 1)) (wcap - (n + 1))) (by simp [Act.eval, Act.put]) (by simp [Act.eval, Act.put]) (HF1.out.same (Upd.refl _ _).drew) (HB1.out.same (Upd.refl _ _).drew) (numC_one _) (by simpa using hb8) n _ (by rw [List.length_map, HL.out.1, Nat.mul_one]) (by rw [List.length_map, HL.out.2.2.1, Nat.mul_one]) (by have := HL.out.2.2.2.2; omega) (by have := HL.out.2.2.2.2; omega) ?_; intro v9 w9 hf9 hu9 hr9; have HQ9 := Lib.hid (HAA.out.rmw nD hf9 hu9 hr9); clear hf9 hu9 hr9))
                    have hb9 := HQ9.out.base
                    have hp9 := row_parts HQ9.out.choose_spec.2.2.1 n nD
                    have HF2 := Lib.hid hp9.1
                    have HB2 := Lib.hid (back_full hp9)
                    clear hp9
                    clear HB1 HF1
                    go_wp2_with fail
                    go_region_law (first
                      | (refine step_append_own rfl (.tmp 120) (.tmp 124) 22 rfl Try.underlying22 hinfo_num3 rfl (by decide) (.slice (some ⟨b2, f2, none⟩) n n) (.slice (some ⟨b2, f2, none⟩) 0 0) (by simp [Act.eval, Act.put]) (by simp [Act.eval, Act.put]) (HF2.out.same (Upd.refl _ _).drew) (HB2.out.same (Upd.refl _ _).drew) (numC_one _) (by simpa using hb9) n _ (by rw [List.length_map, HL.out.2.1, Nat.mul_one]) (by rw [List.length_map, HL.out.2.2.2.1, Nat.mul_one]) (by have := HL.out.2.2.2.2; omega) (by have := HL.out.2.2.2.2; omega) ?_; intro v10 w10 hf10 hu10 hr10; have HQ10 := Lib.hid (HQ9.out.rma nD hf10 hu10 hr10); clear hf10 hu10 hr10))
                    go_wp2_with fail
                    go_roundw
                    case rel => exact ⟨m + 1, cur'.take n ++ cur'.drop (n + 1), by omega, by go_num, by have := HQ10.out; simpa [List.map_append, List.map_take, List.map_drop] using this, HN3.out⟩
                    case measure => simp [intOf]; omega
                  · skip
                    have k13 : (n : Int) ≤ (n : Int) + 1 := by omega
                    go_wp2_with fail
                    refine HCN.out.mono ?_
                    rintro r w8 ⟨rfl, rfl⟩
                    go_wp2_with fail
                    go_region_law (first
                      | (refine step_append_own rfl (.tmp 111) (.tmp 115) 22 rfl Try.underlying22 hinfo_num3 rfl (by decide) (.slice (some ⟨b1, f1, none⟩) n n) (.slice (some ⟨b1, f1 + (n + 1), none⟩) (D - (n + 1)) (wcap - (n + 1))) (by simp [Act.eval, Act.put]) (by simp [Act.eval, Act.put]) (HF1.out.same (Upd.refl _ _).drew) (HB1.out.same (Upd.refl _ _).drew) (numC_one _) (by simpa using hb8) n _ (by rw [List.length_map, HL.out.1, Nat.mul_one]) (by rw [List.length_map, HL.out.2.2.1, Nat.mul_one]) (by have := HL.out.2.2.2.2; omega) (by have := HL.out.2.2.2.2; omega) ?_; intro v9 w9 hf9 hu9 hr9; have HQ9 := Lib.hid (HAA.out.rmw nD hf9 hu9 hr9); clear hf9 hu9 hr9))
                    have hb9 := HQ9.out.base
                    have hp9 := row_parts HQ9.out.choose_spec.2.2.1 n nD
                    have HF2 := Lib.hid hp9.1
                    have HB2 := Lib.hid (back_some hp9 c2)
                    clear hp9
                    clear HB1 HF1
                    go_wp2_with fail
                    go_region_law (first
                      | (refine step_append_own rfl (.tmp 120) (.tmp 124) 22 rfl Try.underlying22 hinfo_num3 rfl (by decide) (.slice (some ⟨b2, f2, none⟩) n n) (.slice (some ⟨b2, f2 + (n + 1), none⟩) (D - (n + 1)) (acap - (n + 1))) (by simp [Act.eval, Act.put]) (by simp [Act.eval, Act.put]) (HF2.out.same (Upd.refl _ _).drew) (HB2.out.same (Upd.refl _ _).drew) (numC_one _) (by simpa using hb9) n _ (by rw [List.length_map, HL.out.2.1, Nat.mul_one]) (by rw [List.length_map, HL.out.2.2.2.1, Nat.mul_one]) (by have := HL.out.2.2.2.2; omega) (by have := HL.out.2.2.2.2; omega) ?_; intro v10 w10 hf10 hu10 hr10; have HQ10 := Lib.hid (HQ9.out.rma nD hf10 hu10 hr10); clear hf10 hu10 hr10))
                    go_wp2_with fail
                    go_roundw
                    case rel => exact ⟨m + 1, cur'.take n ++ cur'.drop (n + 1), by omega, by go_num, by have := HQ10.out; simpa [List.map_append, List.map_take, List.map_drop] using this, HN3.out⟩
                    case measure => simp [intOf]; omega
              · obtain rfl : T = m := by omega
                have hdn : cur' = cur.filter (fun x => !(f x)) := OnceRm.done (tol := tol) (by have := hrm.out; rw [HT.out] at this; exact this)
                rw [← hdn] at hA
                have hok3 : OnceOk cur' := by rw [hdn]; exact HD.out.filter _
                have hln := rdlen_o hA.choose_spec.1
                obtain ⟨wA, wcap, rfl⟩ := rows_open h2.rdr
                have ed1 : (cur'.map (·.1)).length = D := by rw [List.length_map, hD]
                rw [← hD] at hln
                rw [ed1] at hA ⊢
                have HLN := Lib.hid hln
                have HAA := Lib.hid (OnceA.untold hA)
                have HOK3 := Lib.hid hok3
                clear hA h1 h2 h3 h4 h5 h6 h7 h8 hln hok3 hdn hrm ed1 hD
                go_wp2_with fail
                refine HLN.out.mono ?_
                rintro r w8 ⟨rfl, rfl⟩
                go_wp2_with fail
                go_roundw
                case rel => exact ⟨k + 1, by omega, by omega, by go_num, cur', HAA.out, HOK3.out⟩
                case measure => simp [intOf]; omega
    · have HE := Lib.hid hPr
      have HKN := Lib.hid known_any
      clear hPr HP hok
      have h1 : (k < N ∧ k = 100) ∨ k = N := by omega
      rcases h1 with ⟨h1, rfl⟩ | rfl
      · have g1 : (100 : Int) < (N : Int) := by omega
        go_wp2_with fail
        refine (HKN.out _).mono ?_
        rintro r w8 ⟨rfl, hs8⟩
        have HS8 := Lib.hid hs8
        clear hs8
        go_wp2_with fail
        go_ret
        obtain ⟨F, a1, a2, a3, a4, a5, a6, a7, a8⟩ := HE.out
        exact ⟨rfl, Same.trans a8 HS8.out⟩
      · go_wp2_with fail
        refine (HKN.out _).mono ?_
        rintro r w8 ⟨rfl, hs8⟩
        have HS8 := Lib.hid hs8
        clear hs8
        go_wp2_with fail
        go_ret
        obtain ⟨F, a1, a2, a3, a4, a5, a6, a7, a8⟩ := HE.out
        exact ⟨rfl, Same.trans a8 HS8.out⟩
end Go.Proofs.Ytoepflfchcoogaa
