/- The walk of PduReads. -/
import Derived.Test.YtfafepmghcobdaaPduJ
import Derived.Test.YtfafepmghcobdaaPduI
import Derived.Test.YtfafepmghcobdaaGb
import Derived.Test.YtfafepmghcobdaaPduV
import Derived.Test.YtfafepmghcobdaaPduF0
import Derived.Test.YtfafepmghcobdaaOrdT
import Derived.Test.YtfafepmghcobdaaPduL
import Derived.Test.YtfafepmghcobdaaOpenAc
import Derived.Test.YtfafepmghcobdaaOpenPd
import Derived.Deep.CutRange
import Derived.Deep.CutBlock
import Derived.Deep.Cut
import Derived.Deep.DeepCutAuto
import Derived.Deep.DrawnRows
namespace Go.Proofs.Ytfafepmghcobdaa
open Go.RowKit
set_option linter.unusedVariables false
set_option linter.unusedSimpArgs false
set_option maxRecDepth 100000
set_option maxHeartbeats 8000000
attribute [local go_sem ↓] Go.wp_at_zero Go.wp_at_succ
theorem next_data (r : Rd1) (h : r.b.length ≤ 131072) : r.next.1.data.length ≤ 131072 := by
  have hp : (parseP r.b).data = [] := rfl
  unfold Rd1.next
  repeat' split
  all_goals first
    | (simp [noP]; done)
    | (simp [hp]; done)
    | (simp only [Rd1.d, List.length_take, List.length_drop]; omega)
theorem pduReads_walk (w : World) (o : Ag) (v : Value) (as_ : List Ac) (hv : AcsAt w v as_) :
    Calls Try.prog 6 #[agA o, v] w fun e w' => e = .returned (.bool true) ∧ Same w w' := by
  obtain ⟨A, cap, rfl, hlc, hcm, hels⟩ := hv
  have HKN := Lib.hid (fun W => known17_any W)
  have HOP := Lib.hid (fun W => opts_any o W)
  have HRR := Lib.hid (fun W => rright_any o W)
  have HEL := Lib.hid hels
  have hb0 : BoxC (w.alloc (.cells #[.bool o.hs, .bool o.ds, .int .i64 o.most] 24)) w.heap.size (agC o) := BoxC.newAt w (agC o) 24 w.heap.size rfl
  have hs0 : Same w (w.alloc (.cells #[.bool o.hs, .bool o.ds, .int .i64 o.most] 24)) := (Upd.refl _ w).alloc _
  clear hels
  unfold agA
  go_enter Try.func6, Try.ntmps6
  go_upto_region 1 with (fail)
  generalize w.alloc (.cells #[.bool o.hs, .bool o.ds, .int .i64 o.most] 24) = w0 at hb0 hs0 ⊢
  have c0 := hb0.1 0 _ rfl
  have c1 := hb0.1 1 _ rfl
  have c2 := hb0.1 2 _ rfl
  have HB0 := Lib.hid hb0
  have HS0 := Lib.hid hs0
  clear hb0 hs0
  go_wp2_with fail
  refine (HOP.out w0).mono ?_
  rintro e w1 ⟨rfl, hs1⟩
  have HS1 := Lib.hid (Same.trans HS0.out hs1)
  have HB1 := Lib.hid (HB0.out.upd (by simp [agC]) hs1 id)
  clear hs1 c0 c1 c2
  unfold agA
  go_wp2_with fail
  by_cases ho : o.right = true
  · refine (new_rd o ho w.heap.size w1 HS1.out.size).mono ?_
    rintro e w2 ⟨b1, rfl, hlb, hrd, hs2⟩
    have HS2 := Lib.hid (Same.trans HS1.out hs2)
    have hb2 := HB1.out.upd (by simp [agC]) hs2 id
    have c0 := hb2.1 0 _ rfl
    have c1 := hb2.1 1 _ rfl
    have c2 := hb2.1 2 _ rfl
    have HRD := Lib.hid hrd
    have HB2 := Lib.hid hb2
    clear hlb hrd hs2 hb2
    go_wp2_with fail
    refine (HRR.out w2).mono ?_
    rintro e w3 ⟨rfl, hs3⟩
    rw [ho]
    have HS3 := Lib.hid (Same.trans HS2.out hs3)
    have HRD3 := Lib.hid (HRD.out.same hs3)
    have hb3 := HB2.out.upd (by simp [agC]) hs3 id
    have c0 := hb3.1 0 _ rfl
    have c1 := hb3.1 1 _ rfl
    have c2 := hb3.1 2 _ rfl
    have hbd : ∀ W, (Instr.build 59 #[(0, .agg #[.bool o.hs, .bool o.ds, .int .i64 o.most])]).run Try.prog W = .ok (.agg #[.bool o.hs, .bool o.ds, .int .i64 o.most, .slice none 0 0, .bool false]) W := fun W => run_build W _ _ _ (by kernel_rfl)
    clear hs3 hb3 ho
    go_upto_region 7 with (fail)
    have hpp := PP.start HRD3.out HS3.out.size o 59
    have hs4 := HS3.out.alloc (.cells #[.bool o.hs, .bool o.ds, .int .i64 o.most, .slice none 0 0, .bool false] 59)
    generalize w3.alloc (.cells #[.bool o.hs, .bool o.ds, .int .i64 o.most, .slice none 0 0, .bool false] 59) = w4 at hpp hs4 ⊢
    generalize w3.heap.size = bq at hpp ⊢
    have hst : Same w w4 ∧ ∃ r : Rd1, r.b.length ≤ 131072 ∧ PP w.heap.size w4 b1 bq r r (fun _ => False) := ⟨hs4, _, by simp, hpp⟩
    have HST := Lib.hid hst
    clear hbd c0 c1 c2 hpp hs4 hst
    go_wp2_with fail
    go_loopw [8] (fun v8 wr => ∃ i : Nat, i ≤ as_.length ∧ i ≤ 60 ∧ v8 = .int .i64 i ∧ Hid (Same w wr ∧ ∃ r : Rd1, r.b.length ≤ 131072 ∧ PP w.heap.size wr b1 bq r r (fun _ => False))) (fun v8 _ => 60 - (intOf v8).toNat)
    case atStart => exact ⟨0, by omega, by omega, rfl, HST.out⟩
    case round =>
      obtain ⟨i, hi, hi60, rfl, hin⟩ := hrel
      by_cases hlt : i < as_.length ∧ i < 60
      · have g1 : (i : Int) < (as_.length : Int) := by omega
        have g2 : (i : Int) < 60 := by omega
        obtain ⟨lb, lo_, rfl, hac⟩ := HEL.out i hlt.1
        generalize as_[i]'hlt.1 = a at hac
        obtain ⟨a0, a1, a2, a3, a4, abs, abl, akr⟩ := hac
        have hlbs : lb < w.heap.size := World.block_lt_of_cell? w _ a0
        obtain ⟨kd, hkd⟩ : ∃ kd, kd = a.kind := ⟨_, rfl⟩
        rw [← hkd] at a0 akr
        obtain ⟨Ab, cb, hab, -⟩ := id abs
        rw [hab] at a1 abs
        have A0 := Lib.hid a0
        have A1 := Lib.hid a1
        have A2 := Lib.hid a2
        have A3 := Lib.hid a3
        have A4 := Lib.hid a4
        have ABS := Lib.hid abs
        have e0 := hin.out.1.cell a0 id
        have hii : i < as_.length := hlt.1
        generalize a.bB = bs at *
        generalize a.o = ao at *
        have HABL := Lib.hid abl
        clear a0 a1 a2 a3 a4 abs abl hkd hab
        go_upto_block 2 with (fail)
        go_cut [9, 10, 11, 12, 13, 14, 15, 16] from 49 to 182 (fun v9 v10 v11 v12 v13 v14 v15 v16 wx => Hid (Same w wx ∧ ∃ r : Rd1, r.b.length ≤ 131072 ∧ PP w.heap.size wx b1 bq r r (fun _ => False)))
        case first =>
          clear e0
          obtain ⟨hsw, r, hrl, hpp⟩ := hin.out
          have HSW := Lib.hid hsw
          have HRL := Lib.hid hrl
          have HPP := Lib.hid hpp
          clear hsw hrl hpp
          obtain ⟨F1, hF1⟩ : ∃ F1, F1 = decide (kd = 0 ∨ kd = 1 ∨ kd = 2) := ⟨_, rfl⟩
          obtain ⟨F2, hF2⟩ : ∃ F2, F2 = decide (kd = 3 ∨ kd = 4) := ⟨_, rfl⟩
          have HF1 := Lib.hid hF1
          have HF2 := Lib.hid hF2
          clear hF1 hF2
          go_upto_if 64 with (fail)
          go_cut [64] from 65 to 182 (fun v64 wx => v64 = .bool F1 ∧ wx = wr)
          case first => as_aux_lemma =>
            by_cases q0 : kd = 0
            · subst q0
              have he := HF1.out
              have HE := Lib.hid he
              clear he
              go_wp2_with fail
              go_meet
              exact ⟨by rw [HE.out]; rfl, rfl⟩
            · have q0b : (kd == 0) = false := by simpa using q0
              by_cases q1 : kd = 1
              · subst q1
                have HE := Lib.hid HF1.out
                go_wp2_with fail
                go_meet
                exact ⟨by rw [HE.out]; rfl, rfl⟩
              · have q1b : (kd == 1) = false := by simpa using q1
                have he : Value.bool (kd == 2) = .bool F1 := by
                  rw [HF1.out]
                  by_cases q2 : kd = 2
                  · subst q2; rfl
                  · rw [decide_eq_false (by omega), beq_eq_false_iff_ne.2 q2]
                have HE := Lib.hid he
                clear q0 q1 he
                go_wp2_with fail
                go_meet
                exact ⟨HE.out, rfl⟩
          case rest =>
          obtain ⟨rfl, rfl⟩ := hcut
          cases F1
          · go_upto_if 97 with (fail)
            go_cut [97] from 98 to 182 (fun v97 wx => v97 = .bool F2 ∧ wx = wc)
            case first => as_aux_lemma =>
              by_cases q0 : kd = 3
              · subst q0
                have HE := Lib.hid HF2.out
                go_wp2_with fail
                go_meet
                exact ⟨by rw [HE.out]; rfl, rfl⟩
              · have q0b : (kd == 3) = false := by simpa using q0
                have he : Value.bool (kd == 4) = .bool F2 := by
                  rw [HF2.out]
                  by_cases q2 : kd = 4
                  · subst q2; rfl
                  · rw [decide_eq_false (by omega), beq_eq_false_iff_ne.2 q2]
                have HE := Lib.hid he
                clear q0 he
                go_wp2_with fail
                go_meet
                exact ⟨HE.out, rfl⟩
            case rest =>
            obtain ⟨rfl, rfl⟩ := hcut
            cases F2
            · by_cases q5 : kd = 5
              · subst q5
                have a2 := HSW.out.cell A2.out id
                have a3 := HSW.out.cell A3.out id
                have a4 := HSW.out.cell A4.out id
                obtain ⟨v1, u1, p1, p2, p3, p4⟩ := id HPP.out
                have d4 := p2.2.1 4 _ rfl
                have d0 := p2.2.1 0 _ rfl
                have d1 := p2.2.1 1 _ rfl
                have d2 := p2.2.1 2 _ rfl
                have fz := p2.2.2.1
                unfold FzAt at fz
                clear p1 p2 p3 p4
                obtain ⟨want, hwant⟩ : ∃ x : Int, x = if r.dead then 21 else if ao.right then 0 else 1 := ⟨_, rfl⟩
                obtain ⟨r2, hr2⟩ : ∃ x, x = if r.dead then r else if ao.right then { r with o := ao } else r := ⟨_, rfl⟩
                have HWANT := Lib.hid hwant
                have HR2 := Lib.hid hr2
                clear hwant hr2
                go_upto_if 135 with (fail)
                go_cut [16] from 131 to 182 (fun v16 wx => v16 = .int .i64 want ∧ Same w wx ∧ PP w.heap.size wx b1 bq r r2 (fun _ => False))
                case first => as_aux_lemma =>
                  have hwr := HWANT.out
                  have hr2 := HR2.out
                  by_cases hd : r.dead = true
                  · rw [hd] at hwr hr2 ⊢
                    simp only [if_true] at hwr hr2
                    have hp := HPP.out
                    rw [← hr2] at hp
                    have HP := Lib.hid (show PP w.heap.size wc b1 bq r r2 (fun _ => False) from by rw [hr2]; exact HPP.out)
                    have HW2 := Lib.hid hwr
                    clear hd hwr hr2 hp d4
                    go_wp2_with fail
                    go_meet
                    exact ⟨by rw [HW2.out], HSW.out, HP.out⟩
                  · rw [Bool.not_eq_true] at hd
                    rw [hd] at hwr hr2 d4 ⊢
                    simp only [Bool.false_eq_true, if_false] at hwr hr2
                    have HRA := Lib.hid (fun W => rright_any ao W)
                    by_cases hr : ao.right = true
                    · have HW2 := Lib.hid hwr
                      have HR3 : Hid (r2 = { r with o := ao }) := by have h9 := HR2.out; simp only [hd, hr, Bool.false_eq_true, if_false, if_true] at h9 ⊢; exact h9
                      rw [hr] at HW2 HRA
                      simp only [if_true] at HW2
                      clear hd hwr hr2 d4 hr
                      go_wp2_with fail
                      refine (HRA.out wc).mono ?_
                      rintro e w5 ⟨rfl, hs5⟩
                      have HS5 := Lib.hid (Same.trans HSW.out hs5)
                      have HP5 := Lib.hid (HPP.out.same hs5)
                      have a2 := hs5.cell a2 id
                      have a3 := hs5.cell a3 id
                      have a4 := hs5.cell a4 id
                      obtain ⟨v1, u1, p1, p2, p3, p4⟩ := id HP5.out
                      have d0 := p2.2.1 0 _ rfl
                      have d1 := p2.2.1 1 _ rfl
                      have d2 := p2.2.1 2 _ rfl
                      have fz := p2.2.2.1
                      unfold FzAt at fz
                      clear p1 p2 p3 p4 hs5
                      go_wp2_with fail
                      go_meet
                      have hq := HP5.out.setq ao
                      refine ⟨by rw [HW2.out], hq.2.into HS5.out (Nat.le_refl _), ?_⟩
                      rw [HR3.out]
                      exact hq.1
                    · rw [Bool.not_eq_true] at hr
                      have HW2 := Lib.hid hwr
                      have HR3 := Lib.hid hr2
                      rw [hr] at HW2 HR3 HRA
                      simp only [Bool.false_eq_true, if_false] at HW2 HR3
                      clear hd hwr hr2 d4 hr
                      go_wp2_with fail
                      refine (HRA.out wc).mono ?_
                      rintro e w5 ⟨rfl, hs5⟩
                      have HS5 := Lib.hid (Same.trans HSW.out hs5)
                      have HP5 := Lib.hid (HPP.out.same hs5)
                      clear hs5
                      go_wp2_with fail
                      go_meet
                      exact ⟨by rw [HW2.out], HS5.out, by rw [HR3.out]; exact HP5.out⟩
                case rest =>
                obtain ⟨rfl, hs5, hp5⟩ := hcut
                have HS5 := Lib.hid hs5
                have HP5 := Lib.hid hp5
                have b2 := hs5.cell A2.out id
                have b3 := hs5.cell A3.out id
                have b4 := hs5.cell A4.out id
                have HOA := Lib.hid (fun W => opts_any ao W)
                have hrl2 : r2.b.length ≤ 131072 := by rw [HR2.out]; have := HRL.out; split <;> (try split) <;> exact this
                have HRL2 := Lib.hid hrl2
                clear a2 a3 a4 d0 d1 d2 d4 fz hs5 hp5 hrl2
                go_wp2_with fail
                refine (HOA.out _).mono ?_
                rintro e w6 ⟨rfl, hs6⟩
                have HS6 := Lib.hid (Same.trans HS5.out hs6)
                have HP6 := Lib.hid (HP5.out.same hs6)
                clear hs6 b2 b3 b4
                unfold agA
                go_wp2_with fail
                refine (HP6.out.set ao).mono ?_
                rw [← HWANT.out, ← HR2.out]
                rintro e w7 ⟨rfl, hp7, has7⟩
                have HS7 := Lib.hid (has7.into HS6.out (Nat.le_refl _))
                have HP7 := Lib.hid hp7
                have hww : (want != want) = false := by simp
                clear hp7 has7
                go_wp2_with fail
                go_meet
                exact ⟨HS7.out, r2, HRL2.out, HP7.out⟩
              · have q5b : (kd == 5) = false := by simpa using q5
                clear q5
                go_wp2_with fail
                go_meet
                exact ⟨HSW.out, r, HRL.out, HPP.out⟩
            · go_upto_region 20 with (fail)
              go_wp2_with fail
              refine (HPP.out.next HSW.out.size HRL.out).mono ?_
              rintro e w5 ⟨Aa, na, ca, rfl, hfa, hp5, has5⟩
              obtain ⟨x, hx⟩ : ∃ x, x = r.next := ⟨_, rfl⟩
              have hxl := next_len r HRL.out
              have hdl := next_data r HRL.out
              rw [← hx] at hfa hp5 hxl hdl ⊢
              have HX := Lib.hid hx
              have hs5 := has5.into HSW.out (Nat.le_refl _)
              clear hx has5
              obtain ⟨x, E4, ok4, r4⟩ := x
              dsimp only at hfa hp5 hxl hdl ⊢
              have HDL := Lib.hid hdl
              clear hdl
              unfold pdA
              go_upto_region 21 with (fail)
              have hbx := BoxC.newAt w5 (pdC x (.slice Aa na ca)) 40 w5.heap.size rfl
              have hsx : Same w5 (w5.alloc (.cells #[.int .i64 x.op, .bool x.now, .int .i64 x.flags, .int .i64 x.b2, .int .i64 x.b3, .int .u64 x.lun, .int .u32 x.task, .int .u32 (wd x 0), .int .u32 (wd x 1), .int .u32 (wd x 2), .int .u32 (wd x 3), .int .u32 (wd x 4), .int .u32 (wd x 5), .int .u32 (wd x 6), .slice Aa na ca] 40)) := (Upd.refl _ _).alloc _
              have hzx : w5.heap.size < (w5.alloc (.cells #[.int .i64 x.op, .bool x.now, .int .i64 x.flags, .int .i64 x.b2, .int .i64 x.b3, .int .u64 x.lun, .int .u32 x.task, .int .u32 (wd x 0), .int .u32 (wd x 1), .int .u32 (wd x 2), .int .u32 (wd x 3), .int .u32 (wd x 4), .int .u32 (wd x 5), .int .u32 (wd x 6), .slice Aa na ca] 40)).heap.size := by simp
              have hp6 := hp5.more (T := fun k => room (.slice Aa na ca) = some k ∨ k = w5.heap.size) hsx (fun k hk => by
                rcases hk with hk | rfl
                · exact .inl (.inr hk)
                · exact .inr ⟨Nat.le_refl _, hzx⟩)
              have hfa6 := hfa.same hsx
              have hs6 := Same.trans hs5 hsx
              simp only [pdC, List.toArray] at hbx
              generalize w5.alloc (.cells #[.int .i64 x.op, .bool x.now, .int .i64 x.flags, .int .i64 x.b2, .int .i64 x.b3, .int .u64 x.lun, .int .u32 x.task, .int .u32 (wd x 0), .int .u32 (wd x 1), .int .u32 (wd x 2), .int .u32 (wd x 3), .int .u32 (wd x 4), .int .u32 (wd x 5), .int .u32 (wd x 6), .slice Aa na ca] 40) = w6 at hbx hsx hzx hp6 hfa6 hs6 ⊢
              have hB10 : BoxAt w6 w5.heap.size x (.slice Aa na ca) := hbx.1
              have hfz10 : FzAt w6 w5.heap.size := hbx.2
              have hb10w : w.heap.size ≤ w5.heap.size := hs5.size
              generalize w5.heap.size = B10 at hB10 hfz10 hp6 hb10w hzx ⊢
              have HP6 := Lib.hid hp6
              have HFA6 := Lib.hid hfa6
              have HS6 := Lib.hid hs6
              have HB10 := Lib.hid hB10
              clear hbx hsx hp5 hfa hs5 hp6 hfa6 hs6 hB10
              go_wp2_with fail
              refine (HP6.out.rnext HS6.out.size HRL.out).mono ?_
              rw [← HX.out]
              rintro e w7 ⟨Ac_, nc, cc, rfl, hfc, hp7, has7⟩
              dsimp only at hfc hp7 ⊢
              have hs7 := has7.into HS6.out (Nat.le_refl _)
              have hB7 : BoxAt w7 B10 x (.slice Aa na ca) := by
                obtain ⟨U, hu, hk, hn⟩ := has7
                exact fun j u hj => hu.cell (HB10.out j u hj) (hn B10 (.inr rfl))
              have hfa7 : Fresh wc.heap.size w7 (.slice Aa na ca) x.data := by
                obtain ⟨U, hu, hk, hn⟩ := has7
                exact HFA6.out.upd hu (fun k hk => hn k (.inl hk))
              clear has7
              unfold pdA
              go_upto_region 22 with (fail)
              have hby := BoxC.newAt w7 (pdC x (.slice Ac_ nc cc)) 42 w7.heap.size rfl
              have hsy : Same w7 (w7.alloc (.cells #[.int .i64 x.op, .bool x.now, .int .i64 x.flags, .int .i64 x.b2, .int .i64 x.b3, .int .u64 x.lun, .int .u32 x.task, .int .u32 (wd x 0), .int .u32 (wd x 1), .int .u32 (wd x 2), .int .u32 (wd x 3), .int .u32 (wd x 4), .int .u32 (wd x 5), .int .u32 (wd x 6), .slice Ac_ nc cc] 42)) := (Upd.refl _ _).alloc _
              simp only [pdC, List.toArray] at hby
              have hp8 := hp7.same hsy
              have hs8 := Same.trans hs7 hsy
              have hB8 := hB7.same hsy
              have hfa8 := hfa7.same hsy
              have hfc8 := hfc.bs.same hsy
              generalize w7.alloc (.cells #[.int .i64 x.op, .bool x.now, .int .i64 x.flags, .int .i64 x.b2, .int .i64 x.b3, .int .u64 x.lun, .int .u32 x.task, .int .u32 (wd x 0), .int .u32 (wd x 1), .int .u32 (wd x 2), .int .u32 (wd x 3), .int .u32 (wd x 4), .int .u32 (wd x 5), .int .u32 (wd x 6), .slice Ac_ nc cc] 42) = w8 at hby hsy hp8 hs8 hB8 hfa8 hfc8 ⊢
              have hB13 : BoxAt w8 w7.heap.size x (.slice Ac_ nc cc) := hby.1
              generalize w7.heap.size = B13 at hB13 ⊢
              have HP8 := Lib.hid hp8
              have HS8 := Lib.hid hs8
              have HB8 := Lib.hid hB8
              have HB13 := Lib.hid hB13
              have HFA8 := Lib.hid hfa8
              have HFC8 := Lib.hid hfc8
              clear hby hsy hp7 hp8 hs7 hs8 hB7 hB8 hfa7 hfa8 hfc hfc8 hB13 hfz10
              have hee : (E4 != E4) = false := by simp
              have hoo : (ok4 != ok4) = false := by simp
              go_cut [126] from 112 to 182 (fun v126 wx => v126 = .bool false ∧ Same w8 wx)
              case first => as_aux_lemma =>
                have hS0 : BoxAt w8.drew B10 x (.slice Aa na ca) ∧ BoxAt w8.drew B13 x (.slice Ac_ nc cc) := ⟨HB8.out.same (Upd.refl _ _).drew, HB13.out.same (Upd.refl _ _).drew⟩
                refine wp_region_noPanic ?_
                refine wp_region_need (fun w' => BoxAt w' B10 x (.slice Aa na ca) ∧ BoxAt w' B13 x (.slice Ac_ nc cc)) (fun _ => true) (by kernel_rfl) (fun hcl => ?_)
                refine wpAnyN_take (i := 0) (v := ?_) rfl (by as_aux_lemma => kernel_rfl) (by as_aux_lemma => kernel_rfl) (by as_aux_lemma => kernel_rfl) (by as_aux_lemma => kernel_rfl) (fun _ _ _ h => h) (by assumption) hS0 (Or.inl ⟨by rfl, ?_⟩) (fun hcl0 => ?_)
                rotate_left
                · (intro wS hSw; (obtain ⟨hSa, hSb⟩ := hSw); (have k0 := hSa 0 _ rfl); (have k1 := hSa 1 _ rfl); (have k2 := hSa 2 _ rfl); (have k3 := hSa 3 _ rfl); (have k4 := hSa 4 _ rfl); (have k5 := hSa 5 _ rfl); (have k6 := hSa 6 _ rfl); (have k7 := hSa 7 _ rfl); (have k8 := hSa 8 _ rfl); (have k9 := hSa 9 _ rfl); (have k10 := hSa 10 _ rfl); (have k11 := hSa 11 _ rfl); (have k12 := hSa 12 _ rfl); (have k13 := hSa 13 _ rfl); (have k14 := hSa 14 _ rfl); go_simp; (try with_reducible rfl))
                clear hcl
                try simp only [Act.put, List.getElem_toArray, List.getElem_cons_succ, List.getElem_cons_zero, List.setIfInBounds_toArray, List.set_cons_zero, List.set_cons_succ]
                refine wpAnyN_take (i := 2) (v := ?_) rfl (by as_aux_lemma => kernel_rfl) (by as_aux_lemma => kernel_rfl) (by as_aux_lemma => kernel_rfl) (by as_aux_lemma => kernel_rfl) (fun _ _ _ h => h) (by assumption) hS0 (Or.inl ⟨by rfl, ?_⟩) (fun hcl2 => ?_)
                rotate_left
                · (intro wS hSw; (obtain ⟨hSa, hSb⟩ := hSw); (have k0 := hSb 0 _ rfl); (have k1 := hSb 1 _ rfl); (have k2 := hSb 2 _ rfl); (have k3 := hSb 3 _ rfl); (have k4 := hSb 4 _ rfl); (have k5 := hSb 5 _ rfl); (have k6 := hSb 6 _ rfl); (have k7 := hSb 7 _ rfl); (have k8 := hSb 8 _ rfl); (have k9 := hSb 9 _ rfl); (have k10 := hSb 10 _ rfl); (have k11 := hSb 11 _ rfl); (have k12 := hSb 12 _ rfl); (have k13 := hSb 13 _ rfl); (have k14 := hSb 14 _ rfl); go_simp; (try with_reducible rfl))
                clear hcl0
                try simp only [Act.put, List.getElem_toArray, List.getElem_cons_succ, List.getElem_cons_zero, List.setIfInBounds_toArray, List.set_cons_zero, List.set_cons_succ]
                refine wpAnyN_oneC (i := 1) (by as_aux_lemma => kernel_rfl) rfl (by assumption) (fun hcl1 K' hK' => ?_)
                clear hcl2
                go_simp
                go_at_call 18
                refine (taken_any x Aa na ca _).mono ?_
                rintro e wt ⟨rfl, hst⟩
                have hS1 : BoxAt wt B10 x (.slice Aa na ca) ∧ BoxAt wt B13 x (.slice Ac_ nc cc) := ⟨hS0.1.same hst, hS0.2.same hst⟩
                have HT1 := Lib.hid (Same.trans (Upd.refl (fun _ => False) w8).drew hst)
                clear hst
                unfold pdA
                refine hK'.out _ _ (fun _ => hS1) ?_
                clear hK' K'
                try simp only [Act.put, List.getElem_toArray, List.getElem_cons_succ, List.getElem_cons_zero, List.setIfInBounds_toArray, List.set_cons_zero, List.set_cons_succ]
                refine wpAnyN_oneC (i := 3) (by as_aux_lemma => kernel_rfl) rfl (by assumption) (fun hcl3 K' hK' => ?_)
                clear hcl1
                go_simp
                go_at_call 17
                refine (same_any x Aa Ac_ na nc ca cc _ (HFA8.out.bs.same HT1.out) (HFC8.out.same HT1.out)).mono ?_
                rintro e wt2 ⟨rfl, hst⟩
                have hS2 : BoxAt wt2 B10 x (.slice Aa na ca) ∧ BoxAt wt2 B13 x (.slice Ac_ nc cc) := ⟨hS1.1.same hst, hS1.2.same hst⟩
                have HT2 := Lib.hid (Same.trans HT1.out hst)
                clear hst
                refine hK'.out _ _ (fun _ => hS2) ?_
                clear hK' K'
                try simp only [Act.put, List.getElem_toArray, List.getElem_cons_succ, List.getElem_cons_zero, List.setIfInBounds_toArray, List.set_cons_zero, List.set_cons_succ]
                refine wpAnyN_take (i := 4) (v := ?_) rfl (by as_aux_lemma => kernel_rfl) (by as_aux_lemma => kernel_rfl) (by as_aux_lemma => kernel_rfl) (by as_aux_lemma => kernel_rfl) (fun _ _ _ h => h) (by assumption) hS2 (Or.inl ⟨by rfl, ?_⟩) (fun hcl4 => ?_)
                rotate_left
                · (intro wS hSw; (obtain ⟨hSa, hSb⟩ := hSw); go_simp; (try with_reducible rfl))
                clear hcl3
                try simp only [Act.put, List.getElem_toArray, List.getElem_cons_succ, List.getElem_cons_zero, List.setIfInBounds_toArray, List.set_cons_zero, List.set_cons_succ]
                refine wpAnyN_take (i := 5) (v := ?_) rfl (by as_aux_lemma => kernel_rfl) (by as_aux_lemma => kernel_rfl) (by as_aux_lemma => kernel_rfl) (by as_aux_lemma => kernel_rfl) (fun _ _ _ h => h) (by assumption) hS2 (Or.inl ⟨by rfl, ?_⟩) (fun hcl5 => ?_)
                rotate_left
                · (intro wS hSw; (obtain ⟨hSa, hSb⟩ := hSw); go_simp; (try with_reducible rfl))
                clear hcl4
                try simp only [Act.put, List.getElem_toArray, List.getElem_cons_succ, List.getElem_cons_zero, List.setIfInBounds_toArray, List.set_cons_zero, List.set_cons_succ]
                refine wpAnyN_take (i := 6) (v := ?_) rfl (by as_aux_lemma => kernel_rfl) (by as_aux_lemma => kernel_rfl) (by as_aux_lemma => kernel_rfl) (by as_aux_lemma => kernel_rfl) (fun _ _ _ h => h) (by assumption) hS2 (Or.inl ⟨by rfl, ?_⟩) (fun hcl6 => ?_)
                rotate_left
                · (intro wS hSw; (obtain ⟨hSa, hSb⟩ := hSw); go_simp; (try with_reducible rfl))
                clear hcl5
                try simp only [Act.put, List.getElem_toArray, List.getElem_cons_succ, List.getElem_cons_zero, List.setIfInBounds_toArray, List.set_cons_zero, List.set_cons_succ]
                refine wpAnyN_take (i := 7) (v := ?_) rfl (by as_aux_lemma => kernel_rfl) (by as_aux_lemma => kernel_rfl) (by as_aux_lemma => kernel_rfl) (by as_aux_lemma => kernel_rfl) (fun _ _ _ h => h) (by assumption) hS2 (Or.inl ⟨by rfl, ?_⟩) (fun hcl7 => ?_)
                rotate_left
                · (intro wS hSw; (obtain ⟨hSa, hSb⟩ := hSw); go_simp; (try with_reducible rfl))
                clear hcl6
                try simp only [Act.put, List.getElem_toArray, List.getElem_cons_succ, List.getElem_cons_zero, List.setIfInBounds_toArray, List.set_cons_zero, List.set_cons_succ]
                refine wpAnyN_take (i := 8) (v := ?_) rfl (by as_aux_lemma => kernel_rfl) (by as_aux_lemma => kernel_rfl) (by as_aux_lemma => kernel_rfl) (by as_aux_lemma => kernel_rfl) (fun _ _ _ h => h) (by assumption) hS2 (Or.inl ⟨by rfl, ?_⟩) (fun hcl8 => ?_)
                rotate_left
                · (intro wS hSw; (obtain ⟨hSa, hSb⟩ := hSw); go_simp; (try with_reducible rfl))
                clear hcl7
                try simp only [Act.put, List.getElem_toArray, List.getElem_cons_succ, List.getElem_cons_zero, List.setIfInBounds_toArray, List.set_cons_zero, List.set_cons_succ]
                refine wpAnyN_take (i := 9) (v := ?_) rfl (by as_aux_lemma => kernel_rfl) (by as_aux_lemma => kernel_rfl) (by as_aux_lemma => kernel_rfl) (by as_aux_lemma => kernel_rfl) (fun _ _ _ h => h) (by assumption) hS2 (Or.inl ⟨by rfl, ?_⟩) (fun hcl9 => ?_)
                rotate_left
                · (intro wS hSw; (obtain ⟨hSa, hSb⟩ := hSw); go_simp; (try with_reducible rfl))
                clear hcl8
                try simp only [Act.put, List.getElem_toArray, List.getElem_cons_succ, List.getElem_cons_zero, List.setIfInBounds_toArray, List.set_cons_zero, List.set_cons_succ]
                refine wpAnyN_take (i := 10) (v := ?_) rfl (by as_aux_lemma => kernel_rfl) (by as_aux_lemma => kernel_rfl) (by as_aux_lemma => kernel_rfl) (by as_aux_lemma => kernel_rfl) (fun _ _ _ h => h) (by assumption) hS2 (Or.inl ⟨by rfl, ?_⟩) (fun hcl10 => ?_)
                rotate_left
                · (intro wS hSw; (obtain ⟨hSa, hSb⟩ := hSw); go_simp; (try with_reducible rfl))
                clear hcl9
                try simp only [Act.put, List.getElem_toArray, List.getElem_cons_succ, List.getElem_cons_zero, List.setIfInBounds_toArray, List.set_cons_zero, List.set_cons_succ]
                refine wpAnyN_take (i := 11) (v := ?_) rfl (by as_aux_lemma => kernel_rfl) (by as_aux_lemma => kernel_rfl) (by as_aux_lemma => kernel_rfl) (by as_aux_lemma => kernel_rfl) (fun _ _ _ h => h) (by assumption) hS2 (Or.inl ⟨by rfl, ?_⟩) (fun hcl11 => ?_)
                rotate_left
                · (intro wS hSw; (obtain ⟨hSa, hSb⟩ := hSw); go_simp; (try with_reducible rfl))
                clear hcl10
                try simp only [Act.put, List.getElem_toArray, List.getElem_cons_succ, List.getElem_cons_zero, List.setIfInBounds_toArray, List.set_cons_zero, List.set_cons_succ]
                refine wpAnyN_take (i := 12) (v := ?_) rfl (by as_aux_lemma => kernel_rfl) (by as_aux_lemma => kernel_rfl) (by as_aux_lemma => kernel_rfl) (by as_aux_lemma => kernel_rfl) (fun _ _ _ h => h) (by assumption) hS2 (Or.inl ⟨by rfl, ?_⟩) (fun hcl12 => ?_)
                rotate_left
                · (intro wS hSw; (obtain ⟨hSa, hSb⟩ := hSw); go_simp; (try with_reducible rfl))
                clear hcl11
                try simp only [Act.put, List.getElem_toArray, List.getElem_cons_succ, List.getElem_cons_zero, List.setIfInBounds_toArray, List.set_cons_zero, List.set_cons_succ]
                refine wpAnyN_take (i := 13) (v := ?_) rfl (by as_aux_lemma => kernel_rfl) (by as_aux_lemma => kernel_rfl) (by as_aux_lemma => kernel_rfl) (by as_aux_lemma => kernel_rfl) (fun _ _ _ h => h) (by assumption) hS2 (Or.inl ⟨by rfl, ?_⟩) (fun hcl13 => ?_)
                rotate_left
                · (intro wS hSw; (obtain ⟨hSa, hSb⟩ := hSw); go_simp; (try with_reducible rfl))
                clear hcl12
                try simp only [Act.put, List.getElem_toArray, List.getElem_cons_succ, List.getElem_cons_zero, List.setIfInBounds_toArray, List.set_cons_zero, List.set_cons_succ]
                refine wpAnyN_take (i := 14) (v := ?_) rfl (by as_aux_lemma => kernel_rfl) (by as_aux_lemma => kernel_rfl) (by as_aux_lemma => kernel_rfl) (by as_aux_lemma => kernel_rfl) (fun _ _ _ h => h) (by assumption) hS2 (Or.inl ⟨by rfl, ?_⟩) (fun hcl14 => ?_)
                rotate_left
                · (intro wS hSw; (obtain ⟨hSa, hSb⟩ := hSw); go_simp; (try with_reducible rfl))
                clear hcl13
                try simp only [Act.put, List.getElem_toArray, List.getElem_cons_succ, List.getElem_cons_zero, List.setIfInBounds_toArray, List.set_cons_zero, List.set_cons_succ]
                refine wpAnyN_done (by as_aux_lemma => kernel_rfl) ?_ _
                refine NoPanic.normal ?_
                go_wp2_with fail
                go_meet
                exact ⟨rfl, HT2.out⟩
              case rest =>
              obtain ⟨rfl, hs9⟩ := hcut
              have HS9 := Lib.hid (Same.trans HS8.out hs9)
              have HP9 := Lib.hid (HP8.out.same hs9)
              have HFA9 := Lib.hid (HFA8.out.same hs9)
              have c14 := (HB8.out.same hs9) 14 _ rfl
              clear hs9 hee hoo
              go_wp2_with fail
              refine (spoil_bs (base := w.heap.size) _ x.data _ (HFA9.out.mono HSW.out.size) HS9.out.size (by have := HDL.out; omega)).mono ?_
              rintro e w10 ⟨rfl, hu10⟩
              have HS10 := Lib.hid (Same.into HS9.out hu10 (fun k hk => Nat.le_trans HSW.out.size (HFA9.out.ge k hk).1))
              have HP10 := Lib.hid (((HP9.out.mono (T := fun k => room (.slice Aa na ca) = some k) (fun k hk => .inl hk)).off hu10).mono (T := fun _ => False) (fun _ h => h.elim))
              clear hu10 c14
              dsimp only
              go_wp2_with fail
              go_meet
              exact ⟨HS10.out, _, hxl, HP10.out⟩
          · have e1 := HSW.out.cell A1.out id
            go_wp2_with fail
            refine (lent_bs _ bs wc (ABS.out.same HSW.out) (by have := HABL.out; omega)).mono ?_
            rintro e w5 ⟨v5, rfl, hlent, hs5⟩
            obtain ⟨A5, n5, cp5, rfl⟩ := Fresh.shape hlent.fresh
            have HLENT := Lib.hid hlent
            have HS5 := Lib.hid (Same.trans HSW.out hs5)
            have HP5 := Lib.hid (HPP.out.more (T := fun k => room (.slice A5 n5 cp5) = some k) hs5 (fun k hk => .inr (hlent.room k hk)))
            have HN5 := Lib.hid hlent.bs.capL
            clear hlent hs5 e1
            go_upto_region 15 with (fail)
            go_cut [94] from 64 to 182 (fun v94 wx => v94 = .bool false ∧ Same w wx ∧ PP w.heap.size wx b1 bq (r.feed bs) (r.feed bs) (fun k => room (.slice A5 n5 cp5) = some k) ∧ Lentd wc.heap.size wx (.slice A5 n5 cp5) bs)
            case first => as_aux_lemma =>
              obtain ⟨E, hE⟩ : ∃ E, E = r.feedE bs.length := ⟨_, rfl⟩
              have hee : (E != E) = false := by simp
              have HE := Lib.hid hE
              have hS0 : w5.drew.cell? ⟨lb, lo_ + i * 5 + 1, none⟩ = some (.slice Ab bs.length cb) := (HS5.out.drew).cell A1.out id
              have HP0 := Lib.hid (HP5.out.same (Upd.refl _ _).drew)
              have HL0 := Lib.hid (HLENT.out.same (Upd.refl _ _).drew)
              have HS0 := Lib.hid HS5.out.drew
              clear hE
              refine wp_region_noPanic ?_
              refine wp_region_need (fun w' => w'.cell? ⟨lb, lo_ + i * 5 + 1, none⟩ = some (.slice Ab bs.length cb)) (fun _ => true) (by kernel_rfl) (fun hcl => ?_)
              refine wpAnyN_take (i := 0) (v := ?_) rfl (by as_aux_lemma => kernel_rfl) (by as_aux_lemma => kernel_rfl) (by as_aux_lemma => kernel_rfl) (by as_aux_lemma => kernel_rfl) (fun _ _ _ h => h) (by assumption) hS0 (Or.inl ⟨by rfl, ?_⟩) (fun hcl0 => ?_)
              rotate_left
              · (intro wS hSw; (try dsimp only at hSw); go_simp; (try with_reducible rfl))
              clear hcl
              try simp only [Act.put, List.getElem_toArray, List.getElem_cons_succ, List.getElem_cons_zero, List.setIfInBounds_toArray, List.set_cons_zero, List.set_cons_succ]
              refine wpAnyN_take (i := 1) (v := ?_) rfl (by as_aux_lemma => kernel_rfl) (by as_aux_lemma => kernel_rfl) (by as_aux_lemma => kernel_rfl) (by as_aux_lemma => kernel_rfl) (fun _ _ _ h => h) (by assumption) hS0 (Or.inl ⟨by rfl, ?_⟩) (fun hcl1 => ?_)
              rotate_left
              · (intro wS hSw; (try dsimp only at hSw); go_simp; (try with_reducible rfl))
              clear hcl0
              try simp only [Act.put, List.getElem_toArray, List.getElem_cons_succ, List.getElem_cons_zero, List.setIfInBounds_toArray, List.set_cons_zero, List.set_cons_succ]
              refine wpAnyN_take (i := 3) (v := ?_) rfl (by as_aux_lemma => kernel_rfl) (by as_aux_lemma => kernel_rfl) (by as_aux_lemma => kernel_rfl) (by as_aux_lemma => kernel_rfl) (fun _ _ _ h => h) (by assumption) hS0 (Or.inl ⟨by rfl, ?_⟩) (fun hcl3 => ?_)
              rotate_left
              · (intro wS hSw; (try dsimp only at hSw); go_simp; (try with_reducible rfl))
              clear hcl1
              try simp only [Act.put, List.getElem_toArray, List.getElem_cons_succ, List.getElem_cons_zero, List.setIfInBounds_toArray, List.set_cons_zero, List.set_cons_succ]
              refine wpAnyN_take (i := 4) (v := ?_) rfl (by as_aux_lemma => kernel_rfl) (by as_aux_lemma => kernel_rfl) (by as_aux_lemma => kernel_rfl) (by as_aux_lemma => kernel_rfl) (fun _ _ _ h => h) (by assumption) hS0 (Or.inl ⟨by rfl, ?_⟩) (fun hcl4 => ?_)
              rotate_left
              · (intro wS hSw; (try dsimp only at hSw); go_simp; (try with_reducible rfl))
              clear hcl3
              try simp only [Act.put, List.getElem_toArray, List.getElem_cons_succ, List.getElem_cons_zero, List.setIfInBounds_toArray, List.set_cons_zero, List.set_cons_succ]
              refine wpAnyN_take (i := 5) (v := ?_) rfl (by as_aux_lemma => kernel_rfl) (by as_aux_lemma => kernel_rfl) (by as_aux_lemma => kernel_rfl) (by as_aux_lemma => kernel_rfl) (fun _ _ _ h => h) (by assumption) hS0 (Or.inl ⟨by rfl, ?_⟩) (fun hcl5 => ?_)
              rotate_left
              · (intro wS hSw; (try dsimp only at hSw); go_simp; (try with_reducible rfl))
              clear hcl4
              try simp only [Act.put, List.getElem_toArray, List.getElem_cons_succ, List.getElem_cons_zero, List.setIfInBounds_toArray, List.set_cons_zero, List.set_cons_succ]
              refine wpAnyN_take (i := 6) (v := ?_) rfl (by as_aux_lemma => kernel_rfl) (by as_aux_lemma => kernel_rfl) (by as_aux_lemma => kernel_rfl) (by as_aux_lemma => kernel_rfl) (fun _ _ _ h => h) (by assumption) hS0 (Or.inl ⟨by rfl, ?_⟩) (fun hcl6 => ?_)
              rotate_left
              · (intro wS hSw; (try dsimp only at hSw); go_simp; (try with_reducible rfl))
              clear hcl5
              try simp only [Act.put, List.getElem_toArray, List.getElem_cons_succ, List.getElem_cons_zero, List.setIfInBounds_toArray, List.set_cons_zero, List.set_cons_succ]
              refine wpAnyN_take (i := 7) (v := ?_) rfl (by as_aux_lemma => kernel_rfl) (by as_aux_lemma => kernel_rfl) (by as_aux_lemma => kernel_rfl) (by as_aux_lemma => kernel_rfl) (fun _ _ _ h => h) (by assumption) hS0 (Or.inl ⟨by rfl, ?_⟩) (fun hcl7 => ?_)
              rotate_left
              · (intro wS hSw; (try dsimp only at hSw); go_simp; (try with_reducible rfl))
              clear hcl6
              try simp only [Act.put, List.getElem_toArray, List.getElem_cons_succ, List.getElem_cons_zero, List.setIfInBounds_toArray, List.set_cons_zero, List.set_cons_succ]
              refine wpAnyN_take (i := 8) (v := ?_) rfl (by as_aux_lemma => kernel_rfl) (by as_aux_lemma => kernel_rfl) (by as_aux_lemma => kernel_rfl) (by as_aux_lemma => kernel_rfl) (fun _ _ _ h => h) (by assumption) hS0 (Or.inl ⟨by rfl, ?_⟩) (fun hcl8 => ?_)
              rotate_left
              · (intro wS hSw; (try dsimp only at hSw); go_simp; (try with_reducible rfl))
              clear hcl7
              try simp only [Act.put, List.getElem_toArray, List.getElem_cons_succ, List.getElem_cons_zero, List.setIfInBounds_toArray, List.set_cons_zero, List.set_cons_succ]
              refine wpAnyN_oneC (i := 2) (by as_aux_lemma => kernel_rfl) rfl (by assumption) (fun hcl2 K' hK' => ?_)
              clear hcl8
              go_simp
              go_at_call 15
              refine (HP0.out.feed HS0.out.size HRL.out A5 n5 cp5 bs HL0.out.bs (by have := HABL.out; omega)).mono ?_
              rintro e w6 ⟨rfl, hp6, has6⟩
              rw [← HE.out]
              have HP6 := Lib.hid hp6
              have HL6 : Hid (Lentd wc.heap.size w6 (.slice A5 n5 cp5) bs) := by obtain ⟨U, hu, hk, hn⟩ := has6; exact HL0.out.upd hu hn
              have HS6 := Lib.hid (has6.into HS0.out (Nat.le_refl _))
              have hS1 : w6.cell? ⟨lb, lo_ + i * 5 + 1, none⟩ = some (.slice Ab bs.length cb) := HS6.out.cell A1.out id
              clear hp6 has6
              refine hK'.out _ _ (fun _ => hS1) ?_
              clear hK' K'
              try simp only [Act.put, List.getElem_toArray, List.getElem_cons_succ, List.getElem_cons_zero, List.setIfInBounds_toArray, List.set_cons_zero, List.set_cons_succ]
              refine wpAnyN_oneC (i := 9) (by as_aux_lemma => kernel_rfl) rfl (by assumption) (fun hcl9 K' hK' => ?_)
              clear hcl2
              go_simp
              go_at_call 24
              refine (HP6.out.rfeed HS6.out.size HRL.out Ab bs.length cb bs (ABS.out.same HS6.out) (by have := HABL.out; omega)).mono ?_
              rintro e w7 ⟨rfl, hp7, has7⟩
              rw [← HE.out]
              have HP7 := Lib.hid hp7
              have HL7 : Hid (Lentd wc.heap.size w7 (.slice A5 n5 cp5) bs) := by obtain ⟨U, hu, hk, hn⟩ := has7; exact HL6.out.upd hu hn
              have HS7 := Lib.hid (has7.into HS6.out (Nat.le_refl _))
              have hS2 : w7.cell? ⟨lb, lo_ + i * 5 + 1, none⟩ = some (.slice Ab bs.length cb) := HS7.out.cell A1.out id
              clear hp7 has7
              refine hK'.out _ _ (fun _ => hS2) ?_
              clear hK' K'
              try simp only [Act.put, List.getElem_toArray, List.getElem_cons_succ, List.getElem_cons_zero, List.setIfInBounds_toArray, List.set_cons_zero, List.set_cons_succ]
              refine wpAnyN_take (i := 10) (v := ?_) rfl (by as_aux_lemma => kernel_rfl) (by as_aux_lemma => kernel_rfl) (by as_aux_lemma => kernel_rfl) (by as_aux_lemma => kernel_rfl) (fun _ _ _ h => h) (by assumption) hS2 (Or.inl ⟨by rfl, ?_⟩) (fun hcl10 => ?_)
              rotate_left
              · (intro wS hSw; (try dsimp only at hSw); go_simp; (try with_reducible rfl))
              clear hcl9
              try simp only [Act.put, List.getElem_toArray, List.getElem_cons_succ, List.getElem_cons_zero, List.setIfInBounds_toArray, List.set_cons_zero, List.set_cons_succ]
              refine wpAnyN_take (i := 11) (v := ?_) rfl (by as_aux_lemma => kernel_rfl) (by as_aux_lemma => kernel_rfl) (by as_aux_lemma => kernel_rfl) (by as_aux_lemma => kernel_rfl) (fun _ _ _ h => h) (by assumption) hS2 (Or.inl ⟨by rfl, ?_⟩) (fun hcl11 => ?_)
              rotate_left
              · (intro wS hSw; (try dsimp only at hSw); go_simp; (try with_reducible rfl))
              clear hcl10
              try simp only [Act.put, List.getElem_toArray, List.getElem_cons_succ, List.getElem_cons_zero, List.setIfInBounds_toArray, List.set_cons_zero, List.set_cons_succ]
              refine wpAnyN_take (i := 12) (v := ?_) rfl (by as_aux_lemma => kernel_rfl) (by as_aux_lemma => kernel_rfl) (by as_aux_lemma => kernel_rfl) (by as_aux_lemma => kernel_rfl) (fun _ _ _ h => h) (by assumption) hS2 (Or.inl ⟨by rfl, ?_⟩) (fun hcl12 => ?_)
              rotate_left
              · (intro wS hSw; (try dsimp only at hSw); go_simp; (try with_reducible rfl))
              clear hcl11
              try simp only [Act.put, List.getElem_toArray, List.getElem_cons_succ, List.getElem_cons_zero, List.setIfInBounds_toArray, List.set_cons_zero, List.set_cons_succ]
              refine wpAnyN_take (i := 13) (v := ?_) rfl (by as_aux_lemma => kernel_rfl) (by as_aux_lemma => kernel_rfl) (by as_aux_lemma => kernel_rfl) (by as_aux_lemma => kernel_rfl) (fun _ _ _ h => h) (by assumption) hS2 (Or.inl ⟨by rfl, ?_⟩) (fun hcl13 => ?_)
              rotate_left
              · (intro wS hSw; (try dsimp only at hSw); go_simp; (try with_reducible rfl))
              clear hcl12
              try simp only [Act.put, List.getElem_toArray, List.getElem_cons_succ, List.getElem_cons_zero, List.setIfInBounds_toArray, List.set_cons_zero, List.set_cons_succ]
              refine wpAnyN_take (i := 14) (v := ?_) rfl (by as_aux_lemma => kernel_rfl) (by as_aux_lemma => kernel_rfl) (by as_aux_lemma => kernel_rfl) (by as_aux_lemma => kernel_rfl) (fun _ _ _ h => h) (by assumption) hS2 (Or.inl ⟨by rfl, ?_⟩) (fun hcl14 => ?_)
              rotate_left
              · (intro wS hSw; (try dsimp only at hSw); go_simp; (try with_reducible rfl))
              clear hcl13
              try simp only [Act.put, List.getElem_toArray, List.getElem_cons_succ, List.getElem_cons_zero, List.setIfInBounds_toArray, List.set_cons_zero, List.set_cons_succ]
              refine wpAnyN_take (i := 15) (v := ?_) rfl (by as_aux_lemma => kernel_rfl) (by as_aux_lemma => kernel_rfl) (by as_aux_lemma => kernel_rfl) (by as_aux_lemma => kernel_rfl) (fun _ _ _ h => h) (by assumption) hS2 (Or.inl ⟨by rfl, ?_⟩) (fun hcl15 => ?_)
              rotate_left
              · (intro wS hSw; (try dsimp only at hSw); go_simp; (try with_reducible rfl))
              clear hcl14
              try simp only [Act.put, List.getElem_toArray, List.getElem_cons_succ, List.getElem_cons_zero, List.setIfInBounds_toArray, List.set_cons_zero, List.set_cons_succ]
              refine wpAnyN_take (i := 16) (v := ?_) rfl (by as_aux_lemma => kernel_rfl) (by as_aux_lemma => kernel_rfl) (by as_aux_lemma => kernel_rfl) (by as_aux_lemma => kernel_rfl) (fun _ _ _ h => h) (by assumption) hS2 (Or.inl ⟨by rfl, ?_⟩) (fun hcl16 => ?_)
              rotate_left
              · (intro wS hSw; (try dsimp only at hSw); go_simp; (try with_reducible rfl))
              clear hcl15
              try simp only [Act.put, List.getElem_toArray, List.getElem_cons_succ, List.getElem_cons_zero, List.setIfInBounds_toArray, List.set_cons_zero, List.set_cons_succ]
              refine wpAnyN_take (i := 17) (v := ?_) rfl (by as_aux_lemma => kernel_rfl) (by as_aux_lemma => kernel_rfl) (by as_aux_lemma => kernel_rfl) (by as_aux_lemma => kernel_rfl) (fun _ _ _ h => h) (by assumption) hS2 (Or.inl ⟨by rfl, ?_⟩) (fun hcl17 => ?_)
              rotate_left
              · (intro wS hSw; (try dsimp only at hSw); go_simp; (try with_reducible rfl))
              clear hcl16
              try simp only [Act.put, List.getElem_toArray, List.getElem_cons_succ, List.getElem_cons_zero, List.setIfInBounds_toArray, List.set_cons_zero, List.set_cons_succ]
              refine wpAnyN_oneC (i := 18) (by as_aux_lemma => kernel_rfl) rfl (by assumption) (fun hcl18 K' hK' => ?_)
              clear hcl17
              go_simp
              go_at_call 25
              refine (kept_bs _ _ bs w7 HL7.out (ABS.out.same HS7.out) HABL.out).mono ?_
              rintro e w8 ⟨rfl, rfl⟩
              have hS3 := hS2
              refine hK'.out _ _ (fun _ => hS3) ?_
              clear hK' K'
              try simp only [Act.put, List.getElem_toArray, List.getElem_cons_succ, List.getElem_cons_zero, List.setIfInBounds_toArray, List.set_cons_zero, List.set_cons_succ]
              refine wpAnyN_take (i := 19) (v := ?_) rfl (by as_aux_lemma => kernel_rfl) (by as_aux_lemma => kernel_rfl) (by as_aux_lemma => kernel_rfl) (by as_aux_lemma => kernel_rfl) (fun _ _ _ h => h) (by assumption) hS3 (Or.inl ⟨by rfl, ?_⟩) (fun hcl19 => ?_)
              rotate_left
              · (intro wS hSw; (try dsimp only at hSw); go_simp; (try with_reducible rfl))
              clear hcl18
              try simp only [Act.put, List.getElem_toArray, List.getElem_cons_succ, List.getElem_cons_zero, List.setIfInBounds_toArray, List.set_cons_zero, List.set_cons_succ]
              refine wpAnyN_take (i := 20) (v := ?_) rfl (by as_aux_lemma => kernel_rfl) (by as_aux_lemma => kernel_rfl) (by as_aux_lemma => kernel_rfl) (by as_aux_lemma => kernel_rfl) (fun _ _ _ h => h) (by assumption) hS3 (Or.inl ⟨by rfl, ?_⟩) (fun hcl20 => ?_)
              rotate_left
              · (intro wS hSw; (try dsimp only at hSw); go_simp; (try with_reducible rfl))
              clear hcl19
              try simp only [Act.put, List.getElem_toArray, List.getElem_cons_succ, List.getElem_cons_zero, List.setIfInBounds_toArray, List.set_cons_zero, List.set_cons_succ]
              refine wpAnyN_done (by as_aux_lemma => kernel_rfl) ?_ _
              refine NoPanic.normal ?_
              go_wp2_with fail
              go_meet
              exact ⟨rfl, HS7.out, HP7.out, HL7.out⟩
            case rest =>
            obtain ⟨rfl, hs9, hp9, hl9⟩ := hcut
            have HS9 := Lib.hid hs9
            have HP9 := Lib.hid hp9
            have HL9 := Lib.hid hl9
            clear hs9 hp9 hl9
            have hwsz := HS5.out.size
            go_wp2_with fail
            refine (spoil_bs (base := w.heap.size) _ bs _ (HL9.out.fresh.mono HSW.out.size) HS9.out.size HABL.out).mono ?_
            rintro e w10 ⟨rfl, hu10⟩
            have HS10 := Lib.hid (Same.into HS9.out hu10 (fun k hk => Nat.le_trans HSW.out.size (HL9.out.room k hk).1))
            have HP10 := Lib.hid ((HP9.out.off hu10).mono (T := fun _ => False) (fun _ h => h.elim))
            clear hu10
            dsimp only
            go_wp2_with fail
            go_meet
            exact ⟨HS10.out, _, feed_len r bs HRL.out, HP10.out⟩
        case rest =>
          clear hin e0
          obtain ⟨hsw, r, hrl, hpp⟩ := hcut.out
          have HSW := Lib.hid hsw
          have HRL := Lib.hid hrl
          have HPP := Lib.hid hpp
          clear hsw hrl hpp hcut
          obtain ⟨v1, u1, p1, p2, p3, p4⟩ := id HPP.out
          obtain ⟨Av, nv, cv, rfl⟩ := Fresh.shape p1.2.2.2.1
          obtain ⟨Au, nu, cu, rfl⟩ := Fresh.shape p2.2.2.2.1
          have hnv := p1.2.2.2.1.len'
          have hnu := p2.2.2.2.1.len'
          subst hnv hnu
          have HLF := Lib.hid (fun W hs => left_any b1 r.o Av r.b.length cv r.dead W ((p1.same hs).2.1))
          have HDD := Lib.hid (fun W hs => dead_any b1 r.o (.slice Av r.b.length cv) r.dead W ((p1.same hs).2.1))
          have hS0 : wc.drew.cell? ⟨bq, 3, none⟩ = some (.slice Au r.b.length cu) ∧ wc.drew.cell? ⟨bq, 4, none⟩ = some (.bool r.dead) := ⟨((Upd.refl (fun _ => False) wc).drew).cell (p2.2.1 3 _ rfl) id, ((Upd.refl (fun _ => False) wc).drew).cell (p2.2.1 4 _ rfl) id⟩
          have hl1 : ¬ (131072 : Int) < (r.b.length : Int) := by have := HRL.out; omega
          have hl2 : (((r.b.length : Nat) : Int) != ((r.b.length : Nat) : Int)) = false := by simp
          have hl3 : (r.dead != r.dead) = false := by simp
          clear p1 p2 p3 p4
          generalize r.dead = dd at HDD hS0 hl3
          generalize r.b.length = nn at HLF hS0 hl1 hl2
          go_upto_region 34 with (fail)
          refine wp_region_noPanic ?_
          refine wp_region_need (fun w' => w'.cell? ⟨bq, 3, none⟩ = some (.slice Au nn cu) ∧ w'.cell? ⟨bq, 4, none⟩ = some (.bool dd)) (fun _ => true) (by kernel_rfl) (fun hcl => ?_)
          refine wpAnyN_take (i := 0) (v := ?_) rfl (by as_aux_lemma => kernel_rfl) (by as_aux_lemma => kernel_rfl) (by as_aux_lemma => kernel_rfl) (by as_aux_lemma => kernel_rfl) (fun _ _ _ h => h) (by assumption) hS0 (Or.inl ⟨by rfl, ?_⟩) (fun hcl0 => ?_)
          rotate_left
          · (intro wS hSw; (obtain ⟨hSa, hSb⟩ := hSw); go_simp; (try with_reducible rfl))
          clear hcl
          try simp only [Act.put, List.getElem_toArray, List.getElem_cons_succ, List.getElem_cons_zero, List.setIfInBounds_toArray, List.set_cons_zero, List.set_cons_succ]
          refine wpAnyN_take (i := 2) (v := ?_) rfl (by as_aux_lemma => kernel_rfl) (by as_aux_lemma => kernel_rfl) (by as_aux_lemma => kernel_rfl) (by as_aux_lemma => kernel_rfl) (fun _ _ _ h => h) (by assumption) hS0 (Or.inl ⟨by rfl, ?_⟩) (fun hcl2 => ?_)
          rotate_left
          · (intro wS hSw; (obtain ⟨hSa, hSb⟩ := hSw); go_simp; (try with_reducible rfl))
          clear hcl0
          try simp only [Act.put, List.getElem_toArray, List.getElem_cons_succ, List.getElem_cons_zero, List.setIfInBounds_toArray, List.set_cons_zero, List.set_cons_succ]
          refine wpAnyN_take (i := 3) (v := ?_) rfl (by as_aux_lemma => kernel_rfl) (by as_aux_lemma => kernel_rfl) (by as_aux_lemma => kernel_rfl) (by as_aux_lemma => kernel_rfl) (fun _ _ _ h => h) (by assumption) hS0 (Or.inl ⟨by rfl, ?_⟩) (fun hcl3 => ?_)
          rotate_left
          · (intro wS hSw; (obtain ⟨hSa, hSb⟩ := hSw); go_simp; (try with_reducible rfl))
          clear hcl2
          try simp only [Act.put, List.getElem_toArray, List.getElem_cons_succ, List.getElem_cons_zero, List.setIfInBounds_toArray, List.set_cons_zero, List.set_cons_succ]
          refine wpAnyN_take (i := 4) (v := ?_) rfl (by as_aux_lemma => kernel_rfl) (by as_aux_lemma => kernel_rfl) (by as_aux_lemma => kernel_rfl) (by as_aux_lemma => kernel_rfl) (fun _ _ _ h => h) (by assumption) hS0 (Or.inl ⟨by rfl, ?_⟩) (fun hcl4 => ?_)
          rotate_left
          · (intro wS hSw; (obtain ⟨hSa, hSb⟩ := hSw); go_simp; (try with_reducible rfl))
          clear hcl3
          try simp only [Act.put, List.getElem_toArray, List.getElem_cons_succ, List.getElem_cons_zero, List.setIfInBounds_toArray, List.set_cons_zero, List.set_cons_succ]
          refine wpAnyN_take (i := 5) (v := ?_) rfl (by as_aux_lemma => kernel_rfl) (by as_aux_lemma => kernel_rfl) (by as_aux_lemma => kernel_rfl) (by as_aux_lemma => kernel_rfl) (fun _ _ _ h => h) (by assumption) hS0 (Or.inl ⟨by rfl, ?_⟩) (fun hcl5 => ?_)
          rotate_left
          · (intro wS hSw; (obtain ⟨hSa, hSb⟩ := hSw); go_simp; (try with_reducible rfl))
          clear hcl4
          try simp only [Act.put, List.getElem_toArray, List.getElem_cons_succ, List.getElem_cons_zero, List.setIfInBounds_toArray, List.set_cons_zero, List.set_cons_succ]
          refine wpAnyN_take (i := 6) (v := ?_) rfl (by as_aux_lemma => kernel_rfl) (by as_aux_lemma => kernel_rfl) (by as_aux_lemma => kernel_rfl) (by as_aux_lemma => kernel_rfl) (fun _ _ _ h => h) (by assumption) hS0 (Or.inl ⟨by rfl, ?_⟩) (fun hcl6 => ?_)
          rotate_left
          · (intro wS hSw; (obtain ⟨hSa, hSb⟩ := hSw); go_simp; (try with_reducible rfl))
          clear hcl5
          try simp only [Act.put, List.getElem_toArray, List.getElem_cons_succ, List.getElem_cons_zero, List.setIfInBounds_toArray, List.set_cons_zero, List.set_cons_succ]
          refine wpAnyN_oneC (i := 1) (by as_aux_lemma => kernel_rfl) rfl (by assumption) (fun hcl1 K' hK' => ?_)
          clear hcl6
          go_simp
          go_at_call 20
          refine (HLF.out _ (Upd.refl _ _).drew).mono ?_
          rintro e wk ⟨rfl, rfl⟩
          have hS1 := hS0
          refine hK'.out _ _ (fun _ => hS1) ?_
          clear hK' K'
          try simp only [Act.put, List.getElem_toArray, List.getElem_cons_succ, List.getElem_cons_zero, List.setIfInBounds_toArray, List.set_cons_zero, List.set_cons_succ]
          refine wpAnyN_take (i := 7) (v := ?_) rfl (by as_aux_lemma => kernel_rfl) (by as_aux_lemma => kernel_rfl) (by as_aux_lemma => kernel_rfl) (by as_aux_lemma => kernel_rfl) (fun _ _ _ h => h) (by assumption) hS1 (Or.inl ⟨by rfl, ?_⟩) (fun hcl7 => ?_)
          rotate_left
          · (intro wS hSw; (obtain ⟨hSa, hSb⟩ := hSw); go_simp; (try with_reducible rfl))
          clear hcl1
          try simp only [Act.put, List.getElem_toArray, List.getElem_cons_succ, List.getElem_cons_zero, List.setIfInBounds_toArray, List.set_cons_zero, List.set_cons_succ]
          refine wpAnyN_take (i := 8) (v := ?_) rfl (by as_aux_lemma => kernel_rfl) (by as_aux_lemma => kernel_rfl) (by as_aux_lemma => kernel_rfl) (by as_aux_lemma => kernel_rfl) (fun _ _ _ h => h) (by assumption) hS1 (Or.inl ⟨by rfl, ?_⟩) (fun hcl8 => ?_)
          rotate_left
          · (intro wS hSw; (obtain ⟨hSa, hSb⟩ := hSw); go_simp; (try with_reducible rfl))
          clear hcl7
          try simp only [Act.put, List.getElem_toArray, List.getElem_cons_succ, List.getElem_cons_zero, List.setIfInBounds_toArray, List.set_cons_zero, List.set_cons_succ]
          refine wpAnyN_take (i := 9) (v := ?_) rfl (by as_aux_lemma => kernel_rfl) (by as_aux_lemma => kernel_rfl) (by as_aux_lemma => kernel_rfl) (by as_aux_lemma => kernel_rfl) (fun _ _ _ h => h) (by assumption) hS1 (Or.inl ⟨by rfl, ?_⟩) (fun hcl9 => ?_)
          rotate_left
          · (intro wS hSw; (obtain ⟨hSa, hSb⟩ := hSw); go_simp; (try with_reducible rfl))
          clear hcl8
          try simp only [Act.put, List.getElem_toArray, List.getElem_cons_succ, List.getElem_cons_zero, List.setIfInBounds_toArray, List.set_cons_zero, List.set_cons_succ]
          refine wpAnyN_take (i := 11) (v := ?_) rfl (by as_aux_lemma => kernel_rfl) (by as_aux_lemma => kernel_rfl) (by as_aux_lemma => kernel_rfl) (by as_aux_lemma => kernel_rfl) (fun _ _ _ h => h) (by assumption) hS1 (Or.inl ⟨by rfl, ?_⟩) (fun hcl11 => ?_)
          rotate_left
          · (intro wS hSw; (obtain ⟨hSa, hSb⟩ := hSw); go_simp; (try with_reducible rfl))
          clear hcl9
          try simp only [Act.put, List.getElem_toArray, List.getElem_cons_succ, List.getElem_cons_zero, List.setIfInBounds_toArray, List.set_cons_zero, List.set_cons_succ]
          refine wpAnyN_take (i := 12) (v := ?_) rfl (by as_aux_lemma => kernel_rfl) (by as_aux_lemma => kernel_rfl) (by as_aux_lemma => kernel_rfl) (by as_aux_lemma => kernel_rfl) (fun _ _ _ h => h) (by assumption) hS1 (Or.inl ⟨by rfl, ?_⟩) (fun hcl12 => ?_)
          rotate_left
          · (intro wS hSw; (obtain ⟨hSa, hSb⟩ := hSw); go_simp; (try with_reducible rfl))
          clear hcl11
          try simp only [Act.put, List.getElem_toArray, List.getElem_cons_succ, List.getElem_cons_zero, List.setIfInBounds_toArray, List.set_cons_zero, List.set_cons_succ]
          refine wpAnyN_take (i := 13) (v := ?_) rfl (by as_aux_lemma => kernel_rfl) (by as_aux_lemma => kernel_rfl) (by as_aux_lemma => kernel_rfl) (by as_aux_lemma => kernel_rfl) (fun _ _ _ h => h) (by assumption) hS1 (Or.inl ⟨by rfl, ?_⟩) (fun hcl13 => ?_)
          rotate_left
          · (intro wS hSw; (obtain ⟨hSa, hSb⟩ := hSw); go_simp; (try with_reducible rfl))
          clear hcl12
          try simp only [Act.put, List.getElem_toArray, List.getElem_cons_succ, List.getElem_cons_zero, List.setIfInBounds_toArray, List.set_cons_zero, List.set_cons_succ]
          refine wpAnyN_take (i := 14) (v := ?_) rfl (by as_aux_lemma => kernel_rfl) (by as_aux_lemma => kernel_rfl) (by as_aux_lemma => kernel_rfl) (by as_aux_lemma => kernel_rfl) (fun _ _ _ h => h) (by assumption) hS1 (Or.inl ⟨by rfl, ?_⟩) (fun hcl14 => ?_)
          rotate_left
          · (intro wS hSw; (obtain ⟨hSa, hSb⟩ := hSw); go_simp; (try with_reducible rfl))
          clear hcl13
          try simp only [Act.put, List.getElem_toArray, List.getElem_cons_succ, List.getElem_cons_zero, List.setIfInBounds_toArray, List.set_cons_zero, List.set_cons_succ]
          refine wpAnyN_oneC (i := 10) (by as_aux_lemma => kernel_rfl) rfl (by assumption) (fun hcl10 K' hK' => ?_)
          clear hcl14
          go_simp
          go_at_call 21
          refine (HDD.out _ (Upd.refl _ _).drew).mono ?_
          rintro e wk ⟨rfl, rfl⟩
          have hS2 := hS0
          refine hK'.out _ _ (fun _ => hS2) ?_
          clear hK' K'
          try simp only [Act.put, List.getElem_toArray, List.getElem_cons_succ, List.getElem_cons_zero, List.setIfInBounds_toArray, List.set_cons_zero, List.set_cons_succ]
          refine wpAnyN_take (i := 15) (v := ?_) rfl (by as_aux_lemma => kernel_rfl) (by as_aux_lemma => kernel_rfl) (by as_aux_lemma => kernel_rfl) (by as_aux_lemma => kernel_rfl) (fun _ _ _ h => h) (by assumption) hS2 (Or.inl ⟨by rfl, ?_⟩) (fun hcl15 => ?_)
          rotate_left
          · (intro wS hSw; (obtain ⟨hSa, hSb⟩ := hSw); go_simp; (try with_reducible rfl))
          clear hcl10
          try simp only [Act.put, List.getElem_toArray, List.getElem_cons_succ, List.getElem_cons_zero, List.setIfInBounds_toArray, List.set_cons_zero, List.set_cons_succ]
          refine wpAnyN_take (i := 16) (v := ?_) rfl (by as_aux_lemma => kernel_rfl) (by as_aux_lemma => kernel_rfl) (by as_aux_lemma => kernel_rfl) (by as_aux_lemma => kernel_rfl) (fun _ _ _ h => h) (by assumption) hS2 (Or.inl ⟨by rfl, ?_⟩) (fun hcl16 => ?_)
          rotate_left
          · (intro wS hSw; (obtain ⟨hSa, hSb⟩ := hSw); go_simp; (try with_reducible rfl))
          clear hcl15
          try simp only [Act.put, List.getElem_toArray, List.getElem_cons_succ, List.getElem_cons_zero, List.setIfInBounds_toArray, List.set_cons_zero, List.set_cons_succ]
          refine wpAnyN_take (i := 17) (v := ?_) rfl (by as_aux_lemma => kernel_rfl) (by as_aux_lemma => kernel_rfl) (by as_aux_lemma => kernel_rfl) (by as_aux_lemma => kernel_rfl) (fun _ _ _ h => h) (by assumption) hS2 (Or.inl ⟨by rfl, ?_⟩) (fun hcl17 => ?_)
          rotate_left
          · (intro wS hSw; (obtain ⟨hSa, hSb⟩ := hSw); go_simp; (try with_reducible rfl))
          clear hcl16
          try simp only [Act.put, List.getElem_toArray, List.getElem_cons_succ, List.getElem_cons_zero, List.setIfInBounds_toArray, List.set_cons_zero, List.set_cons_succ]
          refine wpAnyN_take (i := 18) (v := ?_) rfl (by as_aux_lemma => kernel_rfl) (by as_aux_lemma => kernel_rfl) (by as_aux_lemma => kernel_rfl) (by as_aux_lemma => kernel_rfl) (fun _ _ _ h => h) (by assumption) hS2 (Or.inl ⟨by rfl, ?_⟩) (fun hcl18 => ?_)
          rotate_left
          · (intro wS hSw; (obtain ⟨hSa, hSb⟩ := hSw); go_simp; (try with_reducible rfl))
          clear hcl17
          try simp only [Act.put, List.getElem_toArray, List.getElem_cons_succ, List.getElem_cons_zero, List.setIfInBounds_toArray, List.set_cons_zero, List.set_cons_succ]
          refine wpAnyN_oneC (i := 19) (by as_aux_lemma => kernel_rfl) rfl (by assumption) (fun hcl19 K' hK' => ?_)
          clear hcl18
          go_simp
          go_at_call 20
          refine (HLF.out _ (Upd.refl _ _).drew).mono ?_
          rintro e wk ⟨rfl, rfl⟩
          have hS3 := hS0
          refine hK'.out _ _ (fun _ => hS3) ?_
          clear hK' K'
          try simp only [Act.put, List.getElem_toArray, List.getElem_cons_succ, List.getElem_cons_zero, List.setIfInBounds_toArray, List.set_cons_zero, List.set_cons_succ]
          refine wpAnyN_take (i := 20) (v := ?_) rfl (by as_aux_lemma => kernel_rfl) (by as_aux_lemma => kernel_rfl) (by as_aux_lemma => kernel_rfl) (by as_aux_lemma => kernel_rfl) (fun _ _ _ h => h) (by assumption) hS3 (Or.inl ⟨by rfl, ?_⟩) (fun hcl20 => ?_)
          rotate_left
          · (intro wS hSw; (obtain ⟨hSa, hSb⟩ := hSw); go_simp; (try with_reducible rfl))
          clear hcl19
          try simp only [Act.put, List.getElem_toArray, List.getElem_cons_succ, List.getElem_cons_zero, List.setIfInBounds_toArray, List.set_cons_zero, List.set_cons_succ]
          refine wpAnyN_take (i := 21) (v := ?_) rfl (by as_aux_lemma => kernel_rfl) (by as_aux_lemma => kernel_rfl) (by as_aux_lemma => kernel_rfl) (by as_aux_lemma => kernel_rfl) (fun _ _ _ h => h) (by assumption) hS3 (Or.inl ⟨by rfl, ?_⟩) (fun hcl21 => ?_)
          rotate_left
          · (intro wS hSw; (obtain ⟨hSa, hSb⟩ := hSw); go_simp; (try with_reducible rfl))
          clear hcl20
          try simp only [Act.put, List.getElem_toArray, List.getElem_cons_succ, List.getElem_cons_zero, List.setIfInBounds_toArray, List.set_cons_zero, List.set_cons_succ]
          refine wpAnyN_done (by as_aux_lemma => kernel_rfl) ?_ _
          refine NoPanic.normal ?_
          have HS2 := Lib.hid HSW.out.drew
          have HP2 := Lib.hid (HPP.out.same (Upd.refl _ _).drew)
          clear hS0 hl1 hl2 hl3
          go_wp2_with fail
          go_roundw
          case rel => exact ⟨i + 1, by omega, by omega, by go_num, HS2.out, r, HRL.out, HP2.out⟩
          case measure => simp [intOf]; omega
      · have g : ¬ ((i : Int) < (as_.length : Int) ∧ (i : Int) < 60) := by omega
        have HIN := Lib.hid hin.out.1
        clear hin hlt
        go_wp2_with fail
        all_goals
          refine (HKN.out _).mono ?_
          rintro e wk ⟨rfl, hsk⟩
          have HSK := Lib.hid (Same.trans HIN.out hsk)
          clear hsk
          go_wp2_with fail
          go_ret
          exact ⟨rfl, HSK.out⟩
  · rw [Bool.not_eq_true] at ho
    refine (new_bad o ho w1).mono ?_
    rintro e w2 ⟨rfl, hs2⟩
    have HS2 := Lib.hid (Same.trans HS1.out hs2)
    have hb2 := HB1.out.upd (by simp [agC]) hs2 id
    have c0 := hb2.1 0 _ rfl
    have c1 := hb2.1 1 _ rfl
    have c2 := hb2.1 2 _ rfl
    clear hs2 hb2
    go_wp2_with fail
    refine (HRR.out w2).mono ?_
    rintro e w3 ⟨rfl, hs3⟩
    rw [ho]
    have HS3 := Lib.hid (Same.trans HS2.out hs3)
    clear hs3 ho
    go_wp2_with fail
    refine (HKN.out _).mono ?_
    rintro e wk ⟨rfl, hsk⟩
    have HSK := Lib.hid (Same.trans HS3.out hsk)
    clear hsk
    go_wp2_with fail
    go_ret
    exact ⟨rfl, HSK.out⟩
theorem pduReads_walk2 (w : World) (u : Value) (o : Ag) (ho : u = agA o ∧ True) (v : Value) (as_ : List Ac) (hv : AcsAt w v as_) :
    Calls Try.prog 6 #[u, v] w fun e w' => e = .returned (.bool true) ∧ Same w w' := by
  obtain ⟨rfl, -⟩ := ho
  exact pduReads_walk w o v as_ hv
end Go.Proofs.Ytfafepmghcobdaa
