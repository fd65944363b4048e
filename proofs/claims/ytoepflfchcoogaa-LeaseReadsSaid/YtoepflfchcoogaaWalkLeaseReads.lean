/- The walk of LeaseReads. -/
import Derived.Test.YtoepflfchcoogaaReadP
import Derived.Test.YtoepflfchcoogaaOpenAsk
import Derived.Deep.DeepCutAuto
import Derived.Deep.CutRange
import Derived.Deep.CutBlock
namespace Go.Proofs.Ytoepflfchcoogaa
open Go.RowKit
set_option linter.unusedVariables false
set_option linter.unusedSimpArgs false
attribute [local go_sem ↓] Go.wp_at_zero Go.wp_at_succ
def ActR (W : World) (B : Nat) (x y z : Int) : Prop := W.cell? ⟨B, 0, none⟩ = some (.int .i64 x) ∧ W.cell? ⟨B, 1, none⟩ = some (.int .i64 y) ∧ W.cell? ⟨B, 2, none⟩ = some (.int .i64 z)
theorem ActR.upd {S : Nat → Prop} {W W' : World} {B : Nat} {x y z : Int} (h : ActR W B x y z) (hu : Upd S W W') (hn : ¬ S B) : ActR W' B x y z := ⟨hu.cell h.1 hn, hu.cell h.2.1 hn, hu.cell h.2.2 hn⟩
theorem ActR.new (W : World) (x y z : Int) (t : TypeId) (B : Nat) (hB : B = W.heap.size) : ActR (W.alloc (.cells #[.int .i64 x, .int .i64 y, .int .i64 z] t)) B x y z := by
  subst hB
  have h : (W.alloc (.cells #[.int .i64 x, .int .i64 y, .int .i64 z] t)).heap[W.heap.size]? = some (.cells #[.int .i64 x, .int .i64 y, .int .i64 z] t) := heap_alloc_new W _
  refine ⟨?_, ?_, ?_⟩
  all_goals (rw [cell_of_row _ _ _ _ t (0, 0) h]; rfl)

set_option maxRecDepth 100000 in
set_option maxHeartbeats 8000000 in
theorem leaseReads_walk (w : World) (l : Value) (os : List LAsk) (ho : LAskAt w l os) :
    Calls Try.prog 5 #[l] w fun e w' => e = .returned (.bool true) ∧ Same w w' := by
  obtain ⟨A, cap, rfl, q1, q2, q3⟩ := id ho
  have HOS := Lib.hid ho
  obtain ⟨N, hN⟩ : ∃ N, N = os.length := ⟨_, rfl⟩
  rw [← hN] at q1
  have HN := Lib.hid hN
  clear q3 ho
  rw [show os.length = N from hN.symm]
  clear hN
  go_enter Try.func5, Try.ntmps5
  go_wp2_with fail
  refine (rdnew_any w).mono ?_
  rintro r w1 ⟨rfl, hc, hs1⟩
  have hr : ∀ k, ¬ room (.slice none 0 0) = some k := fun k e => by simp [room] at e
  have hO : RdO w.heap.size (fun k => k = w.heap.size) w1 w.heap.size [] := ⟨_, ⟨Nat.le_refl _, hc, Own.nil _ _ _, hr _⟩, fun k hk => hk.elim (fun e => e) (fun e => (hr k e).elim), fun k hk => ⟨by omega, by have := hc.lt; omega⟩⟩
  have hs2 := (Upd.refl (fun _ => False) w1).alloc (.cells #[.slice none 0 0] 48)
  have hR : RRdO w.heap.size (fun k => k = w1.heap.size) (w1.alloc (.cells #[.slice none 0 0] 48)) w1.heap.size [] := ⟨_, ⟨hs1.size, RRdC.new w1 _ _ _ rfl, Own.nil _ _ _, hr _⟩, fun k hk => hk.elim (fun e => e) (fun e => (hr k e).elim), fun k hk => ⟨by have := hs1.size; omega, by simp; omega⟩⟩
  have hP : RPair w (w1.alloc (.cells #[.slice none 0 0] 48)) w.heap.size w1.heap.size [] := ⟨_, _, hO.same hs2, hR, fun k h1 h2 => by have := hc.lt; omega, by simp, Same.trans hs1 hs2⟩
  have HP := Lib.hid hP
  clear hP hR hs2 hO hr hc hs1
  go_wp2_with fail
  go_loopw [5] (fun v5 wr => ∃ k : Nat, k ≤ N ∧ k ≤ 250 ∧ v5 = .int .i64 k ∧ ∃ ls, RPair w wr w.heap.size w1.heap.size ls) (fun v5 _ => N - (intOf v5).toNat)
  case atStart => exact ⟨0, by omega, by omega, rfl, _, HP.out⟩
  case round =>
    generalize w1.heap.size = q at hrel HP ⊢
    obtain ⟨k, hk, hk3, rfl, ls, hPr⟩ := hrel
    by_cases hlt : k < N ∧ k < 250
    · obtain ⟨hlt1, hlt2⟩ := hlt
      have g1 : (k : Int) < (N : Int) := by omega
      have g2 : (k : Int) < 250 := by omega
      have hko : k < os.length := by have := HN.out; omega
      obtain ⟨F, G, hO, hR, hd, hok, hs⟩ := hPr
      obtain ⟨A', cap', e0, _, _, hcells⟩ := HOS.out.same hs
      injection e0 with e1 e2 e3
      subst e1
      obtain ⟨b, off, rfl, o0, o1, o2, ob0, ob1, ob2⟩ := hcells k hko
      generalize os[k] = o at o0 o1 o2 ob0 ob1 ob2
      obtain ⟨ok, oa, ob⟩ := o
      simp only at o0 o1 o2 ob0 ob1 ob2
      have hA5 := ActR.new wr ok oa ob 49 _ rfl
      have ha := (Upd.refl (fun _ => False) wr).alloc (.cells #[.int .i64 ok, .int .i64 oa, .int .i64 ob] 49)
      have hO5 := hO.same ha
      have hR5 := hR.same ha
      have hB5 : ¬ F wr.heap.size := fun e => by have := (hO.foot _ e).2; omega
      have hB6 : ¬ G wr.heap.size := fun e => by have := (hR.foot _ e).2; omega
      have H5 := Lib.hid (And.intro hO5 (And.intro hR5 (And.intro hd (And.intro (Same.trans hs ha) (And.intro hB5 hB6)))))
      have HA := Lib.hid hA5
      have HOK := Lib.hid hok
      clear hcells hO hR hd hA5 ha hO5 hR5 hB5 hB6 e2 e3 hs hok
      go_upto_block 2 with (fail)
      generalize wr.alloc (.cells #[.int .i64 ok, .int .i64 oa, .int .i64 ob] 49) = W5 at H5 HA ⊢
      generalize wr.heap.size = B at H5 HA ⊢
      clear o0 o1 o2
      obtain ⟨o0, o1, o2⟩ := HA.out
      have hz6 := H5.out.2.2.2.1.size
      go_cut [5] from 13 to 74 (fun v5 wx => v5 = .int .i64 k ∧ ∃ s2, RPair w wx w.heap.size q s2)
      case first =>
        have hcases : (ok = 0 ∨ ok = 1 ∨ ok = 2) ∨ (ok = 3 ∨ ok = 4) ∨ ok = 5 ∨ ((ok == 0) = false ∧ (ok == 1) = false ∧ (ok == 2) = false ∧ (ok == 3) = false ∧ (ok == 4) = false ∧ (ok == 5) = false) := by simp; omega
        rcases hcases with hk1 | hk1 | hk1 | hk1
        · have HS1 := Lib.hid (fun w' (h : RdO w.heap.size F w' w.heap.size ls) (hz : w.heap.size ≤ w'.heap.size) => ask_o h hz oa ob)
          have HS2 := Lib.hid (fun w' (h : RRdO w.heap.size G w' q ls) (hz : w.heap.size ≤ w'.heap.size) => rask_o h hz HOK.out oa ob)
          have HK2 := Lib.hid (askL_len HOK.out oa ob)
          generalize askL ls oa ob = S at HS1 HS2 HK2
          obtain ⟨code, ls2⟩ := S
          simp only at HS1 HS2 HK2
          rcases hk1 with rfl | rfl | rfl
          all_goals
            go_wp2_with fail
            go_region_held3 (fun w' => w'.cell? ⟨B, 1, none⟩ = some (.int .i64 oa) ∧ w'.cell? ⟨B, 2, none⟩ = some (.int .i64 ob)) (first | assumption | exact ⟨(Upd.refl (fun _ => False) _).drew.cell o1 (fun h => h), (Upd.refl (fun _ => False) _).drew.cell o2 (fun h => h)⟩ | exact ⟨x1, x2⟩ | exact ⟨y1, y2⟩) (first
              | (go_at_call 20; refine (HS1.out _ (H5.out.1.same (Upd.refl _ _).drew) hz6).mono ?_; rintro r w8 ⟨rfl, hg⟩; have hgU := hg.choose_spec.2.1; have hR8 := (H5.out.2.1.same (Upd.refl (fun _ => False) _).drew).upd hgU (fun k hk hf => H5.out.2.2.1 k hf hk); obtain ⟨x0, x1, x2⟩ := (HA.out.upd (Upd.refl (fun _ => False) _).drew (fun h => h)).upd hgU H5.out.2.2.2.2.1; have hz8 := hgU.size; have HG := Lib.hid hg; have HR8 := Lib.hid hR8; clear hg hgU hR8)
              | (go_at_call 21; refine (HS2.out _ HR8.out (by simp at hz8; omega)).mono ?_; rintro r w9 ⟨rfl, hg⟩; have hgU := hg.choose_spec.2.1; have y1 := hgU.cell x1 H5.out.2.2.2.2.2; have y2 := hgU.cell x2 H5.out.2.2.2.2.2; have HPP := Lib.hid (RPair.both (H5.out.1.same (Upd.refl _ _).drew) (H5.out.2.1.same (Upd.refl _ _).drew) H5.out.2.2.1 (Same.trans H5.out.2.2.2.1 (Upd.refl _ _).drew) HK2.out HG.out hg); clear hg hgU))
            all_goals
              go_wp2_with fail
              go_meet
              exact ⟨rfl, ls2, HPP.out⟩
        · rcases hk1 with rfl | rfl
          all_goals
            go_wp2_with fail
            go_region_held3 (fun w' => w'.cell? ⟨B, 2, none⟩ = some (.int .i64 ob)) (first | assumption | exact (Upd.refl (fun _ => False) _).drew.cell o2 (fun h => h) | exact x2 | exact y2 | exact z2) (first
              | (go_at_call 23; refine (ready_o (H5.out.1.same (Upd.refl _ _).drew) hz6 HOK.out ob).mono ?_; rintro r w8 ⟨vo, rfl, hV, hg⟩; have hgU := hg.choose_spec.2.1; have hR8 := (H5.out.2.1.same (Upd.refl (fun _ => False) _).drew).upd hgU (fun k hk hf => H5.out.2.2.1 k hf hk); obtain ⟨x0, x1, x2⟩ := (HA.out.upd (Upd.refl (fun _ => False) _).drew (fun h => h)).upd hgU H5.out.2.2.2.2.1; have hz8 := hgU.size; have HG := Lib.hid hg; have HR8 := Lib.hid hR8; have HV := Lib.hid hV; clear hg hgU hR8 hV)
              | (go_at_call 24; refine (rready_o HR8.out (by simp at hz8; omega) HOK.out ob).mono ?_; rintro r w9 ⟨vo2, rfl, hV2, hg⟩; have hgU := hg.choose_spec.2.1; have y2 := hgU.cell x2 H5.out.2.2.2.2.2; have HV1 := Lib.hid (HV.out.upd hgU (fun j hj e => by have := (HV.out.ge (by decide) j hj).1; have := (H5.out.2.1.foot _ e).2; simp at *; omega)).rdr; have HV2 := Lib.hid hV2.rdr; have HPP := Lib.hid (RPair.both (H5.out.1.same (Upd.refl _ _).drew) (H5.out.2.1.same (Upd.refl _ _).drew) H5.out.2.2.1 (Same.trans H5.out.2.2.2.1 (Upd.refl _ _).drew) (leftL_len HOK.out ob) HG.out hg); clear hg hgU hV2)
              | (go_at_call 22; refine (same_any HV1.out HV2.out (by have := outL_len ls ob; have := HOK.out; omega)).mono ?_; rintro r w10 ⟨rfl, hs10⟩; have z2 := hs10.cell y2 (fun h => h); have HS10 := Lib.hid hs10; clear hs10))
            all_goals
              go_wp2_with fail
              go_meet
              exact ⟨rfl, _, HPP.out.same HS10.out⟩
        · subst hk1
          go_wp2_with fail
          refine (drop_o H5.out.1 hz6 HOK.out).mono ?_
          rintro r w8 ⟨vo, rfl, hV, hg⟩
          have hgU := hg.choose_spec.2.1
          have hR8 := H5.out.2.1.upd hgU (fun k hk hf => H5.out.2.2.1 k hf hk)
          have hz8 := hgU.size
          have HG := Lib.hid hg
          have HR8 := Lib.hid hR8
          have HV := Lib.hid hV
          clear hg hgU hR8 hV
          go_wp2_with fail
          refine (rdrop_o HR8.out (by omega) HOK.out).mono ?_
          rintro r w9 ⟨vo2, rfl, hV2, hg⟩
          have hgU := hg.choose_spec.2.1
          have HV1 := Lib.hid (HV.out.upd hgU (fun j hj e => by have := (HV.out.ge (by decide) j hj).1; have := (H5.out.2.1.foot _ e).2; omega)).rdr
          have HV2 := Lib.hid hV2.rdr
          have HPP := Lib.hid (RPair.both H5.out.1 H5.out.2.1 H5.out.2.2.1 H5.out.2.2.2.1 (ls' := []) (by simp) HG.out hg)
          clear hg hgU hV2
          go_wp2_with fail
          refine (same_any HV1.out HV2.out (by rw [List.length_map]; have := HOK.out; omega)).mono ?_
          rintro r w10 ⟨rfl, hs10⟩
          have HS10 := Lib.hid hs10
          clear hs10
          go_wp2_with fail
          go_meet
          exact ⟨rfl, _, HPP.out.same HS10.out⟩
        · obtain ⟨k0, k1, k2, k3, k4, k5⟩ := hk1
          go_wp2_with fail
          go_meet
          exact ⟨rfl, ls, ⟨F, G, H5.out.1, H5.out.2.1, H5.out.2.2.1, HOK.out, H5.out.2.2.2.1⟩⟩
      case rest =>
        obtain ⟨rfl, s2, hP2⟩ := hcut
        obtain ⟨F2, G2, hO2, hR2, hd2, hok2, hs2⟩ := id hP2
        obtain ⟨RA, rcap, r2⟩ := hR2.row
        have HLN := Lib.hid (fun w' (h : Same wc w') => rdlen_o (hO2.same h))
        have HP2 := Lib.hid hP2
        obtain ⟨M2, hM2⟩ : ∃ M2, M2 = s2.length := ⟨_, rfl⟩
        rw [← hM2] at r2 HLN
        clear hP2 hO2 hR2 hd2 hok2 hs2 hM2 o0 o1 o2 H5 HA HOK HP
        go_wp2_with fail
        go_quiet ((go_at_call 27; exact Calls.quiet_of_same (HLN.out _ (by first | exact Upd.refl _ _ | exact (Upd.refl _ _).drewN _ | exact (Upd.refl _ _).drew))))
        go_wp2_with fail
        go_roundw
        case rel => exact ⟨k + 1, by omega, by omega, by go_num, s2, HP2.out.same ((Upd.refl _ _).drewN _)⟩
        case measure => simp [intOf]; omega
    · have HE := Lib.hid hPr
      have HKN := Lib.hid known_any
      clear hPr HP
      have h1 : (k < N ∧ k = 250) ∨ k = N := by omega
      rcases h1 with ⟨h1, rfl⟩ | rfl
      · have g1 : (250 : Int) < (N : Int) := by omega
        go_wp2_with fail
        refine (nilask _).mono ?_
        rintro r w4 ⟨rfl, hs4⟩
        have HS4 := Lib.hid hs4
        clear hs4
        go_wp2_with fail
        refine (nilreadyLaw _ _).mono ?_
        rintro r w5 ⟨zA, zc, rfl, hs5⟩
        have HS5 := Lib.hid hs5
        clear hs5
        go_wp2_with fail
        refine (nildrop _).mono ?_
        rintro r w6 ⟨rfl, hs6⟩
        have HS6 := Lib.hid hs6
        clear hs6
        go_wp2_with fail
        refine (nillen _).mono ?_
        rintro r w7 ⟨rfl, hs7⟩
        have HS7 := Lib.hid hs7
        clear hs7
        go_wp2_with fail
        refine (HKN.out _).mono ?_
        rintro r w8 ⟨rfl, hs8⟩
        have HS8 := Lib.hid hs8
        clear hs8
        go_wp2_with fail
        go_ret
        obtain ⟨F, G, hO, hR, hd, hok, hs⟩ := HE.out
        exact ⟨rfl, Same.trans hs (Same.trans HS4.out (Same.trans HS5.out (Same.trans HS6.out (Same.trans HS7.out HS8.out))))⟩
      · go_wp2_with fail
        refine (nilask _).mono ?_
        rintro r w4 ⟨rfl, hs4⟩
        have HS4 := Lib.hid hs4
        clear hs4
        go_wp2_with fail
        refine (nilreadyLaw _ _).mono ?_
        rintro r w5 ⟨zA, zc, rfl, hs5⟩
        have HS5 := Lib.hid hs5
        clear hs5
        go_wp2_with fail
        refine (nildrop _).mono ?_
        rintro r w6 ⟨rfl, hs6⟩
        have HS6 := Lib.hid hs6
        clear hs6
        go_wp2_with fail
        refine (nillen _).mono ?_
        rintro r w7 ⟨rfl, hs7⟩
        have HS7 := Lib.hid hs7
        clear hs7
        go_wp2_with fail
        refine (HKN.out _).mono ?_
        rintro r w8 ⟨rfl, hs8⟩
        have HS8 := Lib.hid hs8
        clear hs8
        go_wp2_with fail
        go_ret
        obtain ⟨F, G, hO, hR, hd, hok, hs⟩ := HE.out
        exact ⟨rfl, Same.trans hs (Same.trans HS4.out (Same.trans HS5.out (Same.trans HS6.out (Same.trans HS7.out HS8.out))))⟩
end Go.Proofs.Ytoepflfchcoogaa
