/- The walk of LeaseHolds. -/
import Derived.Test.YtoepflfchcoogaaLeasePair
import Derived.Test.YtoepflfchcoogaaOpenOp
import Derived.Deep.DeepCutAuto
import Derived.Deep.CutRange
import Derived.Deep.CutBlock
namespace Go.Proofs.Ytoepflfchcoogaa
open Go.RowKit
set_option linter.unusedVariables false
set_option linter.unusedSimpArgs false
attribute [local go_sem ↓] Go.wp_at_zero Go.wp_at_succ
def Act3 (W : World) (B : Nat) (x y z : Int) : Prop := W.cell? ⟨B, 0, none⟩ = some (.int .i64 x) ∧ W.cell? ⟨B, 1, none⟩ = some (.int .i64 y) ∧ W.cell? ⟨B, 2, none⟩ = some (.int .i64 z)
theorem Act3.upd {S : Nat → Prop} {W W' : World} {B : Nat} {x y z : Int} (h : Act3 W B x y z) (hu : Upd S W W') (hn : ¬ S B) : Act3 W' B x y z := ⟨hu.cell h.1 hn, hu.cell h.2.1 hn, hu.cell h.2.2 hn⟩
theorem Act3.new (W : World) (x y z : Int) (t : TypeId) (B : Nat) (hB : B = W.heap.size) : Act3 (W.alloc (.cells #[.int .i64 x, .int .i64 y, .int .i64 z] t)) B x y z := by
  subst hB
  have h : (W.alloc (.cells #[.int .i64 x, .int .i64 y, .int .i64 z] t)).heap[W.heap.size]? = some (.cells #[.int .i64 x, .int .i64 y, .int .i64 z] t) := heap_alloc_new W _
  refine ⟨?_, ?_, ?_⟩
  all_goals (rw [cell_of_row _ _ _ _ t (0, 0) h]; rfl)
theorem llen_o {base : Nat} {F : Nat → Prop} {W : World} {p : Nat} {h : Int} {ls : List (Int × Int)} (ho : LeO base F W p h ls) : Calls Try.prog 15 #[.pointer (some ⟨p, 0, none⟩)] W fun r w' => r = .returned (.int .i64 ls.length) ∧ Same W w' := by
  obtain ⟨v, hv, -, -⟩ := ho
  exact (llen_any hv).mono (by rintro r w' ⟨rfl, rfl⟩; exact ⟨rfl, Upd.refl _ _⟩)
theorem lreset_o {base : Nat} {F : Nat → Prop} {W : World} {p : Nat} {h : Int} {ls : List (Int × Int)} (ho : LeO base F W p h ls) : Calls Try.prog 13 #[.pointer (some ⟨p, 0, none⟩)] W fun r w' => r = .returned (.tuple #[]) ∧ LGrew base F W p w' h [] := by
  obtain ⟨v, hv, hF, hFt⟩ := ho
  refine (lreset_any hv).mono ?_
  rintro r w' ⟨rfl, hg⟩
  exact ⟨rfl, hg.of hF⟩
theorem rlnew_o (w : World) {w' : World} {q : Nat} {a b : Int} (hc : RLeC w' q a b (.slice none 0 0) (.slice none 0 0)) (base : Nat) (hb : base ≤ q) : RLeO base (fun k => k = q) w' q a b [] := by
  have hr : ∀ k, ¬ room (.slice none 0 0) = some k := fun k e => by simp [room] at e
  refine ⟨.slice none 0 0, .slice none 0 0, ⟨hb, hc, Own.nil _ _ _, Own.nil _ _ _, fun k hk => (hr k hk).elim, fun k hk => (hr k hk).elim⟩, ?_, ?_⟩
  · rintro k (e | e | e)
    · exact e
    · exact (hr k e).elim
    · exact (hr k e).elim
  · rintro k rfl
    exact ⟨hb, hc.lt⟩
set_option maxRecDepth 100000 in
set_option maxHeartbeats 8000000 in
theorem leaseHolds_walk (w : World) (least : Int) (hle : (Lit.int .i64 least).wf = true) (rho : Int) (hrh : (Lit.int .i64 rho).wf = true) (l : Value) (os : List LOp) (ho : LOpAt w l os) (ro : Int) (hro : (Lit.int .i64 ro).wf = true) (now : Int) (hno : (Lit.int .i64 now).wf = true) :
    Calls Try.prog 4 #[.int .i64 least, .int .i64 rho, l, .int .i64 ro, .int .i64 now] w fun e w' => e = .returned (.bool true) ∧ Same w w' := by
  replace hle := bounds_i64 hle
  replace hrh := bounds_i64 hrh
  replace hro := bounds_i64 hro
  replace hno := bounds_i64 hno
  obtain ⟨A, cap, rfl, q1, q2, q3⟩ := id ho
  have HOS := Lib.hid ho
  obtain ⟨N, hN⟩ : ∃ N, N = os.length := ⟨_, rfl⟩
  rw [← hN] at q1
  have HN := Lib.hid hN
  clear q3 ho
  rw [show os.length = N from hN.symm]
  clear hN
  by_cases hbad : least < 1 ∨ 1000 < least ∨ rho < 1 ∨ 1000 < rho
  · have HB1 := Lib.hid (fun w => lnew_bad least rho w hbad)
    have HB2 := Lib.hid (fun w => rlnew_bad least rho w hbad)
    clear hbad
    go_enter Try.func4, Try.ntmps4
    go_wp2_with fail
    refine (HB1.out _).mono ?_
    rintro r w1 ⟨rfl, rfl⟩
    go_wp2_with fail
    refine (HB2.out _).mono ?_
    rintro r w1 ⟨rfl, rfl⟩
    go_wp2_with fail
    refine (known_any _).mono ?_
    rintro r w2 ⟨rfl, hs⟩
    have HS := Lib.hid hs
    clear hs
    go_wp2_with fail
    go_ret
    exact ⟨rfl, HS.out⟩
  have b1 : 1 ≤ least := by omega
  have b2 : least ≤ 1000 := by omega
  have b3 : 1 ≤ rho := by omega
  have b4 : rho ≤ 1000 := by omega
  clear hbad
  go_enter Try.func4, Try.ntmps4
  go_wp2_with fail
  refine (lnew_good least rho w b1 b2 b3 b4).mono ?_
  rintro r w1 ⟨rfl, hc, hs1⟩
  obtain ⟨hO, hok⟩ := lnew_o (least - 2 * rho) w hc w.heap.size (Nat.le_refl _)
  have HO := Lib.hid (And.intro hO (And.intro hok hs1))
  clear hc hO hok hs1
  go_wp2_with fail
  refine (rlnew_good least rho w1 b1 b2 b3 b4).mono ?_
  rintro r w2 ⟨rfl, hc, hs2⟩
  have hP : LePair w w2 w.heap.size w1.heap.size least rho [] := ⟨_, _, HO.out.1.same hs2, rlnew_o w1 hc w.heap.size HO.out.2.2.size, fun k h1 h2 => by have := (HO.out.1.foot _ h1).2; omega, HO.out.2.1, Same.trans HO.out.2.2 hs2⟩
  have HP := Lib.hid hP
  generalize w1.heap.size = q at HP ⊢
  clear hP hs2 hc HO
  go_wp2_with fail
  go_loopw [15] (fun v15 wr => ∃ k : Nat, k ≤ N ∧ k ≤ 200 ∧ v15 = .int .i64 k ∧ ∃ ls, LePair w wr w.heap.size q least rho ls) (fun v15 _ => N - (intOf v15).toNat)
  case atStart => exact ⟨0, by omega, by omega, rfl, _, HP.out⟩
  case round =>
    obtain ⟨k, hk, hk3, rfl, ls, hPr⟩ := hrel
    by_cases hlt : k < N ∧ k < 200
    · obtain ⟨hlt1, hlt2⟩ := hlt
      have g1 : (k : Int) < (N : Int) := by omega
      have g2 : (k : Int) < 200 := by omega
      have hko : k < os.length := by have := HN.out; omega
      obtain ⟨F, G, hO, hR, hd, hok, hs⟩ := hPr
      obtain ⟨A', cap', e0, _, _, hcells⟩ := HOS.out.same hs
      injection e0 with e1 e2 e3
      subst e1
      obtain ⟨b, off, rfl, o0, o1, o2, ob0, ob1, ob2⟩ := hcells k hko
      generalize os[k] = o at o0 o1 o2 ob0 ob1 ob2
      obtain ⟨ok, oa, ob⟩ := o
      simp only at o0 o1 o2 ob0 ob1 ob2
      have hA5 := Act3.new wr ok oa ob 36 _ rfl
      have ha := (Upd.refl (fun _ => False) wr).alloc (.cells #[.int .i64 ok, .int .i64 oa, .int .i64 ob] 36)
      have hO5 := hO.same ha
      have hR5 := hR.same ha
      have hB5 : ¬ F wr.heap.size := fun e => by have := (hO.foot _ e).2; omega
      have hB6 : ¬ G wr.heap.size := fun e => by have := (hR.foot _ e).2; omega
      have H5 := Lib.hid (And.intro hO5 (And.intro hR5 (And.intro hd (And.intro (Same.trans hs ha) (And.intro hB5 hB6)))))
      have HA := Lib.hid hA5
      have HOK := Lib.hid hok
      clear hcells hO hR hd hA5 ha hO5 hR5 hB5 hB6 e2 e3 hs hok
      go_upto_if 59 with (fail)
      generalize wr.alloc (.cells #[.int .i64 ok, .int .i64 oa, .int .i64 ob] 36) = W5 at H5 HA ⊢
      generalize wr.heap.size = B at H5 HA ⊢
      clear o0 o1 o2
      obtain ⟨o0, o1, o2⟩ := HA.out
      have hz6 := H5.out.2.2.2.1.size
      go_cut [15] from 43 to 134 (fun v15 wx => v15 = .int .i64 k ∧ ∃ s2, LePair w wx w.heap.size q least rho s2 ∧ Act3 wx B ok oa ob)
      case first =>
        by_cases hk4 : ok = 4
        · subst hk4
          go_wp2_with fail
          refine (lreset_o H5.out.1).mono ?_
          rintro r w8 ⟨rfl, hg⟩
          have hgU := hg.choose_spec.2.1
          have hR8 := H5.out.2.1.upd hgU (fun k hk hf => H5.out.2.2.1 k hf hk)
          have hA8 := HA.out.upd hgU H5.out.2.2.2.2.1
          have hwi := hR8.wipe
          have hPP := LePair.both H5.out.1 H5.out.2.1 H5.out.2.2.1 H5.out.2.2.2.1 (ls' := []) ⟨by simp, by simp⟩ hg hwi
          have hA9 := hA8.upd hwi.choose_spec.2.1 H5.out.2.2.2.2.2
          obtain ⟨vr, vt, hV, -, -⟩ := id hR8
          obtain ⟨⟨m0, m1, m2, m3⟩, mf⟩ := hV.2.1
          have f2 := mf 2 (by decide)
          have f3 := mf 3 (by decide)
          have HPP := Lib.hid (And.intro hPP hA9)
          clear hg hgU hR8 hA8 hwi hPP hA9 hV mf
          go_wp2_with fail
          go_meet
          exact ⟨rfl, [], HPP.out⟩
        · have hk4 : (ok == 4) = false := by simpa using hk4
          have HS1 := Lib.hid (fun w' (h : LeO w.heap.size F w' w.heap.size (least - 2 * rho) ls) (hz : w.heap.size ≤ w'.heap.size) => sent_o h hz HOK.out oa ob)
          have HS2 := Lib.hid (fun w' (h : RLeO w.heap.size G w' q least rho ls) (hz : w.heap.size ≤ w'.heap.size) => rsent_o h hz HOK.out oa ob)
          have HK2 := Lib.hid (HOK.out.sent oa ob)
          generalize sentL ls oa ob = S at HS1 HS2 HK2
          obtain ⟨code, ls2⟩ := S
          simp only at HS1 HS2 HK2
          go_wp2_with fail
          go_region_held3 (fun w' => w'.cell? ⟨B, 1, none⟩ = some (.int .i64 oa) ∧ w'.cell? ⟨B, 2, none⟩ = some (.int .i64 ob)) (first | assumption | exact ⟨(Upd.refl (fun _ => False) _).drew.cell o1 (fun h => h), (Upd.refl (fun _ => False) _).drew.cell o2 (fun h => h)⟩ | exact ⟨x1, x2⟩ | exact ⟨y1, y2⟩) (first
            | (go_at_call 10; refine (HS1.out _ (H5.out.1.same (Upd.refl _ _).drew) hz6).mono ?_; rintro r w8 ⟨rfl, hg⟩; have hgU := hg.choose_spec.2.1; have hR8 := (H5.out.2.1.same (Upd.refl (fun _ => False) _).drew).upd hgU (fun k hk hf => H5.out.2.2.1 k hf hk); obtain ⟨x0, x1, x2⟩ := (HA.out.upd (Upd.refl (fun _ => False) _).drew (fun h => h)).upd hgU H5.out.2.2.2.2.1; have hz8 := hgU.size; have HG := Lib.hid hg; have HR8 := Lib.hid hR8; clear hg hgU hR8)
            | (go_at_call 14; refine (HS2.out _ HR8.out (by simp at hz8; omega)).mono ?_; rintro r w9 ⟨rfl, hg⟩; have hgU := hg.choose_spec.2.1; have y0 := hgU.cell x0 H5.out.2.2.2.2.2; have y1 := hgU.cell x1 H5.out.2.2.2.2.2; have y2 := hgU.cell x2 H5.out.2.2.2.2.2; have HPP := Lib.hid (LePair.both (H5.out.1.same (Upd.refl _ _).drew) (H5.out.2.1.same (Upd.refl _ _).drew) H5.out.2.2.1 (Same.trans H5.out.2.2.2.1 (Upd.refl _ _).drew) HK2.out HG.out hg); clear hg hgU))
          all_goals
            go_wp2_with fail
            go_meet
            exact ⟨rfl, ls2, HPP.out, y0, y1, y2⟩
      case rest =>
        obtain ⟨rfl, s2, ⟨F2, G2, hO2, hR2, hd2, hok2, hs2⟩, hA2⟩ := hcut
        obtain ⟨RA, rcap, r2⟩ := hR2.rounds
        obtain ⟨c0, c1, c2⟩ := hA2
        have HLN := Lib.hid (fun w' (h : Same wc w') => llen_o (hO2.same h))
        have HU1 := Lib.hid (fun w' (h : Same wc w') => until_o (hO2.same h) hok2 (by omega) ro)
        have HU2 := Lib.hid (fun w' (h : Same wc w') => until_o (hO2.same h) hok2 (by omega) oa)
        have HV1 := Lib.hid (fun w' (h : Same wc w') => runtil_o (hR2.same h) hok2 ⟨b1, b2, b3, b4⟩ ro)
        have HV2 := Lib.hid (fun w' (h : Same wc w') => runtil_o (hR2.same h) hok2 ⟨b1, b2, b3, b4⟩ oa)
        have HH1 := Lib.hid (fun w' (h : Same wc w') => holds_o (hO2.same h) hok2 (by omega) ro now)
        have HH2 := Lib.hid (fun w' (h : Same wc w') => holds_o (hO2.same h) hok2 (by omega) oa ob)
        have HI1 := Lib.hid (fun w' (h : Same wc w') => rholds_o (hR2.same h) hok2 ⟨b1, b2, b3, b4⟩ ro now)
        have HI2 := Lib.hid (fun w' (h : Same wc w') => rholds_o (hR2.same h) hok2 ⟨b1, b2, b3, b4⟩ oa ob)
        generalize untilL (least - 2 * rho) s2 ro = X1 at HU1 HV1
        generalize untilL (least - 2 * rho) s2 oa = X2 at HU2 HV2
        generalize holdsL (least - 2 * rho) s2 ro now = Y1 at HH1 HI1
        generalize holdsL (least - 2 * rho) s2 oa ob = Y2 at HH2 HI2
        obtain ⟨M2, hM2⟩ : ∃ M2, M2 = s2.length := ⟨_, rfl⟩
        rw [← hM2] at r2 HLN
        have HP2 : Hid (LePair w wc w.heap.size q least rho s2) := Lib.hid ⟨F2, G2, hO2, hR2, hd2, hok2, hs2⟩
        have HKP := Lib.hid (fun (a b : World) (hS : Same wc a ∧ a.cell? ⟨B, 1, none⟩ = some (.int .i64 oa) ∧ a.cell? ⟨B, 2, none⟩ = some (.int .i64 ob) ∧ a.cell? ⟨q, 2, none⟩ = some (.slice RA M2 rcap)) (hs : Same a b) => (⟨Same.trans hS.1 hs, hs.cell hS.2.1 (fun h => h), hs.cell hS.2.2.1 (fun h => h), hs.cell hS.2.2.2 (fun h => h)⟩ : Same wc b ∧ b.cell? ⟨B, 1, none⟩ = some (.int .i64 oa) ∧ b.cell? ⟨B, 2, none⟩ = some (.int .i64 ob) ∧ b.cell? ⟨q, 2, none⟩ = some (.slice RA M2 rcap)))
        clear hO2 hR2 hd2 hok2 hs2 hM2 o0 o1 o2 H5 HA HOK HP c0
        go_wp2_with fail
        go_region_held3 (fun w' => Same wc w' ∧ w'.cell? ⟨B, 1, none⟩ = some (.int .i64 oa) ∧ w'.cell? ⟨B, 2, none⟩ = some (.int .i64 ob) ∧ w'.cell? ⟨q, 2, none⟩ = some (.slice RA M2 rcap)) (first | assumption | exact ⟨(Upd.refl _ _).drew, (Upd.refl (fun _ => False) _).drew.cell c1 (fun h => h), (Upd.refl (fun _ => False) _).drew.cell c2 (fun h => h), (Upd.refl (fun _ => False) _).drew.cell r2 (fun h => h)⟩) (first
          | (go_at_call 15; have hS : (Same wc _ ∧ _ ∧ _ ∧ _) := (by assumption); ((with_reducible refine (HLN.out _ hS.1).mono ?_); rintro r wz ⟨rfl, hs⟩; have hS' := HKP.out _ _ hS hs))
          | (go_at_call 11; have hS : (Same wc _ ∧ _ ∧ _ ∧ _) := (by assumption); ((with_reducible refine (HU1.out _ hS.1).mono ?_); rintro r wz ⟨rfl, hs⟩; have hS' := HKP.out _ _ hS hs))
          | (go_at_call 11; have hS : (Same wc _ ∧ _ ∧ _ ∧ _) := (by assumption); ((with_reducible refine (HU2.out _ hS.1).mono ?_); rintro r wz ⟨rfl, hs⟩; have hS' := HKP.out _ _ hS hs))
          | (go_at_call 16; have hS : (Same wc _ ∧ _ ∧ _ ∧ _) := (by assumption); ((with_reducible refine (HV1.out _ hS.1).mono ?_); rintro r wz ⟨rfl, hs⟩; have hS' := HKP.out _ _ hS hs))
          | (go_at_call 16; have hS : (Same wc _ ∧ _ ∧ _ ∧ _) := (by assumption); ((with_reducible refine (HV2.out _ hS.1).mono ?_); rintro r wz ⟨rfl, hs⟩; have hS' := HKP.out _ _ hS hs))
          | (go_at_call 17; have hS : (Same wc _ ∧ _ ∧ _ ∧ _) := (by assumption); ((with_reducible refine (HH1.out _ hS.1).mono ?_); rintro r wz ⟨rfl, hs⟩; have hS' := HKP.out _ _ hS hs))
          | (go_at_call 17; have hS : (Same wc _ ∧ _ ∧ _ ∧ _) := (by assumption); ((with_reducible refine (HH2.out _ hS.1).mono ?_); rintro r wz ⟨rfl, hs⟩; have hS' := HKP.out _ _ hS hs))
          | (go_at_call 18; have hS : (Same wc _ ∧ _ ∧ _ ∧ _) := (by assumption); ((with_reducible refine (HI1.out _ hS.1).mono ?_); rintro r wz ⟨rfl, hs⟩; have hS' := HKP.out _ _ hS hs))
          | (go_at_call 18; have hS : (Same wc _ ∧ _ ∧ _ ∧ _) := (by assumption); ((with_reducible refine (HI2.out _ hS.1).mono ?_); rintro r wz ⟨rfl, hs⟩; have hS' := HKP.out _ _ hS hs)))
        all_goals
          have hS : (Same wc _ ∧ _ ∧ _ ∧ _) := (by assumption)
          have HSW := Lib.hid hS.1
          clear hS
          go_wp2_with fail
          go_roundw
          case rel => exact ⟨k + 1, by omega, by omega, by go_num, s2, HP2.out.same HSW.out⟩
          case measure => simp [intOf]; omega
    · have HE := Lib.hid hPr
      have HKN := Lib.hid known_any
      clear hPr HP
      have h1 : (k < N ∧ k = 200) ∨ k = N := by omega
      rcases h1 with ⟨h1, rfl⟩ | rfl
      · have g1 : (200 : Int) < (N : Int) := by omega
        go_wp2_with fail
        refine (nil_reset _).mono ?_
        rintro r w4 ⟨rfl, rfl⟩
        go_wp2_with fail
        refine (nil_sent _).mono ?_
        rintro r w4 ⟨rfl, rfl⟩
        go_wp2_with fail
        refine (nil_until _).mono ?_
        rintro r w5 ⟨rfl, hs5⟩
        have HS5 := Lib.hid hs5
        clear hs5
        go_wp2_with fail
        refine (nil_holds _).mono ?_
        rintro r w6 ⟨rfl, hs6⟩
        have HS6 := Lib.hid hs6
        clear hs6
        go_wp2_with fail
        refine (nil_len _).mono ?_
        rintro r w7 ⟨rfl, rfl⟩
        go_wp2_with fail
        refine (HKN.out _).mono ?_
        rintro r w8 ⟨rfl, hs8⟩
        have HS8 := Lib.hid hs8
        clear hs8
        go_wp2_with fail
        go_ret
        obtain ⟨F, G, hO, hR, hd, hok, hs⟩ := HE.out
        exact ⟨rfl, Same.trans hs (Same.trans HS5.out (Same.trans HS6.out HS8.out))⟩
      · go_wp2_with fail
        refine (nil_reset _).mono ?_
        rintro r w4 ⟨rfl, rfl⟩
        go_wp2_with fail
        refine (nil_sent _).mono ?_
        rintro r w4 ⟨rfl, rfl⟩
        go_wp2_with fail
        refine (nil_until _).mono ?_
        rintro r w5 ⟨rfl, hs5⟩
        have HS5 := Lib.hid hs5
        clear hs5
        go_wp2_with fail
        refine (nil_holds _).mono ?_
        rintro r w6 ⟨rfl, hs6⟩
        have HS6 := Lib.hid hs6
        clear hs6
        go_wp2_with fail
        refine (nil_len _).mono ?_
        rintro r w7 ⟨rfl, rfl⟩
        go_wp2_with fail
        refine (HKN.out _).mono ?_
        rintro r w8 ⟨rfl, hs8⟩
        have HS8 := Lib.hid hs8
        clear hs8
        go_wp2_with fail
        go_ret
        obtain ⟨F, G, hO, hR, hd, hok, hs⟩ := HE.out
        exact ⟨rfl, Same.trans hs (Same.trans HS5.out (Same.trans HS6.out HS8.out))⟩
end Go.Proofs.Ytoepflfchcoogaa
