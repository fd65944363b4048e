/- The walk of LeaseAlone. -/
import Derived.Test.YtoepflfchcoogaaAlone
namespace Go.Proofs.Ytoepflfchcoogaa
open Go.RowKit
set_option linter.unusedVariables false
set_option linter.unusedSimpArgs false
attribute [local go_sem ↓] Go.wp_at_zero Go.wp_at_succ
/-- A lease beside a world's clocks. -/
def AlSt (w0 W : World) (p : Nat) (s : WrS) (cs : List Int) (q : Nat) (h : Int) (ls : List (Int × Int)) : Prop :=
  Clk w0 W p s cs ∧ ∃ F, LeO w0.heap.size F W q h ls ∧ ¬ F p ∧ ∀ k, room s.vc = some k → ¬ F k
section
variable {w0 W W' : World} {p q : Nat} {s : WrS} {cs cs' : List Int} {h : Int} {ls ls' : List (Int × Int)}
theorem AlSt.same (a : AlSt w0 W p s cs q h ls) (hs : Same W W') : AlSt w0 W' p s cs q h ls := by
  obtain ⟨h1, F, h2, h3, h4⟩ := a
  exact ⟨h1.same hs, F, h2.same hs, h3, h4⟩
theorem AlSt.ticked (a : AlSt w0 W p s cs q h ls) (hc : Clk w0 W' p s cs') (hu : Upd (fun k => room s.vc = some k) W W') : AlSt w0 W' p s cs' q h ls := by
  obtain ⟨h1, F, h2, h3, h4⟩ := a
  exact ⟨hc, F, h2.upd hu (fun k hk e => h4 k e hk), h3, h4⟩
theorem AlSt.sent' {F : Nat → Prop} (h1 : Clk w0 W p s cs) (h2 : LeO w0.heap.size F W q h ls) (h3 : ¬ F p) (h4 : ∀ k, room s.vc = some k → ¬ F k) (hg : LGrew w0.heap.size F W q W' h ls') : AlSt w0 W' p s cs q h ls' := by
  obtain ⟨F', h5, h6⟩ := hg
  obtain ⟨c1, c2, c3, c4, c5, c6, c7⟩ := h1
  have hf : Foot w0.heap.size F W := by obtain ⟨v, a1, a2, a3⟩ := h2; exact a3
  refine ⟨⟨c1.upd h6.1 h3, c2.upd h6.1 (fun k hk e => h4 k hk e), c3, c4, c5, c6, Same.into c7 h6.1 fun k hk => (hf k hk).1⟩, F', h5, fun e => ?_, fun k hk e => ?_⟩
  · rcases h6.2 p e with e | e
    · exact h3 e
    · have := c1.lt; omega
  · rcases h6.2 k e with e | e
    · exact h4 k hk e
    · have := (c2.ge (by decide) k hk).2; omega
end
set_option maxRecDepth 100000 in
set_option maxHeartbeats 4000000 in
theorem leaseAlone_walk (w : World) (least : Int) (hle : -9223372036854775808 ≤ least ∧ least ≤ 9223372036854775807) (rho : Int) (hrh : -9223372036854775808 ≤ rho ∧ rho ≤ 9223372036854775807)
    (va : Value) (xa : List Int) (ha : NumsAt w va xa) (vb : Value) (xb : List Int) (hb : NumsAt w vb xb) (vc : Value) (xc : List Int) (hc : NumsAt w vc xc) :
    Calls Try.prog 7 #[.int .i64 least, .int .i64 rho, va, vb, vc] w fun e w' => e = .returned (.bool true) ∧ Same w w' := by
  have HC1 := Lib.hid (count_any least 60 w (by decide) (by decide) hle.1 hle.2)
  have HC2 := Lib.hid (count_any rho 20 w (by decide) (by decide) hrh.1 hrh.2)
  obtain ⟨l1, l2⟩ : 0 ≤ least % 60 ∧ least % 60 < 60 := ⟨Int.emod_nonneg _ (by decide), Int.emod_lt_of_pos _ (by decide)⟩
  obtain ⟨r1, r2⟩ : 0 ≤ rho % 20 ∧ rho % 20 < 20 := ⟨Int.emod_nonneg _ (by decide), Int.emod_lt_of_pos _ (by decide)⟩
  generalize least % 60 = L0 at HC1 l1 l2
  generalize rho % 20 = R0 at HC2 r1 r2
  obtain ⟨Rn, hR⟩ : ∃ Rn : Nat, 1 + R0 = Rn := ⟨(1 + R0).toNat, by omega⟩
  have HNW := Lib.hid (wnew_any 2 Rn (by decide) (by decide) (by omega) (by omega) w)
  have HLN := Lib.hid (fun w' => lnew_good (1 + L0) (1 + R0) w' (by omega) (by omega) (by omega) (by omega))
  rw [← hR] at HNW
  have HRn := Lib.hid hR
  have HA := Lib.hid ha
  have HB := Lib.hid hb
  obtain ⟨A, cap, rfl, q1, q2, -⟩ := id hc
  have HC := Lib.hid hc
  obtain ⟨N, hN⟩ : ∃ N, N = xc.length := ⟨_, rfl⟩
  rw [← hN] at q1 ⊢
  have HN := Lib.hid hN
  clear hle hrh ha hb hc hN hR
  go_enter Try.func7, Try.ntmps7
  go_wp2_with fail
  refine HC1.out.mono ?_
  rintro e w1 ⟨rfl, rfl⟩
  go_wp2_with fail
  refine HC2.out.mono ?_
  rintro e w1 ⟨rfl, rfl⟩
  go_wp2_with fail
  refine HNW.out.mono ?_
  rintro e w1 hnew
  obtain rfl := hnew.1
  have HNEW := Lib.hid hnew
  clear hnew
  go_wp2_with fail
  refine (HLN.out _).mono ?_
  rintro e w2 ⟨rfl, hlc, hs2⟩
  have hck := Clk.new HNEW.out (by decide) (by decide) (by have := HRn.out; omega) (by have := HRn.out; omega)
  generalize hs0 : (⟨(Rn : Int), .slice none 0 0, 0, .slice (some ⟨w.heap.size, 0, none⟩) 2 2, 0, 0, 0, false⟩ : WrS) = s at hck
  have hrho : s.rho = 1 + R0 := by rw [← hs0]; exact HRn.out.symm
  obtain ⟨hlo, hlok⟩ := lnew_o _ w1 hlc w.heap.size hck.2.2.2.2.2.2.size
  have hst : AlSt w w2 (w.heap.size + 1) s (List.replicate 2 0) w1.heap.size (1 + L0 - 2 * (1 + R0)) [] :=
    ⟨hck.same hs2, _, hlo, fun e => by have := hck.1.lt; omega, fun k hk e => by have := (hck.2.1.ge (by decide) k hk).2; omega⟩
  have HRHO := Lib.hid hrho
  have HST := Lib.hid hst
  clear hck hs0 hrho hlo hlok hlc hs2 hst HNEW HLN HNW HC1 HC2
  generalize w1.heap.size = q at HST ⊢
  generalize w.heap.size + 1 = p at HST ⊢
  go_wp2_with fail
  refine (ticks_any HST.out.1 HA.out).mono ?_
  rintro e w3 ⟨rfl, cs1, hT⟩
  have HS1 := Lib.hid (HST.out.ticked hT.1 hT.2.1)
  have HL1 : Hid (cs1.length = 2) := Lib.hid hT.2.2.1
  clear hT HST
  go_wp2_with fail
  refine (clock_o HS1.out.1 0 (by have := HL1.out; omega)).mono ?_
  rintro e w4 ⟨rfl, hs4⟩
  have HS2 := Lib.hid (HS1.out.same hs4)
  obtain ⟨t1, t2⟩ := HS1.out.1.2.2.1.2.2.2.2 0
  obtain ⟨t0, ht0⟩ : ∃ t0, t0 = cs1.getD 0 0 := ⟨_, rfl⟩
  rw [← ht0] at t1 t2 ⊢
  have HT0 := Lib.hid ht0
  clear hs4 HS1 ht0
  obtain ⟨F, ho, hn1, hn2⟩ := HS2.out.2
  have hse := sent_o ho HS2.out.1.2.2.2.2.2.2.size ⟨by simp, by simp⟩ 1 t0
  rw [sent_first t0 t1 t2] at hse
  have HSE := Lib.hid hse
  have HF := Lib.hid (And.intro ho (And.intro hn1 hn2))
  clear hse ho hn1 hn2
  go_wp2_with fail
  refine HSE.out.mono ?_
  rintro e w5 ⟨rfl, hg⟩
  have HS3 := Lib.hid (AlSt.sent' HS2.out.1 HF.out.1 HF.out.2.1 HF.out.2.2 hg)
  clear hg HF HSE HS2
  go_wp2_with fail
  refine (ticks_any HS3.out.1 HB.out).mono ?_
  rintro e w6 ⟨rfl, cs2, hT⟩
  have HS4 := Lib.hid (HS3.out.ticked hT.1 hT.2.1)
  have HL2 : Hid (cs2.length = 2) := Lib.hid (hT.2.2.1.trans HL1.out)
  have HMO : Hid (t0 ≤ cs2.getD 0 0) := Lib.hid (by rw [HT0.out]; exact hT.2.2.2 0)
  clear hT HS3
  go_wp2_with fail
  refine (clock_o HS4.out.1 1 (by have := HL2.out; omega)).mono ?_
  rintro e w7 ⟨rfl, hs7⟩
  have HS5 := Lib.hid (HS4.out.same hs7)
  have HNR : Hid (cs2.getD 0 0 - cs2.getD 1 0 ≤ 1 + R0) := Lib.hid (by rw [← HRHO.out]; exact HS5.out.1.2.2.2.1 0 1 (by have := HL2.out; omega) (by have := HL2.out; omega))
  obtain ⟨u1, u2⟩ := HS5.out.1.2.2.1.2.2.2.2 1
  obtain ⟨hd, hhd⟩ : ∃ hd, hd = cs2.getD 1 0 := ⟨_, rfl⟩
  rw [← hhd] at u1 u2 HNR ⊢
  clear hs7 HS4 hhd
  go_wp2_with fail
  go_loopw [16] (fun v16 wr => ∃ k : Nat, k ≤ N ∧ k ≤ 300 ∧ v16 = .int .i64 k ∧ Hid (∃ cs, AlSt w wr p s cs q (1 + L0 - 2 * (1 + R0)) [(1, t0)] ∧ cs.length = 2)) (fun v16 _ => N - (intOf v16).toNat)
  case atStart => exact ⟨0, by omega, by omega, rfl, Lib.hid ⟨_, HS5.out, HL2.out⟩⟩
  case round =>
    obtain ⟨k, hk, hk3, rfl, hT⟩ := hrel
    clear HS5
    by_cases hlt : k < N ∧ k < 300
    · obtain ⟨hlt1, hlt2⟩ := hlt
      have g1 : (k : Int) < (N : Int) := by omega
      have g2 : (k : Int) < 300 := by omega
      obtain ⟨cs3, a3, l3⟩ := hT.out
      obtain ⟨A', cap', e0, _, _, hcells⟩ := HC.out.same a3.1.2.2.2.2.2.2
      injection e0 with e1 e2 e3
      subst e1
      obtain ⟨b, off, rfl, c0, r0⟩ := hcells k (by have := HN.out; omega)
      generalize xc.getD k 0 = z at c0 r0
      have HCT := Lib.hid (count_any z 2 wr (by decide) (by decide) r0.1 r0.2)
      have HT1 := Lib.hid (tick_o a3.1 (z % 2))
      generalize z % 2 = z2 at HCT HT1
      have HA3 := Lib.hid a3
      have HL3 := Lib.hid l3
      clear hcells hT a3 l3 e2 e3
      go_wp2_with fail
      refine HCT.out.mono ?_
      rintro e w8 ⟨rfl, rfl⟩
      go_wp2_with fail
      refine HT1.out.mono ?_
      rintro e w9 ⟨c, cs4, rfl, hT4⟩
      have HA4 := Lib.hid (HA3.out.ticked hT4.1 hT4.2.1)
      have HL4 : Hid (cs4.length = 2) := Lib.hid (hT4.length.trans HL3.out)
      clear hT4 HT1 HA3
      go_wp2_with fail
      refine (clock_o HA4.out.1 0 (by have := HL4.out; omega)).mono ?_
      rintro e w10 ⟨rfl, hs10⟩
      have HA5 := Lib.hid (HA4.out.same hs10)
      have HNR2 : Hid (cs4.getD 1 0 - cs4.getD 0 0 ≤ 1 + R0) := Lib.hid (by rw [← HRHO.out]; exact HA5.out.1.2.2.2.1 1 0 (by have := HL4.out; omega) (by have := HL4.out; omega))
      have HHO := Lib.hid (holds_o HA5.out.2.choose_spec.1 (ls := [(1, t0)]) ⟨by simp, by simp; omega⟩ (by omega) 1 (cs4.getD 0 0))
      clear hs10 HA4
      go_wp2_with fail
      refine HHO.out.mono ?_
      rintro e w11 ⟨rfl, hs11⟩
      have HA6 := Lib.hid (HA5.out.same hs11)
      clear hs11 HA5
      by_cases hh : holdsL (1 + L0 - 2 * (1 + R0)) [(1, t0)] 1 (cs4.getD 0 0) = true
      · have HLW := Lib.hid (alone_law hh HNR2.out HNR.out HMO.out t1)
        rw [hh]
        obtain ⟨y1, y2⟩ := HA6.out.1.2.2.1.2.2.2.2 1
        have HCK := Lib.hid (clock_o HA6.out.1 1 (by have := HL4.out; omega))
        obtain ⟨y, hy⟩ : ∃ y, y = cs4.getD 1 0 := ⟨_, rfl⟩
        rw [← hy] at y1 y2 HLW HCK
        have g5 : ¬ (1 + L0 ≤ y - hd) := by have := HLW.out; omega
        clear hh hy HNR2 HHO
        go_wp2_with fail
        refine HCK.out.mono ?_
        rintro e w12 ⟨rfl, hs12⟩
        have HA7 := Lib.hid (HA6.out.same hs12)
        clear hs12
        go_wp2_with fail
        go_roundw
        case rel => exact ⟨k + 1, by omega, by omega, by go_num, Lib.hid ⟨cs4, HA7.out, HL4.out⟩⟩
        case measure => simp [intOf]; omega
      · have hf : holdsL (1 + L0 - 2 * (1 + R0)) [(1, t0)] 1 (cs4.getD 0 0) = false := by simpa using hh
        rw [hf]
        clear hf hh HHO
        go_wp2_with fail
        go_roundw
        case rel => exact ⟨k + 1, by omega, by omega, by go_num, Lib.hid ⟨cs4, HA6.out, HL4.out⟩⟩
        case measure => simp [intOf]; omega
    · have h1 : (k < N ∧ k = 300) ∨ N = k := by omega
      have HKN := Lib.hid known_any
      rcases h1 with ⟨h1, rfl⟩ | rfl
      · have g1 : (300 : Int) < (N : Int) := by omega
        go_wp2_with fail
        refine (HKN.out _).mono ?_
        rintro r w8 ⟨rfl, hs8⟩
        have HS8 := Lib.hid hs8
        clear hs8
        go_wp2_with fail
        go_ret
        obtain ⟨cs, a, -⟩ := hT.out
        exact ⟨rfl, Same.trans a.1.2.2.2.2.2.2 HS8.out⟩
      · go_wp2_with fail
        refine (HKN.out _).mono ?_
        rintro r w8 ⟨rfl, hs8⟩
        have HS8 := Lib.hid hs8
        clear hs8
        go_wp2_with fail
        go_ret
        obtain ⟨cs, a, -⟩ := hT.out
        exact ⟨rfl, Same.trans a.1.2.2.2.2.2.2 HS8.out⟩
end Go.Proofs.Ytoepflfchcoogaa
