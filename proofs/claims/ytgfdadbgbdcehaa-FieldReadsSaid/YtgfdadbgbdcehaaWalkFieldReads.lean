/- The walk of FieldReads. -/
import Derived.Test.YtgfdadbgbdcehaaTwo
import Derived.Test.YtgfdadbgbdcehaaKnown02
import Derived.Test.YtgfdadbgbdcehaaWalkFieldParts
import Derived.Deep.DeepCutAuto
import Derived.Deep.CutBlock
import Derived.Deep.RegionHeld3
import Derived.Deep.RegionLaw
namespace Go.Proofs.Ytgfdadbgbdcehaa
open Go.RowKit
set_option linter.unusedVariables false
set_option linter.unusedSimpArgs false

theorem WObj.mono {base base' : Nat} {w : World} {p : Nat} {v : Value} {bs : List UInt8} {e : Int} (h : WObj base w p v bs e) (hb : base' ≤ base) : WObj base' w p v bs e := ⟨Nat.le_trans hb h.1, h.2.1, h.2.2.1.mono hb, h.2.2.2⟩
/-- A field in a block. -/
def Op4 (W : World) (B : Nat) (k s n : Int) (v : Value) : Prop :=
  W.cell? ⟨B, 0, none⟩ = some (.int .i64 k) ∧ W.cell? ⟨B, 1, none⟩ = some (.int .i64 s) ∧ W.cell? ⟨B, 2, none⟩ = some (.int .i64 n) ∧ W.cell? ⟨B, 3, none⟩ = some v
theorem Op4.upd {S : Nat → Prop} {W W' : World} {B : Nat} {k s n : Int} {v : Value} (h : Op4 W B k s n v) (hu : Upd S W W') (hn : ¬ S B) : Op4 W' B k s n v := ⟨hu.cell h.1 hn, hu.cell h.2.1 hn, hu.cell h.2.2.1 hn, hu.cell h.2.2.2 hn⟩
theorem Op4.new (W : World) (k s n : Int) (v : Value) (t : TypeId) (B : Nat) (hB : B = W.heap.size) : Op4 (W.alloc (.cells #[.int .i64 k, .int .i64 s, .int .i64 n, v] t)) B k s n v := by
  subst hB
  have h : (W.alloc (.cells #[.int .i64 k, .int .i64 s, .int .i64 n, v] t)).heap[W.heap.size]? = some (.cells #[.int .i64 k, .int .i64 s, .int .i64 n, v] t) := heap_alloc_new W _
  refine ⟨?_, ?_, ?_, ?_⟩ <;> rw [cell_of_row _ _ _ _ t (0, 0) h] <;> rfl
set_option maxRecDepth 10000 in
set_option maxHeartbeats 4000000 in
theorem fieldReads_walk (w : World) (v : Value) (bs : List UInt8) (h : Bs w v bs) (hl : bs.length ≤ 140737488351232) (l : Value) (os : List OpD) (ho : OpsAt w l os) :
    Calls Try.prog 8 #[v, l] w fun e w' => e = .returned (.bool true) ∧ Same w w' := by
  obtain ⟨A, cap, rfl, q1, q2, q3⟩ := id ho
  have HOS := Lib.hid ho
  obtain ⟨N, hN⟩ : ∃ N, N = os.length := ⟨_, rfl⟩
  rw [← hN] at q1
  have HN := Lib.hid hN
  clear q3 ho
  rw [show os.length = N from hN.symm]
  clear hN
  go_enter Try.func8, Try.ntmps8
  go_wp2_with fail
  refine (lent_bs v bs w h hl).mono ?_
  rintro e w1 ⟨v1, rfl, hv1, hs1⟩
  go_wp2_with fail
  refine (newReader_any v1 bs w1 hv1.bs (by omega)).mono ?_
  rintro e w2 ⟨p, v2, rfl, hp, hs2⟩
  go_wp2_with fail
  refine (spoil_bs v1 bs w2 (hv1.fresh.same hs2) (by have := hs1.size; have := hs2.size; omega) hl).mono ?_
  rintro e w3 ⟨rfl, hu3⟩
  have hp3 : WObj w1.heap.size w3 p v2 bs 0 := hp.upd hu3 fun k h1 h2 => by
    have h4 := (hp.foot k h1).1
    have h5 := (hv1.room k h2).2
    omega
  have hs3 : Same w w3 := Same.into (Same.trans hs1 hs2) hu3 fun k e => (hv1.room k e).1
  go_wp2_with fail
  refine (of_any v bs w3 (h.same hs3) (by omega)).mono ?_
  rintro e w4 ⟨q, v3, rfl, hq, hs4⟩
  have hT : Two w w4 p v2 bs 0 q v3 bs 0 := ⟨(hp3.upd hs4 fun _ _ h => h).mono hs1.size, hq.mono hs3.size, fun k h1 h2 => by
    have h4 := (hp3.foot k h1).2
    have h5 := (hq.foot k h2).1
    omega, Same.trans hs3 hs4⟩
  clear hv1 hp hp3 hu3 hq hs1 hs2 hs3 hs4
  have HT := Lib.hid hT
  clear hT
  go_wp2_with fail
  go_loopw [8] (fun v8 wr => ∃ k : Nat, k ≤ N ∧ v8 = .int .i64 k ∧ ∃ a b bs' e', bs'.length ≤ bs.length ∧ Two w wr p a bs' e' q b bs' e') (fun v8 _ => N - (intOf v8).toNat)
  case atStart => exact ⟨0, by omega, rfl, _, _, bs, 0, Nat.le_refl _, HT.out⟩
  case round =>
    obtain ⟨k, hk, rfl, a, b, bs', e', hlen, hT⟩ := hrel
    by_cases hlt : k < N ∧ k < 60
    · obtain ⟨hlt1, hlt2⟩ := hlt
      have g1 : (k : Int) < (N : Int) := by omega
      have g2 : (k : Int) < 60 := by omega
      have hko : k < os.length := by have := HN.out; omega
      obtain ⟨A', cap', e0, _, _, hcells⟩ := HOS.out.same hT.2.2.2
      injection e0 with e1 e2 e3
      subst e1
      obtain ⟨ob, off, rfl, o0, o1, o2, o3, ob4, ob5, ob6, ob7, ob8⟩ := hcells k hko
      generalize os[k] = o at o0 o1 o2 o3 ob4 ob5 ob6 ob7 ob8
      obtain ⟨ok, osz, on, ov, ops⟩ := o
      simp only at o0 o1 o2 o3 ob4 ob5 ob6 ob7 ob8
      obtain ⟨oA, oc, rfl, _, _, _⟩ := ob4
      have HTT := Lib.hid hT
      clear hcells hT e2 e3
      by_cases hk4 : ok = 4
      · subst hk4
        have hT5 := HTT.out.same ((Upd.refl (fun _ => False) wr).alloc (.cells #[.int .i64 4, .int .i64 osz, .int .i64 on, .slice oA ops.length oc] 55))
        have hO5 := Op4.new wr 4 osz on (.slice oA ops.length oc) 55 _ rfl
        have H5 := Lib.hid hT5
        have HO5 := Lib.hid hO5
        clear hT5 hO5
        go_wp2_with fail
        refine (rbytes_any p a bs' e' osz _ H5.out.1 H5.out.base (by omega) ob7.1 ob7.2).mono ?_
        rintro r w6 ⟨x, rfl, hx, hg⟩
        obtain ⟨a1, hT6, hu6, hr6⟩ := H5.out.rd hg
        have hO6 := HO5.out.upd hu6 fun e => by have := HTT.out.1.2.1.lt; omega
        obtain ⟨xA, xc, rfl⟩ := Fresh.shape' hx
        have hbs6 := hx.bs
        have hd1 := hO6.2.1
        have hcv : ∀ w' : World, Bs w' (.slice xA (rbP bs' e' osz).length xc) (rbP bs' e' osz) → (convert 28 9 (.slice xA (rbP bs' e' osz).length xc)).run Try.prog w' = .ok (.string (strB (rbP bs' e' osz))) w' := fun w' hb => conv_bs (P := Try.prog) Try.underlying28 Try.underlying5 Try.underlying9 hb
        have hpl : (rbP bs' e' osz).length ≤ bs'.length := by
          unfold rbP
          split
          · simp
          · exact cutP_le bs' osz
        have hll : (rbL bs' e' osz).length ≤ bs'.length := by
          unfold rbL
          split
          · exact Nat.le_refl _
          · split
            · simp
            · exact Nat.le_refl _
        generalize hPX : rbP bs' e' osz = P at hx hbs6 hcv hpl
        generalize hLX : rbL bs' e' osz = L at hT6 hll
        generalize hEX : rbE bs' e' osz = E at hT6
        have hPP : eqB P P = true := eqB_true rfl
        have hrx := hx.ge
        have HPX := Lib.hid hPX
        have HLX := Lib.hid hLX
        have HEX := Lib.hid hEX
        have H6 := Lib.hid hT6
        have HO6 := Lib.hid hO6
        have HX := Lib.hid hx
        have hlw := (HTT.out.1.2.1.lt)
        have hlwf := HTT.out.1.foot
        clear hT6 hO6 hx hPX hLX hEX hg hu6
        go_wp2_with fail
        have hcx6 := conv_bs (P := Try.prog) (src := 28) (dst := 9) Try.underlying28 Try.underlying5 Try.underlying9 (Bs.same hbs6 (Upd.refl _ _).drew)
        have hd6 : w6.drew.cell? ⟨wr.heap.size, 1, none⟩ = some (.int .i64 osz) := (Upd.refl (fun _ => False) w6).drew.cell hd1 id
        go_region_law (first
          | (go_simp; go_at_call 43; refine (rrbytes_any q b bs' e' osz _ (H6.out.same (Upd.refl _ _).drew).2.1 (H6.out.same (Upd.refl _ _).drew).base (by omega) ob7.1 ob7.2).mono ?_; rintro r w7 ⟨y, rfl, hy, hg7⟩; obtain ⟨b1, hT7, hu7, hr7⟩ := (H6.out.same (Upd.refl _ _).drew).q hg7; have hbs7 : Bs w7 (.slice xA P.length xc) P := Bs.upd (Bs.same hbs6 (Upd.refl _ _).drew) hu7 (fun k h1 h2 => by have h3 := (hrx k h1).1; have h4 := (HTT.out.2.1.foot k h2).2; simp at h3; omega); have hd7 : w7.cell? ⟨wr.heap.size, 1, none⟩ = some (.int .i64 osz) := hu7.cell ((Upd.refl (fun _ => False) w6).drew.cell hd1 id) (fun e => by have := (HTT.out.2.1.foot _ e).2; simp at this); have hS7 := And.intro hbs7 hd7; rw [HPX.out] at hy; obtain ⟨yA, yc, rfl⟩ := Fresh.shape' hy; have hcx7 := conv_bs (P := Try.prog) (src := 28) (dst := 9) Try.underlying28 Try.underlying5 Try.underlying9 hbs7; have hcy := conv_bs (P := Try.prog) (src := 28) (dst := 9) Try.underlying28 Try.underlying5 Try.underlying9 hy.bs; rw [HLX.out, HEX.out] at hT7; have H7 := Lib.hid hT7; have HU7 := Lib.hid hu7; have HR7 := Lib.hid hr7; clear hT7 hu7 hr7 hy hg7))
        all_goals
          have hx7 := (HX.out.same (Upd.refl _ _).drew).upd HU7.out (fun k h1 h2 => by have h3 := (hrx k h1).1; have h4 := (HTT.out.2.1.foot k h2).2; simp at h3; omega)
          have hz7 := HU7.out.size
          go_wp2_with fail
          refine (spoil_bs _ P w7 hx7 (by have := (H6.out.base); have := HO6.out.1; have := cell_lt this; simp at *; omega) (by omega)).mono ?_
          rintro r w8 ⟨rfl, hu8⟩
          have hT8 := H7.out.upd hu8 (fun k h1 h2 => by
            have h3 := (hrx k h2).1
            rcases h1 with rfl | h1
            · have := HTT.out.1.2.1.lt; simp at h3; omega
            · have := (HTT.out.1.foot k (.inr (hr6 k h1))).2; simp at h3; omega) (fun k h1 h2 => by
            have h3 := hrx k h2
            rcases h1 with rfl | h1
            · have := HTT.out.2.1.2.1.lt; simp at h3; omega
            · rcases HR7.out k h1 with h1 | h1
              · have := (HTT.out.2.1.foot k (.inr h1)).2; simp at h3; omega
              · simp at h1; omega) (fun k h2 => by have h3 := (hrx k h2).1; have := HTT.out.base; simp at h3; omega)
          have H8 := Lib.hid hT8
          clear hT8 hu8 hx7
          go_wp2_with fail
          refine (rend_any p a1 L E w8 H8.out.1).mono ?_
          rintro r w' ⟨rfl, rfl⟩
          go_wp2_with fail
          refine (rrend_any q b1 L E w8 H8.out.2.1).mono ?_
          rintro r w' ⟨rfl, rfl⟩
          go_wp2_with fail
          go_roundw
          case rel => exact ⟨k + 1, by omega, by go_num, a1, b1, L, E, by omega, H8.out⟩
          case measure => simp [intOf]; omega
      · by_cases hk5 : ok = 5
        · subst hk5
          have hT5 := HTT.out.same ((Upd.refl (fun _ => False) wr).alloc (.cells #[.int .i64 5, .int .i64 osz, .int .i64 on, .slice oA ops.length oc] 55))
          have hO5 := Op4.new wr 5 osz on (.slice oA ops.length oc) 55 _ rfl
          have H5 := Lib.hid (hT5.same (Upd.refl _ _).drew)
          have HP5 := Lib.hid H5.out.1
          have HQ5 := Lib.hid H5.out.2.1
          have d51 := hO5.2.1
          have d52 := hO5.2.2.1
          have hnp : ¬ wr.heap.size = p := by have := HTT.out.1.2.1.lt; omega
          have hnq : ¬ wr.heap.size = q := by have := HTT.out.2.1.2.1.lt; omega
          have hll : (rcL bs' e' osz on).length ≤ bs'.length := by
            unfold rcL
            split
            · unfold rnL
              split <;> simp
            · exact Nat.le_refl _
          generalize hLX : rcL bs' e' osz on = L at hll
          generalize hEX : rcE bs' e' osz on = E
          generalize hNX : rcN bs' e' osz on = NX
          have HLX := Lib.hid hLX
          have HEX := Lib.hid hEX
          have HNX := Lib.hid hNX
          clear hT5 hO5 hLX hEX hNX
          go_wp2_with fail
          go_region_held3 (fun w' => w'.cell? ⟨wr.heap.size, 1, none⟩ = some (.int .i64 osz) ∧ w'.cell? ⟨wr.heap.size, 2, none⟩ = some (.int .i64 on)) (first | assumption | exact ⟨(Upd.refl (fun _ => False) _).drew.cell d51 id, (Upd.refl (fun _ => False) _).drew.cell d52 id⟩)
            (first
            | (go_at_call 44; (with_reducible refine (rcount_any p a bs' e' osz on _ HP5.out (by omega) ob7.1 ob7.2 ob8.1 ob8.2).mono ?_); rintro r w7 ⟨rfl, hg⟩; rw [HLX.out, HEX.out] at hg; rw [HNX.out]; obtain ⟨a1, hT7, hu7, hr7⟩ := H5.out.rd hg; have hc1 := hu7.cell ((Upd.refl (fun _ => False) _).drew.cell d51 id) hnp; have hc2 := hu7.cell ((Upd.refl (fun _ => False) _).drew.cell d52 id) hnp; have hS7 := And.intro hc1 hc2; have hn7 := hT7.2.1)
            | (go_at_call 45; (with_reducible refine (rrcount_any q b bs' e' osz on _ HQ5.out (by omega) ob7.1 ob7.2 ob8.1 ob8.2).mono ?_); rintro r w7 ⟨rfl, hg⟩; rw [HLX.out, HEX.out] at hg; rw [HNX.out]; obtain ⟨b1, hT7q, hu7, hr7⟩ := H5.out.rdq hg; have hc1 := hu7.cell ((Upd.refl (fun _ => False) _).drew.cell d51 id) hnq; have hc2 := hu7.cell ((Upd.refl (fun _ => False) _).drew.cell d52 id) hnq; have hS7 := And.intro hc1 hc2; have hn7 := hT7q.1)
            | (go_at_call 45; (with_reducible refine (rrcount_any q b bs' e' osz on _ hn7 (by omega) ob7.1 ob7.2 ob8.1 ob8.2).mono ?_); rintro r w8 ⟨rfl, hg8⟩; rw [HLX.out, HEX.out] at hg8; rw [HNX.out]; obtain ⟨b1, hT8, hu8, hr8⟩ := hT7.rdq hg8; have hc3 := hu8.cell hc1 hnq; have hc4 := hu8.cell hc2 hnq; have hS8 := And.intro hc3 hc4)
            | (go_at_call 44; (with_reducible refine (rcount_any p a bs' e' osz on _ hn7 (by omega) ob7.1 ob7.2 ob8.1 ob8.2).mono ?_); rintro r w8 ⟨rfl, hg8⟩; rw [HLX.out, HEX.out] at hg8; rw [HNX.out]; obtain ⟨a1, hT8, hu8, hr8⟩ := hT7q.rd hg8; have hc3 := hu8.cell hc1 hnp; have hc4 := hu8.cell hc2 hnp; have hS8 := And.intro hc3 hc4))
          all_goals
            have H8 := Lib.hid hT8
            clear hT8
            go_wp2_with fail
            refine (rend_any p a1 L E w8 H8.out.1).mono ?_
            rintro r w' ⟨rfl, rfl⟩
            go_wp2_with fail
            refine (rrend_any q b1 L E w8 H8.out.2.1).mono ?_
            rintro r w' ⟨rfl, rfl⟩
            go_wp2_with fail
            go_roundw
            case rel => exact ⟨k + 1, by omega, by go_num, a1, b1, L, E, by omega, H8.out⟩
            case measure => simp [intOf]; omega
        · have hb4 : (ok == 4) = false := by simpa using hk4
          have hb5 : (ok == 5) = false := by simpa using hk5
          clear hk4 hk5
          have hT5 := HTT.out.same ((Upd.refl (fun _ => False) wr).alloc (.cells #[.int .i64 ok, .int .i64 osz, .int .i64 on, .slice oA ops.length oc] 55))
          have hO5 := Op4.new wr ok osz on (.slice oA ops.length oc) 55 _ rfl
          have H5 := Lib.hid (hT5.same (Upd.refl _ _).drew)
          have HP5 := Lib.hid H5.out.1
          have HQ5 := Lib.hid H5.out.2.1
          have d51 := hO5.2.1
          have d52 := hO5.2.2.1
          have hnp : ¬ wr.heap.size = p := by have := HTT.out.1.2.1.lt; omega
          have hnq : ¬ wr.heap.size = q := by have := HTT.out.2.1.2.1.lt; omega
          have hll : (rnL bs' e' osz).length ≤ bs'.length := by
            unfold rnL
            split <;> simp
          generalize hLX : rnL bs' e' osz = L at hll
          generalize hEX : rnE e' osz bs'.length = E
          generalize hNX : rnN bs' e' osz = NX
          have HLX := Lib.hid hLX
          have HEX := Lib.hid hEX
          have HNX := Lib.hid hNX
          clear hT5 hO5 hLX hEX hNX
          go_wp2_with fail
          go_region_held3 (fun w' => w'.cell? ⟨wr.heap.size, 1, none⟩ = some (.int .i64 osz) ∧ w'.cell? ⟨wr.heap.size, 2, none⟩ = some (.int .i64 on)) (first | assumption | exact ⟨(Upd.refl (fun _ => False) _).drew.cell d51 id, (Upd.refl (fun _ => False) _).drew.cell d52 id⟩)
            (first
            | (go_at_call 40; (with_reducible refine (rnum_any p a bs' e' osz _ HP5.out (by omega) ob7.1 ob7.2).mono ?_); rintro r w7 ⟨rfl, hg⟩; rw [HLX.out, HEX.out] at hg; rw [HNX.out]; obtain ⟨a1, hT7, hu7, hr7⟩ := H5.out.rd hg; have hc1 := hu7.cell ((Upd.refl (fun _ => False) _).drew.cell d51 id) hnp; have hc2 := hu7.cell ((Upd.refl (fun _ => False) _).drew.cell d52 id) hnp; have hS7 := And.intro hc1 hc2; have hn7 := hT7.2.1)
            | (go_at_call 46; (with_reducible refine (rrnum_any q b bs' e' osz _ HQ5.out (by omega) ob7.1 ob7.2).mono ?_); rintro r w7 ⟨rfl, hg⟩; rw [HLX.out, HEX.out] at hg; rw [HNX.out]; obtain ⟨b1, hT7q, hu7, hr7⟩ := H5.out.rdq hg; have hc1 := hu7.cell ((Upd.refl (fun _ => False) _).drew.cell d51 id) hnq; have hc2 := hu7.cell ((Upd.refl (fun _ => False) _).drew.cell d52 id) hnq; have hS7 := And.intro hc1 hc2; have hn7 := hT7q.1)
            | (go_at_call 46; (with_reducible refine (rrnum_any q b bs' e' osz _ hn7 (by omega) ob7.1 ob7.2).mono ?_); rintro r w8 ⟨rfl, hg8⟩; rw [HLX.out, HEX.out] at hg8; rw [HNX.out]; obtain ⟨b1, hT8, hu8, hr8⟩ := hT7.rdq hg8; have hc3 := hu8.cell hc1 hnq; have hc4 := hu8.cell hc2 hnq; have hS8 := And.intro hc3 hc4)
            | (go_at_call 40; (with_reducible refine (rnum_any p a bs' e' osz _ hn7 (by omega) ob7.1 ob7.2).mono ?_); rintro r w8 ⟨rfl, hg8⟩; rw [HLX.out, HEX.out] at hg8; rw [HNX.out]; obtain ⟨a1, hT8, hu8, hr8⟩ := hT7q.rd hg8; have hc3 := hu8.cell hc1 hnp; have hc4 := hu8.cell hc2 hnp; have hS8 := And.intro hc3 hc4))
          all_goals
            have H8 := Lib.hid hT8
            clear hT8
            go_wp2_with fail
            refine (rend_any p a1 L E w8 H8.out.1).mono ?_
            rintro r w' ⟨rfl, rfl⟩
            go_wp2_with fail
            refine (rrend_any q b1 L E w8 H8.out.2.1).mono ?_
            rintro r w' ⟨rfl, rfl⟩
            go_wp2_with fail
            go_roundw
            case rel => exact ⟨k + 1, by omega, by go_num, a1, b1, L, E, by omega, H8.out⟩
            case measure => simp [intOf]; omega
    · have hsw := Lib.hid hT.2.2.2
      clear hT
      have hcase : (k = N) ∨ (k < N ∧ 60 ≤ k) := by omega
      clear hlt
      rcases hcase with rfl | ⟨hk1, hk2⟩
      all_goals
        try (have g1 : (k : Int) < (N : Int) := by omega)
        try (have g2 : ¬ (k : Int) < 60 := by omega)
        go_wp2_with fail
        refine (nil_wnum 1 1 wr).mono ?_
        rintro r w' ⟨rfl, rfl⟩
        go_wp2_with fail
        refine (nil_wbytes 1 _ wr).mono ?_
        rintro r w' ⟨rfl, rfl⟩
        go_wp2_with fail
        refine (nil_wend wr).mono ?_
        rintro r w' ⟨rfl, rfl⟩
        go_wp2_with fail
        refine (nil_rnum 1 wr).mono ?_
        rintro r w' ⟨rfl, rfl⟩
        go_wp2_with fail
        refine (nil_rbytes 1 wr).mono ?_
        rintro r w' ⟨rfl, rfl⟩
        go_wp2_with fail
        refine (nil_rcount 1 1 wr).mono ?_
        rintro r w' ⟨rfl, rfl⟩
        go_wp2_with fail
        refine (nil_rend wr).mono ?_
        rintro r w' ⟨rfl, rfl⟩
        go_wp2_with fail
        refine (known02_any wr).mono ?_
        rintro r w9 ⟨rfl, hs9⟩
        go_wp2_with fail
        go_ret
        exact ⟨rfl, Same.trans hsw.out hs9⟩
end Go.Proofs.Ytgfdadbgbdcehaa
