/- The walk of FieldWrites. -/
import Derived.Test.YtgfdadbgbdcehaaPlainWrites
import Derived.Test.YtgfdadbgbdcehaaKnown02
import Derived.Test.YtgfdadbgbdcehaaRWriter
import Derived.Test.YtgfdadbgbdcehaaReaderB
import Derived.Deep.DeepCutAuto
import Derived.Deep.CutBlock
import Derived.Deep.RegionLaw
namespace Go.Proofs.Ytgfdadbgbdcehaa
open Go.RowKit
set_option linter.unusedVariables false
set_option linter.unusedSimpArgs false

theorem WObj.mono {base base' : Nat} {w : World} {p : Nat} {v : Value} {bs : List UInt8} {e : Int} (h : WObj base w p v bs e) (hb : base' ≤ base) : WObj base' w p v bs e := ⟨Nat.le_trans hb h.1, h.2.1, h.2.2.1.mono hb, h.2.2.2⟩
theorem drop_le (os : List OpD) (j : Nat) : ((os.drop j).flatMap encO).length ≤ (os.flatMap encO).length := by
  conv => rhs; rw [← List.take_append_drop j os]
  rw [List.flatMap_append, List.length_append]
  omega
theorem takes_snoc (os : List OpD) (k : Nat) (h : k < os.length) : wAll (os.take (k + 1)) = wStep (wAll (os.take k)) (os[k]'h) := by
  rw [List.take_succ_eq_append_getElem h, wAll_snoc]
set_option maxRecDepth 10000 in
set_option maxHeartbeats 16000000 in
theorem fieldWrites_walk (w : World) (l : Value) (os : List OpD) (ho : OpsAt w l os) :
    Calls Try.prog 7 #[l] w fun e w' => e = .returned (.bool true) ∧ Same w w' := by
  obtain ⟨A, cap, rfl, q1, q2, q3⟩ := id ho
  have HOS := Lib.hid ho
  have hps : ∀ o ∈ os, o.ps.length ≤ 140737488351232 := by
    intro o ho
    obtain ⟨i, hi, rfl⟩ := List.getElem_of_mem ho
    obtain ⟨b, off, _, _, _, _, _, _, h, _⟩ := q3 i hi
    exact h
  have hbs0 : ∀ i (h : i < os.length), Bs w (os[i]'h).v (os[i]'h).ps := by
    intro i hi
    obtain ⟨b, off, _, _, _, _, _, h, _⟩ := q3 i hi
    exact h
  have HBS := Lib.hid hbs0
  have hLen : ∀ k, k ≤ 60 → (wAll (os.take k)).1.length ≤ 3932400 := by
    intro k hk
    have h1 := wAll_length (os.take k) fun o ho => hps o (List.mem_of_mem_take ho)
    have h2 : (os.take k).length ≤ k := by simp; omega
    have h3 : (os.take k).length * 65540 ≤ 60 * 65540 := Nat.mul_le_mul_right _ (by omega)
    exact Nat.le_trans h1 (Nat.le_trans h3 (by decide))
  have HLEN := Lib.hid hLen
  have HPS := Lib.hid hps
  obtain ⟨N, hN⟩ : ∃ N, N = os.length := ⟨_, rfl⟩
  rw [← hN] at q1
  have HN := Lib.hid hN
  clear q3 ho hps hLen hbs0
  rw [show os.length = N from hN.symm]
  clear hN
  go_enter Try.func7, Try.ntmps7
  go_wp2_with fail
  refine (newWriter_any w).mono ?_
  rintro e w1 ⟨rfl, hp, hs1⟩
  have hq : WObj w.heap.size (w1.alloc (.cells #[.slice none 0 0, .int .i64 0] 53)) w1.heap.size (.slice none 0 0) [] 0 := ⟨hs1.size, Cell2.new w1 _ _ _ _ rfl, Fresh.nil _ _, by simp [room]⟩
  have hT : Two w (w1.alloc (.cells #[.slice none 0 0, .int .i64 0] 53)) w.heap.size (.slice none 0 0) [] 0 w1.heap.size (.slice none 0 0) [] 0 :=
    ⟨hp.upd ((Upd.refl (fun _ => False) w1).alloc _) fun _ _ h => h, hq, fun k h1 h2 => by
      have h3 := (hp.foot k h1).2
      rcases h2 with rfl | h2
      · omega
      · simp [room] at h2, hs1.alloc _⟩
  have HT := Lib.hid hT
  clear hp hq hT hs1
  go_wp2_with fail
  go_loopw [5] (fun v5 wr => ∃ k : Nat, k ≤ N ∧ k ≤ 60 ∧ v5 = .int .i64 k ∧ ∃ a b, Two w wr w.heap.size a (wAll (os.take k)).1 (wAll (os.take k)).2 w1.heap.size b (wAll (os.take k)).1 (wAll (os.take k)).2) (fun v5 _ => N - (intOf v5).toNat)
  case atStart => exact ⟨0, by omega, by omega, rfl, _, _, HT.out⟩
  case round =>
    obtain ⟨k, hk, hk60, rfl, a, b, hT⟩ := hrel
    by_cases hlt : k < N ∧ k < 60
    · obtain ⟨hlt1, hlt2⟩ := hlt
      have g1 : (k : Int) < (N : Int) := by omega
      have g2 : (k : Int) < 60 := by omega
      have hko : k < os.length := by have := HN.out; omega
      obtain ⟨A', cap', e0, _, _, hcells⟩ := HOS.out.same hT.2.2.2
      injection e0 with e1 e2 e3
      subst e1
      obtain ⟨ob, off, rfl, o0, o1, o2, o3, ob4, ob5, ob6, ob7, ob8⟩ := hcells k hko
      have hsn := takes_snoc os k hko
      have hle := HLEN.out k (by omega)
      have hb0 := HBS.out k hko
      generalize os[k] = o at o0 o1 o2 o3 ob4 ob5 ob6 ob7 ob8 hsn hb0
      generalize hS : wAll (os.take k) = S at hT hsn hle
      obtain ⟨sL, sE⟩ := S
      obtain ⟨ok, osz, on, ov, ops⟩ := o
      simp only at o0 o1 o2 o3 ob4 ob5 ob6 ob7 ob8 hT hle hb0
      obtain ⟨oA, oc, rfl, _, _, _⟩ := id ob4
      have HTT := Lib.hid hT
      have HSN := Lib.hid hsn
      have HB4 := Lib.hid hb0
      have hT5 := HTT.out.same ((Upd.refl (fun _ => False) wr).alloc (.cells #[.int .i64 ok, .int .i64 osz, .int .i64 on, .slice oA ops.length oc] 55))
      have hO5 := Op4.new wr ok osz on (.slice oA ops.length oc) 55 _ rfl
      have hb5 := ob4.same ((Upd.refl (fun _ => False) wr).alloc (.cells #[.int .i64 ok, .int .i64 osz, .int .i64 on, .slice oA ops.length oc] 55))
      have H5 := Lib.hid hT5
      have HO5 := Lib.hid hO5
      have HB5 := Lib.hid hb5
      have hBp : wr.heap.size ≠ w.heap.size := by have := HTT.out.1.2.1.lt; omega
      clear hcells hT e2 e3 hsn ob4 hT5 hO5 hb5 hS hb0
      by_cases hk4 : ok = 4
      · subst hk4
        go_wp2_with fail
        refine (lent_bs _ ops _ HB5.out ob5).mono ?_
        rintro r w6 ⟨v6, rfl, hv6, hs6⟩
        have H6 := Lib.hid (H5.out.same hs6)
        have hO6 := HO5.out.upd hs6 id
        have d61 := hO6.2.1
        have HV6 := Lib.hid hv6
        have HS6 := Lib.hid hs6
        clear hv6 hs6
        go_wp2_with fail
        refine (wbytes_any _ a v6 sL ops sE osz w6 H6.out.1 HV6.out.bs H6.out.base (by omega) ob5).mono ?_
        rintro r w7 ⟨rfl, hg7⟩
        obtain ⟨a1, hT7, hu7, hr7⟩ := H6.out.p hg7
        have hoff : ∀ k, foot w.heap.size a k → ¬ room v6 = some k := fun k h1 h2 => by
          have h3 := (HTT.out.1.foot k h1).2
          have h4 := (HV6.out.room k h2).1
          simp at h4
          omega
        have hv7 : Fresh (wr.alloc (.cells #[.int .i64 4, .int .i64 osz, .int .i64 on, .slice oA ops.length oc] 55)).heap.size w7 v6 ops := HV6.out.fresh.upd hu7 fun k h1 h2 => hoff k h2 h1
        have hO7 := hO6.upd hu7 fun e => by have := (HTT.out.1.foot _ e).2; omega
        have hz6 := HS6.out.size
        have hz7 := hu7.size
        have H7 := Lib.hid hT7
        have HV7 := Lib.hid hv7
        have HR7 := Lib.hid hr7
        clear hT7 hg7 hv7 hu7 hr7
        go_wp2_with fail
        refine (spoil_bs v6 ops w7 HV7.out (by simp at *; omega) ob5).mono ?_
        rintro r w8 ⟨rfl, hu8⟩
        have hrv6 : ∀ k, room v6 = some k → wr.heap.size < k ∧ k < w6.heap.size := fun k h => by
          have h4 := HV6.out.room k h
          simp at h4
          omega
        have hT8 := H7.out.upd hu8 (fun k h1 h2 => by
          have h3 := hrv6 k h2
          rcases h1 with rfl | h1
          · have := HTT.out.1.2.1.lt; omega
          · rcases HR7.out k h1 with h1 | h1
            · exact hoff k (.inr h1) h2
            · omega) (fun k h1 h2 => by
          have h3 := hrv6 k h2
          have := (HTT.out.2.1.foot k h1).2
          omega) (fun k h2 => by have h3 := hrv6 k h2; have := HTT.out.base; omega)
        have hO8 := hO7.upd hu8 fun e => by have := hrv6 _ e; omega
        have d81 := hO8.2.1
        have d83 := hO8.2.2.2
        have hb8 : Bs w8 (.slice oA ops.length oc) ops := HB4.out.same hT8.2.2.2
        have H8 := Lib.hid hT8
        have HB8 := Lib.hid hb8
        clear hT8 hu8 hb8
        go_wp2_with fail
        refine (rwbytes_any _ b _ sL ops sE osz w8 H8.out.2.1 HB8.out H8.out.base (by omega) ob5).mono ?_
        rintro r w9 ⟨rfl, hg9⟩
        obtain ⟨b1, hT9, _, _⟩ := H8.out.q hg9
        have H9 := Lib.hid hT9
        clear hT9 hg9
        go_wp2_with fail
        go_roundw
        case rel =>
          refine ⟨k + 1, by omega, by omega, by go_num, a1, b1, ?_⟩
          rw [HSN.out]
          exact H9.out
        case measure => simp [intOf]; omega
      · have hb4 : (ok == 4) = false := by simpa using hk4
        have HK4 := Lib.hid hk4
        have d51 := HO5.out.2.1
        have d52 := HO5.out.2.2.1
        clear hk4
        go_wp2_with fail
        refine (wnum_any _ a sL sE osz on _ H5.out.1 H5.out.base (by omega) ob8.1 ob8.2).mono ?_
        rintro r w7 ⟨rfl, hg7⟩
        obtain ⟨a1, hT7, hu7, hr7⟩ := H5.out.p hg7
        have hO7 := HO5.out.upd hu7 fun e => by have := (HTT.out.1.foot _ e).2; omega
        have d71 := hO7.2.1
        have d72 := hO7.2.2.1
        have H7 := Lib.hid hT7
        clear hT7 hg7 hu7 hr7 hO7
        go_wp2_with fail
        refine (rwnum_any _ b sL sE osz on w7 H7.out.2.1 H7.out.base (by omega) ob8.1 ob8.2).mono ?_
        rintro r w9 ⟨rfl, hg9⟩
        obtain ⟨b1, hT9, _, _⟩ := H7.out.q hg9
        have H9 := Lib.hid hT9
        clear hT9 hg9
        go_wp2_with fail
        go_roundw
        case rel =>
          refine ⟨k + 1, by omega, by omega, by go_num, a1, b1, ?_⟩
          rw [HSN.out]
          unfold wStep
          rw [if_neg HK4.out]
          exact H9.out
        case measure => simp [intOf]; omega
    · have hle := HLEN.out k hk60
      have hcase : (k = N) ∨ (k < N ∧ k = 60) := by omega
      have hok := wAll_ok (os.take k)
      generalize hS : wAll (os.take k) = S at hT hle hok
      obtain ⟨sL, sE⟩ := S
      simp only at hT hle hok
      have HTT := Lib.hid hT
      have HOK := Lib.hid hok
      clear hT hlt hS hok
      rcases hcase with hkN | ⟨hk1, hk2⟩
      all_goals
        try (have g1 : (k : Int) < (N : Int) := by omega)
        try (have g2 : ¬ (k : Int) < 60 := by omega)
        try (have g1 : ¬ (k : Int) < (N : Int) := by omega)
        go_wp2_with fail
        refine (wend_any _ a sL sE wr HTT.out.1 HTT.out.base (by omega)).mono ?_
        rintro r w2 ⟨v8, rfl, hv8, hs2⟩
        have H2 := Lib.hid (HTT.out.same hs2)
        have HS2 := Lib.hid hs2
        have HV8 := Lib.hid hv8
        clear hs2 hv8
        go_wp2_with fail
        refine (rwend_any _ b sL sE w2 H2.out.2.1 H2.out.base (by omega)).mono ?_
        rintro r w3 ⟨v10, rfl, hv10, hs3⟩
        have hw3 : Same w w3 := Same.trans H2.out.2.2.2 hs3
        have hc8 := conv_bs (P := Try.prog) (src := 28) (dst := 9) Try.underlying28 Try.underlying5 Try.underlying9 (HV8.out.same hs3).bs
        have hc10 := conv_bs (P := Try.prog) (src := 28) (dst := 9) Try.underlying28 Try.underlying5 Try.underlying9 hv10.bs
        have hb8 := (HV8.out.same hs3).bs
        generalize hX : (if sE = 0 then sL else []) = X at hc8 hc10 hb8
        have hXX : eqB X X = true := eqB_true rfl
        have HW3 := Lib.hid hw3
        have HB8 := Lib.hid hb8
        have HX := Lib.hid hX
        clear hv10 hs3 hw3 hb8 hX
        by_cases hE : sE = 0
        · subst hE
          have hXs : X = sL := by have := HX.out; rw [if_pos rfl] at this; exact this.symm
          obtain ⟨hsL, hall⟩ := HOK.out rfl
          have HSL := Lib.hid hsL
          have HALL := Lib.hid hall
          clear hsL hall
          go_wp2_with fail
          refine (newReader_any v8 X w3 HB8.out (by rw [hXs]; omega)).mono ?_
          rintro r w4 ⟨rp, va, rfl, hr4, hs4⟩
          have h04 := Same.trans HW3.out hs4
          have hst : WObj w.heap.size w4 rp va (((os.take k).drop 0).flatMap encO) 0 := by
            have := hr4.mono HW3.out.size
            rw [hXs, HSL.out] at this
            simpa using this
          have HST := Lib.hid hst
          have H04 := Lib.hid h04
          have HK9 := Lib.hid hk60
          clear hr4 hs4 h04 hst hc8 hc10 hXs hXX
          go_wp2_with fail
          go_loopw [13] (fun v13 wr => ∃ j : Nat, j ≤ k ∧ v13 = .int .i64 j ∧ ∃ c, WObj w.heap.size wr rp c (((os.take k).drop j).flatMap encO) 0 ∧ Same w wr) (fun v13 _ => k - (intOf v13).toNat)
          case atStart => exact ⟨0, by omega, rfl, va, HST.out, H04.out⟩
          case round =>
            obtain ⟨j, hj, rfl, c, hc, hsq⟩ := hrel
            by_cases hjk : j < k
            · have g3 : (j : Int) < (N : Int) := by omega
              have g4 : (j : Int) < 60 := by have := HK9.out; omega
              have hko : j < os.length := by have := HN.out; omega
              have hkt : j < (os.take k).length := by simp; omega
              obtain ⟨A', cap', e0, _, _, hcells⟩ := HOS.out.same hsq
              injection e0 with e1 e2 e3
              subst e1
              obtain ⟨ob, off, rfl, o0, o1, o2, o3, ob4, ob5, ob6, ob7, ob8⟩ := hcells j hko
              have hwst := HALL.out j hkt
              have hdrop : ((os.take k).drop j).flatMap encO = encO (os[j]'hko) ++ ((os.take k).drop (j + 1)).flatMap encO := by
                rw [List.drop_eq_getElem_cons hkt, List.flatMap_cons, List.getElem_take]
              rw [List.getElem_take] at hwst
              rw [hdrop] at hc
              have hb0 := HBS.out j hko
              generalize os[j] = o at o0 o1 o2 o3 ob4 ob5 ob6 ob7 ob8 hb0 hwst hc hdrop
              generalize hR : ((os.take k).drop (j + 1)).flatMap encO = R at hc hdrop
              have hlenE : (encO o ++ R).length ≤ 140737488351232 := by
                rw [← hdrop]
                exact Nat.le_trans (drop_le _ _) (by have := HSL.out; rw [← this]; omega)
              have hrn := fun h4 => read_num o R h4 hwst ob8
              have hrb := fun h4 => read_bytes o R h4 hwst
              obtain ⟨ok, osz, on, ov, ops⟩ := o
              simp only at o0 o1 o2 o3 ob4 ob5 ob6 ob7 ob8 hb0 hrn hrb
              obtain ⟨oA, oc, rfl, _, _, _⟩ := id ob4
              have hc5 := hc.upd ((Upd.refl (fun _ => False) wr).alloc (.cells #[.int .i64 ok, .int .i64 osz, .int .i64 on, .slice oA ops.length oc] 55)) fun _ _ h => h
              have hO5 := Op4.new wr ok osz on (.slice oA ops.length oc) 55 _ rfl
              have hs5 : Same w (wr.alloc (.cells #[.int .i64 ok, .int .i64 osz, .int .i64 on, .slice oA ops.length oc] 55)) := hsq.alloc _
              have hlt0 := hc.2.1.lt
              have HC5 := Lib.hid hc5
              have HO5 := Lib.hid hO5
              have HS5 := Lib.hid hs5
              have HRN := Lib.hid hrn
              have HRB := Lib.hid hrb
              have HB0 := Lib.hid hb0
              have HR := Lib.hid hR
              have HLE := Lib.hid hlenE
              clear hcells hc hsq e2 e3 ob4 hc5 hO5 hs5 hrn hrb hb0 hR hdrop hwst hlenE
              by_cases hk4 : ok = 4
              · obtain ⟨z1, z2, z3⟩ := HRB.out hk4
                subst hk4
                have hn4 : wr.heap.size ≠ rp := by omega
                have hcx := conv_bs (P := Try.prog) (src := 28) (dst := 9) Try.underlying28 Try.underlying5 Try.underlying9 ((HB0.out.same HS5.out).same (Upd.refl _ _).drew)
                have d51 := HO5.out.2.1
                have d53 := HO5.out.2.2.2
                have d61 := (Upd.refl (fun _ => False) _).drew.cell d51 id
                have d63 := (Upd.refl (fun _ => False) _).drew.cell d53 id
                have hPP : eqB ops ops = true := eqB_true rfl
                have hC6 := Lib.hid (HC5.out.upd (Upd.refl (fun _ => False) _).drew fun _ _ h => h)
                have hS6 := Lib.hid (HS5.out.drew)
                go_wp2_with fail
                go_region_law
                  (first
                  | (go_simp; go_at_call 39; refine (rbytes_any rp c _ 0 osz _ hC6.out hS6.out.size HLE.out ob7.1 ob7.2).mono ?_; rintro r w7 ⟨y, rfl, hy, c1, hd7, hu7, hr7⟩; rw [z2] at hy; rw [z1, z3] at hd7; obtain ⟨yA, yc, rfl⟩ := Fresh.shape' hy; have hcy := conv_bs (P := Try.prog) (src := 28) (dst := 9) Try.underlying28 Try.underlying5 Try.underlying9 hy.bs; have hs7 : Same w w7 := Same.into hS6.out hu7 (fun k e => by rw [e]; exact hC6.out.1); have hcx7 := conv_bs (P := Try.prog) (src := 28) (dst := 9) Try.underlying28 Try.underlying5 Try.underlying9 (HB0.out.same hs7); have d71 := hu7.cell d61 hn4; have d73 := hu7.cell d63 hn4; have HD7 := Lib.hid hd7; have HS7 := Lib.hid hs7; clear hy hd7 hu7 hr7 hs7))
                all_goals
                  go_wp2_with fail
                  go_roundw
                  case rel => exact ⟨j + 1, by omega, by go_num, c1, by rw [HR.out]; exact HD7.out, HS7.out⟩
                  case measure => simp [intOf]; omega
              · have hb4 : (ok == 4) = false := by simpa using hk4
                obtain ⟨z1, z2, z3, z4, z5⟩ := HRN.out hk4
                have d51 := HO5.out.2.1
                have d52 := HO5.out.2.2.1
                have hnum := rnum_any rp c _ 0 osz _ HC5.out (by have := HLE.out; omega) ob7.1 ob7.2
                rw [z1, z2] at hnum
                generalize rnN (encO { kind := ok, size := osz, n := on, v := .slice oA ops.length oc, ps := ops } ++ R) 0 osz = NV at hnum z5
                have HNUM := Lib.hid hnum
                have HZ5 := Lib.hid z5
                have hn4 : wr.heap.size ≠ rp := by omega
                clear hnum z1 z2 z5 hk4
                rcases HZ5.out with hz | ⟨hz1, hz2, hz3⟩
                · subst hz
                  go_wp2_with fail
                  refine HNUM.out.mono ?_
                  rintro r w7 ⟨rfl, c1, hd7, hu7, hr7⟩
                  have d72 := hu7.cell d52 hn4
                  have HD7 := Lib.hid hd7
                  have HS7 := Lib.hid (Same.into HS5.out hu7 (fun k e => by rw [e]; exact HC5.out.1))
                  clear hd7 hu7 hr7
                  go_wp2_with fail
                  go_roundw
                  case rel => exact ⟨j + 1, by omega, by go_num, c1, by rw [HR.out]; exact HD7.out, HS7.out⟩
                  case measure => simp [intOf]; omega
                · have hs7 : osz = 1 ∨ osz = 2 ∨ osz = 3 ∨ osz = 4 ∨ osz = 5 ∨ osz = 6 ∨ osz = 7 := by omega
                  have hn8 : ¬ on = NV := by
                    have h2 : (0 : Int) < 2 ^ (8 * osz).toNat := Int.pow_pos (by decide)
                    omega
                  rcases hs7 with rfl | rfl | rfl | rfl | rfl | rfl | rfl
                  all_goals
                    simp only [Int.reduceMul, Int.reduceToNat, Int.reducePow] at hz3
                    subst hz3
                    clear HZ5 hn8
                    have hne1 : ∀ m : Int, 0 < m → (on + m != on) = true := by intro m hm; simp; omega
                    have hne2 := hne1 _ (show (0 : Int) < 256 by decide)
                    have hne3 := hne1 _ (show (0 : Int) < 65536 by decide)
                    have hne4 := hne1 _ (show (0 : Int) < 16777216 by decide)
                    have hne5 := hne1 _ (show (0 : Int) < 4294967296 by decide)
                    have hne6 := hne1 _ (show (0 : Int) < 1099511627776 by decide)
                    have hne7 := hne1 _ (show (0 : Int) < 281474976710656 by decide)
                    have hne8 := hne1 _ (show (0 : Int) < 72057594037927936 by decide)
                    clear hne1
                    go_wp2_with fail
                    refine HNUM.out.mono ?_
                    rintro r w7 ⟨rfl, c1, hd7, hu7, hr7⟩
                    have d71 := hu7.cell d51 hn4
                    have d72 := hu7.cell d52 hn4
                    have HD7 := Lib.hid hd7
                    have HS7 := Lib.hid (Same.into HS5.out hu7 (fun k e => by rw [e]; exact HC5.out.1))
                    clear hd7 hu7 hr7
                    go_wp2_with fail
                    go_roundw
                    case rel => exact ⟨j + 1, by omega, by go_num, c1, by rw [HR.out]; exact HD7.out, HS7.out⟩
                    case measure => simp [intOf]; omega
            · obtain rfl : j = k := by omega
              have hnil : ((os.take j).drop j).flatMap encO = [] := by rw [List.drop_eq_nil_of_le (by simp; omega)]; rfl
              rw [hnil] at hc
              have HC := Lib.hid hc
              have HSQ := Lib.hid hsq
              clear hc hsq hnil
              go_wp2_with fail
              refine (rend_any rp c [] 0 wr HC.out).mono ?_
              rintro r w' ⟨rfl, rfl⟩
              rw [show reE 0 ([] : List UInt8).length = 0 from by simp [reE]]
              go_wp2_with fail
              refine (known02_any wr).mono ?_
              rintro r w9 ⟨rfl, hs9⟩
              go_wp2_with fail
              go_ret
              exact ⟨rfl, Same.trans HSQ.out hs9⟩
        · have hne : (sE != 0) = true := by simpa using hE
          go_wp2_with fail
          refine (known02_any w3).mono ?_
          rintro r w9 ⟨rfl, hs9⟩
          go_wp2_with fail
          go_ret
          exact ⟨rfl, Same.trans HW3.out hs9⟩
end Go.Proofs.Ytgfdadbgbdcehaa
