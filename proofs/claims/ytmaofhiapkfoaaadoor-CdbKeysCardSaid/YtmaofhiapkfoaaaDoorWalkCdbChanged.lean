/- The walk of CdbChanged. -/
import Derived.Test.YtmaofhiapkfoaaaDoorCdbG
import Derived.Test.YtmaofhiapkfoaaaDoorCount
import Derived.Test.YtmaofhiapkfoaaaDoorOpenC
import Derived.Deep.RegionLaw
import Derived.Deep.DrawnRows
import Derived.Test.YtmaofhiapkfoaaaDoorOrd
namespace Go.Proofs.YtmaofhiapkfoaaaDoor
open Go.RowKit
set_option linter.unusedVariables false
set_option linter.unusedSimpArgs false
set_option maxRecDepth 20000
/-- The plain law. -/
theorem changed_law (c : Cmd) (j : Nat) (t : UInt8) (hj : j < (cL c).length) (hne : at8 (cL c) j ≠ (t.toNat : Int)) (h : parseE ((cL c).set j t) = 0) : alikeC (parseC ((cL c).set j t)) c = false := by
  cases ha : alikeC (parseC ((cL c).set j t)) c with
  | false => rfl
  | true =>
    have h1 := (parse_back h).2
    rw [(alikeC_iff _ _).1 ha] at h1
    have h2 : at8 ((cL c).set j t) j = (t.toNat : Int) := by simp [at8, List.getD_eq_getElem?_getD, hj]
    rw [← h1] at h2
    exact absurd h2 hne
/-- Two blocks of seven cells. -/
def S14 (w : World) (p q : Nat) (a0 a1 a2 a3 a4 a5 a6 b0 b1 b2 b3 b4 b5 b6 : Value) : Prop :=
  w.cell? ⟨p, 0, none⟩ = some a0 ∧ w.cell? ⟨p, 1, none⟩ = some a1 ∧ w.cell? ⟨p, 2, none⟩ = some a2 ∧ w.cell? ⟨p, 3, none⟩ = some a3 ∧ w.cell? ⟨p, 4, none⟩ = some a4 ∧ w.cell? ⟨p, 5, none⟩ = some a5 ∧ w.cell? ⟨p, 6, none⟩ = some a6 ∧
  w.cell? ⟨q, 0, none⟩ = some b0 ∧ w.cell? ⟨q, 1, none⟩ = some b1 ∧ w.cell? ⟨q, 2, none⟩ = some b2 ∧ w.cell? ⟨q, 3, none⟩ = some b3 ∧ w.cell? ⟨q, 4, none⟩ = some b4 ∧ w.cell? ⟨q, 5, none⟩ = some b5 ∧ w.cell? ⟨q, 6, none⟩ = some b6
theorem S14.same {w w' : World} {p q : Nat} {a0 a1 a2 a3 a4 a5 a6 b0 b1 b2 b3 b4 b5 b6 : Value} (h : S14 w p q a0 a1 a2 a3 a4 a5 a6 b0 b1 b2 b3 b4 b5 b6) (hs : Same w w') : S14 w' p q a0 a1 a2 a3 a4 a5 a6 b0 b1 b2 b3 b4 b5 b6 := by
  obtain ⟨p0, p1, p2, p3, p4, p5, p6, t0, t1, t2, t3, t4, t5, t6⟩ := h
  exact ⟨hs.cell p0 id, hs.cell p1 id, hs.cell p2 id, hs.cell p3 id, hs.cell p4 id, hs.cell p5 id, hs.cell p6 id, hs.cell t0 id, hs.cell t1 id, hs.cell t2 id, hs.cell t3 id, hs.cell t4 id, hs.cell t5 id, hs.cell t6 id⟩
attribute [local go_sem ↓] Go.wp_at_zero Go.wp_at_succ
set_option maxHeartbeats 2000000 in
theorem cdbChanged_walk0 (w : World) (hT : Tab15 w) (c : Cmd) (hc : c.ok) (at_ : Int) (ha : -9223372036854775808 ≤ at_ ∧ at_ ≤ 9223372036854775807) (to : Int) (ht : 0 ≤ to ∧ to ≤ 255) :
    Calls Tryd.prog 3 #[.agg c.cells, .int .i64 at_, .int .u8 to] w fun e w' => e = .returned (.bool true) ∧ Same w w' := by
  have hto : ((UInt8.ofNat to.toNat).toNat : Int) = to := by simp; omega
  have hg := fun W => given_any c W
  have hb := fun W hT => build_any c W hc hT
  have hlen : cE c = 0 → (cL c).length = 16 := cL_length
  have hlaw := fun j hj (hne : at8 (cL c) j ≠ to) => changed_law c j (UInt8.ofNat to.toNat) hj (by rw [hto]; exact hne)
  have htk := fun d W => taken_any d W
  have hpk := fun d => parseC_ok d
  generalize cE c = E at hb hlen
  generalize cL c = L at hb hlen hlaw
  have hrange : 0 ≤ at_ % 16 ∧ at_ % 16 < 16 := by omega
  have hcount := fun W => count_any at_ 16 W (by decide) (by decide) ha.1 ha.2
  obtain ⟨j, hj⟩ : ∃ j : Nat, (j : Int) = at_ % 16 := ⟨(at_ % 16).toNat, by omega⟩
  rw [← hj] at hcount hrange
  clear hto
  generalize hcc : c.cells = CC at hg hb ⊢
  have hcc2 : CC = #[.int .i64 c.op, .int .i64 c.service, .int .i64 c.page, .bool c.vital, .int .i64 c.typ, .int .u64 c.lba, .int .i64 c.len] := by rw [← hcc]; rfl
  obtain ⟨op, service, page, vital, typ, lba, len⟩ := c
  simp only at hcc2
  have HG := Lib.hid hg
  have HB := Lib.hid hb
  have HLEN := Lib.hid hlen
  have HTK := Lib.hid htk
  have HPK := Lib.hid hpk
  have HCNT := Lib.hid hcount
  have HT := Lib.hid hT
  subst hcc2
  clear hg hb hlen htk hpk hcount hT hcc hj ha hc
  go_enter Tryd.func3, Tryd.ntmps3
  go_wp2_with fail
  refine (HG.out _).mono ?_
  rintro e w1 ⟨rfl, hs1⟩
  go_wp2_with fail
  have hs1' := Same.trans ((Upd.refl (fun _ => False) w).alloc _) hs1
  obtain ⟨q0, q1, q2, q3, q4, q5, q6⟩ := box7 w 24 _ _ _ _ _ _ _ w1 hs1
  have hz1 : w.heap.size < w1.heap.size := by have := hs1.size; simp at this; omega
  refine (HB.out _ (HT.out.same hs1')).mono ?_
  rintro e w2 ⟨v2, rfl, hf2, hs2⟩
  replace q0 := hs2.cell q0 id
  replace q1 := hs2.cell q1 id
  replace q2 := hs2.cell q2 id
  replace q3 := hs2.cell q3 id
  replace q4 := hs2.cell q4 id
  replace q5 := hs2.cell q5 id
  replace q6 := hs2.cell q6 id
  have hz2 : w.heap.size < w2.heap.size := by have := hs2.size; omega
  have HSW := Lib.hid (Same.trans hs1' hs2)
  clear hs1 hs1' hs2
  by_cases hE : E = 0
  · subst hE
    have hl16 := HLEN.out rfl
    rw [hl16] at hlaw
    obtain ⟨b2, o2, cp, rfl, hcap⟩ : ∃ b off cp, v2 = .slice (some ⟨b, off, none⟩) 16 cp ∧ 16 ≤ cp := by
      rcases hf2.bs.cases with ⟨e, _⟩ | ⟨_, b, off, cp, rfl, e, _⟩
      · rw [e] at hl16; simp at hl16
      · exact ⟨b, off, cp, by rw [hl16], by omega⟩
    have hj16 : j < 16 := by omega
    obtain ⟨x1, x2⟩ := Fresh.at_ hf2 j (by omega)
    have hb2 : b2 < w2.heap.size ∧ w1.heap.size ≤ b2 := by
      have := hf2.ge b2 (room_some _ _ _ _ (by omega))
      omega
    have hxr := at8_range L j
    have HF2 := Lib.hid hf2
    by_cases hx : at8 L j = to
    · have hxe : (at8 L j == to) = true := by simpa using hx
      clear hx hf2 hlaw
      go_wp2_with fail
      refine (HCNT.out _).mono ?_
      rintro e w3 ⟨rfl, rfl⟩
      go_wp2_with fail
      refine (known_any _ (HT.out.same HSW.out)).mono ?_
      rintro e w4 ⟨rfl, hs4⟩
      go_wp2_with fail
      go_ret
      exact ⟨rfl, Same.trans HSW.out hs4⟩
    · have hxe : (at8 L j == to) = false := by simpa using hx
      have hl2 := hlaw j hj16 hx
      obtain ⟨y1, y2, y3⟩ := Fresh.set hf2 j (by omega) (UInt8.ofNat to.toNat) to (at8_one to ht.1 ht.2).symm
      have hpar := fun v W h hT => parse_any v (L.set j (UInt8.ofNat to.toNat)) W h (by simp; omega) hT
      have hpok := HPK.out (L.set j (UInt8.ofNat to.toNat))
      generalize L.set j (UInt8.ofNat to.toNat) = L2 at hpar hl2 y1 hpok
      generalize parseE L2 = E2 at hpar hl2
      generalize parseC L2 = C2 at hpar hl2 hpok
      have hsset : Same w (w2.setCell ⟨b2, o2 + j, none⟩ (.int .u8 to)) := HSW.out.setCell (p := ⟨b2, o2 + j, none⟩) (fun h => by simp at h; omega) _
      have htk2 := HTK.out C2
      have hw0 : ¬ w.heap.size = b2 := by omega
      replace q0 := y2.cell q0 hw0
      replace q1 := y2.cell q1 hw0
      replace q2 := y2.cell q2 hw0
      replace q3 := y2.cell q3 hw0
      replace q4 := y2.cell q4 hw0
      replace q5 := y2.cell q5 hw0
      replace q6 := y2.cell q6 hw0
      have hz3 := y2.size
      obtain ⟨d0, d1, d2, d3, d4, d5, d6⟩ := C2
      simp only [Cmd.cells] at hpar htk2
      simp [alikeC] at hl2
      have HPAR := Lib.hid hpar
      have HY1 := Lib.hid y1
      have HSS := Lib.hid hsset
      have HL2 := Lib.hid hl2
      have HTK2 := Lib.hid htk2
      have HQ := Lib.hid (And.intro q0 (And.intro q1 (And.intro q2 (And.intro q3 (And.intro q4 (And.intro q5 q6))))))
      clear hx hf2 hlaw hpar hl2 hpok y1 y2 y3 hsset htk2 q0 q1 q2 q3 q4 q5 q6 hw0 HPK HTK
      go_wp2_with fail
      refine (HCNT.out _).mono ?_
      rintro e w3 ⟨rfl, rfl⟩
      go_wp2_with fail
      refine (HPAR.out _ _ HY1.out.bs (HT.out.same HSS.out)).mono ?_
      rintro e w4 ⟨rfl, hs4⟩
      obtain ⟨q0, q1, q2, q3, q4, q5, q6⟩ := HQ.out
      replace q0 := hs4.cell q0 id
      replace q1 := hs4.cell q1 id
      replace q2 := hs4.cell q2 id
      replace q3 := hs4.cell q3 id
      replace q4 := hs4.cell q4 id
      replace q5 := hs4.cell q5 id
      replace q6 := hs4.cell q6 id
      have hz5 : w.heap.size < w4.heap.size := by have := hs4.size; omega
      have HS4 := Lib.hid (Same.trans HSS.out hs4)
      clear hs4 hz3 x1 x2 hxr hxe HY1 HF2 HQ HPAR HSS HCNT
      by_cases hE2 : E2 = 0
      · subst hE2
        have HAL := Lib.hid (HL2.out rfl)
        go_wp2_with fail
        refine wp_region_noPanic ?_
        have hst0 := (HS4.out.alloc (.cells #[.int .i64 d0, .int .i64 d1, .int .i64 d2, .bool d3, .int .i64 d4, .int .u64 d5, .int .i64 d6] 29)).drew
        have hsd := ((Upd.refl (fun _ => False) w4).alloc (.cells #[.int .i64 d0, .int .i64 d1, .int .i64 d2, .bool d3, .int .i64 d4, .int .u64 d5, .int .i64 d6] 29)).drew
        obtain ⟨r0, r1, r2, r3, r4, r5, r6⟩ := box7 w4 29 (.int .i64 d0) (.int .i64 d1) (.int .i64 d2) (.bool d3) (.int .i64 d4) (.int .u64 d5) (.int .i64 d6) _ ((Upd.refl (fun _ => False) _).drew)
        have m0 := hsd.cell q0 id
        have m1 := hsd.cell q1 id
        have m2 := hsd.cell q2 id
        have m3 := hsd.cell q3 id
        have m4 := hsd.cell q4 id
        have m5 := hsd.cell q5 id
        have m6 := hsd.cell q6 id
        refine wp_region_need (fun w' => S14 w' w.heap.size w4.heap.size (.int .i64 op) (.int .i64 service) (.int .i64 page) (.bool vital) (.int .i64 typ) (.int .u64 lba) (.int .i64 len) (.int .i64 d0) (.int .i64 d1) (.int .i64 d2) (.bool d3) (.int .i64 d4) (.int .u64 d5) (.int .i64 d6)) (fun _ => true) (by kernel_rfl) (fun hcl => ?_)
        have hS0 : S14 ((w4.alloc (.cells #[.int .i64 d0, .int .i64 d1, .int .i64 d2, .bool d3, .int .i64 d4, .int .u64 d5, .int .i64 d6] 29)).drew) w.heap.size w4.heap.size (.int .i64 op) (.int .i64 service) (.int .i64 page) (.bool vital) (.int .i64 typ) (.int .u64 lba) (.int .i64 len) (.int .i64 d0) (.int .i64 d1) (.int .i64 d2) (.bool d3) (.int .i64 d4) (.int .u64 d5) (.int .i64 d6) := ⟨m0, m1, m2, m3, m4, m5, m6, r0, r1, r2, r3, r4, r5, r6⟩
        clear r0 r1 r2 r3 r4 r5 r6 m0 m1 m2 m3 m4 m5 m6 q0 q1 q2 q3 q4 q5 q6 hsd
        refine wpAnyN_take (i := 0) (v := ?_) rfl (by as_aux_lemma => kernel_rfl) (by as_aux_lemma => kernel_rfl) (by as_aux_lemma => kernel_rfl) (by as_aux_lemma => kernel_rfl) (fun _ _ _ h => h) (by assumption) hS0 (Or.inl ⟨by rfl, ?_⟩) (fun hcl0 => ?_)
        rotate_left
        · (intro wS hSw; (try (obtain ⟨p0, p1, p2, p3, p4, p5, p6, t0, t1, t2, t3, t4, t5, t6⟩ := hSw)); go_simp; (try with_reducible rfl))
        clear hcl
        try simp only [Act.put, List.getElem_toArray, List.getElem_cons_succ, List.getElem_cons_zero, List.setIfInBounds_toArray, List.set_cons_zero, List.set_cons_succ]
        refine wpAnyN_take (i := 1) (v := ?_) rfl (by as_aux_lemma => kernel_rfl) (by as_aux_lemma => kernel_rfl) (by as_aux_lemma => kernel_rfl) (by as_aux_lemma => kernel_rfl) (fun _ _ _ h => h) (by assumption) hS0 (Or.inl ⟨by rfl, ?_⟩) (fun hcl1 => ?_)
        rotate_left
        · (intro wS hSw; (try (obtain ⟨p0, p1, p2, p3, p4, p5, p6, t0, t1, t2, t3, t4, t5, t6⟩ := hSw)); go_simp; (try with_reducible rfl))
        clear hcl0
        try simp only [Act.put, List.getElem_toArray, List.getElem_cons_succ, List.getElem_cons_zero, List.setIfInBounds_toArray, List.set_cons_zero, List.set_cons_succ]
        refine wpAnyN_take (i := 2) (v := ?_) rfl (by as_aux_lemma => kernel_rfl) (by as_aux_lemma => kernel_rfl) (by as_aux_lemma => kernel_rfl) (by as_aux_lemma => kernel_rfl) (fun _ _ _ h => h) (by assumption) hS0 (Or.inl ⟨by rfl, ?_⟩) (fun hcl2 => ?_)
        rotate_left
        · (intro wS hSw; (try (obtain ⟨p0, p1, p2, p3, p4, p5, p6, t0, t1, t2, t3, t4, t5, t6⟩ := hSw)); go_simp; (try with_reducible rfl))
        clear hcl1
        try simp only [Act.put, List.getElem_toArray, List.getElem_cons_succ, List.getElem_cons_zero, List.setIfInBounds_toArray, List.set_cons_zero, List.set_cons_succ]
        refine wpAnyN_take (i := 3) (v := ?_) rfl (by as_aux_lemma => kernel_rfl) (by as_aux_lemma => kernel_rfl) (by as_aux_lemma => kernel_rfl) (by as_aux_lemma => kernel_rfl) (fun _ _ _ h => h) (by assumption) hS0 (Or.inl ⟨by rfl, ?_⟩) (fun hcl3 => ?_)
        rotate_left
        · (intro wS hSw; (try (obtain ⟨p0, p1, p2, p3, p4, p5, p6, t0, t1, t2, t3, t4, t5, t6⟩ := hSw)); go_simp; (try with_reducible rfl))
        clear hcl2
        try simp only [Act.put, List.getElem_toArray, List.getElem_cons_succ, List.getElem_cons_zero, List.setIfInBounds_toArray, List.set_cons_zero, List.set_cons_succ]
        refine wpAnyN_take (i := 5) (v := ?_) rfl (by as_aux_lemma => kernel_rfl) (by as_aux_lemma => kernel_rfl) (by as_aux_lemma => kernel_rfl) (by as_aux_lemma => kernel_rfl) (fun _ _ _ h => h) (by assumption) hS0 (Or.inl ⟨by rfl, ?_⟩) (fun hcl5 => ?_)
        rotate_left
        · (intro wS hSw; (try (obtain ⟨p0, p1, p2, p3, p4, p5, p6, t0, t1, t2, t3, t4, t5, t6⟩ := hSw)); go_simp; (try with_reducible rfl))
        clear hcl3
        try simp only [Act.put, List.getElem_toArray, List.getElem_cons_succ, List.getElem_cons_zero, List.setIfInBounds_toArray, List.set_cons_zero, List.set_cons_succ]
        refine wpAnyN_oneC (i := 4) (by as_aux_lemma => kernel_rfl) rfl (by assumption) (fun hcl4 K' hK' => ?_)
        clear hcl5
        go_simp
        go_at_call 14
        refine (HTK2.out _).mono ?_
        rintro e w5 ⟨rfl, hs5⟩
        have hS1 := hS0.same hs5
        have hst5 := Same.trans hst0 hs5
        refine hK'.out _ _ (fun _ => hS1) ?_
        clear hK' K'
        try simp only [Act.put, List.getElem_toArray, List.getElem_cons_succ, List.getElem_cons_zero, List.setIfInBounds_toArray, List.set_cons_zero, List.set_cons_succ]
        refine wpAnyN_take (i := 6) (v := .bool true) rfl (by as_aux_lemma => kernel_rfl) (by as_aux_lemma => kernel_rfl) (by as_aux_lemma => kernel_rfl) (by as_aux_lemma => kernel_rfl) (fun _ _ _ h => h) (by assumption) hS1 (Or.inl ⟨by rfl, ?_⟩) (fun hcl6 => ?_)
        · (intro wS hSw; clear hSw; go_simp; exact HAL.out)
        clear hcl4
        try simp only [Act.put, List.getElem_toArray, List.getElem_cons_succ, List.getElem_cons_zero, List.setIfInBounds_toArray, List.set_cons_zero, List.set_cons_succ]
        refine wpAnyN_take (i := 7) (v := ?_) rfl (by as_aux_lemma => kernel_rfl) (by as_aux_lemma => kernel_rfl) (by as_aux_lemma => kernel_rfl) (by as_aux_lemma => kernel_rfl) (fun _ _ _ h => h) (by assumption) hS1 (Or.inl ⟨by rfl, ?_⟩) (fun hcl7 => ?_)
        rotate_left
        · (intro wS hSw; (try (obtain ⟨p0, p1, p2, p3, p4, p5, p6, t0, t1, t2, t3, t4, t5, t6⟩ := hSw)); go_simp; (try with_reducible rfl))
        clear hcl6
        try simp only [Act.put, List.getElem_toArray, List.getElem_cons_succ, List.getElem_cons_zero, List.setIfInBounds_toArray, List.set_cons_zero, List.set_cons_succ]
        refine wpAnyN_take (i := 8) (v := ?_) rfl (by as_aux_lemma => kernel_rfl) (by as_aux_lemma => kernel_rfl) (by as_aux_lemma => kernel_rfl) (by as_aux_lemma => kernel_rfl) (fun _ _ _ h => h) (by assumption) hS1 (Or.inl ⟨by rfl, ?_⟩) (fun hcl8 => ?_)
        rotate_left
        · (intro wS hSw; (try (obtain ⟨p0, p1, p2, p3, p4, p5, p6, t0, t1, t2, t3, t4, t5, t6⟩ := hSw)); go_simp; (try with_reducible rfl))
        clear hcl7
        try simp only [Act.put, List.getElem_toArray, List.getElem_cons_succ, List.getElem_cons_zero, List.setIfInBounds_toArray, List.set_cons_zero, List.set_cons_succ]
        refine wpAnyN_oneC (i := 9) (by as_aux_lemma => kernel_rfl) rfl (by assumption) (fun hcl9 K' hK' => ?_)
        clear hcl8
        go_simp
        go_at_call 11
        refine (known_any _ (HT.out.same hst5)).mono ?_
        rintro e w6 ⟨rfl, hs6⟩
        have hS2 := hS1.same hs6
        refine hK'.out _ _ (fun _ => hS2) ?_
        clear hK' K'
        try simp only [Act.put, List.getElem_toArray, List.getElem_cons_succ, List.getElem_cons_zero, List.setIfInBounds_toArray, List.set_cons_zero, List.set_cons_succ]
        refine wpAnyN_take (i := 10) (v := ?_) rfl (by as_aux_lemma => kernel_rfl) (by as_aux_lemma => kernel_rfl) (by as_aux_lemma => kernel_rfl) (by as_aux_lemma => kernel_rfl) (fun _ _ _ h => h) (by assumption) hS2 (Or.inl ⟨by rfl, ?_⟩) (fun hcl10 => ?_)
        rotate_left
        · (intro wS hSw; (try (obtain ⟨p0, p1, p2, p3, p4, p5, p6, t0, t1, t2, t3, t4, t5, t6⟩ := hSw)); go_simp; (try with_reducible rfl))
        clear hcl9
        try simp only [Act.put, List.getElem_toArray, List.getElem_cons_succ, List.getElem_cons_zero, List.setIfInBounds_toArray, List.set_cons_zero, List.set_cons_succ]
        refine wpAnyN_take (i := 11) (v := ?_) rfl (by as_aux_lemma => kernel_rfl) (by as_aux_lemma => kernel_rfl) (by as_aux_lemma => kernel_rfl) (by as_aux_lemma => kernel_rfl) (fun _ _ _ h => h) (by assumption) hS2 (Or.inl ⟨by rfl, ?_⟩) (fun hcl11 => ?_)
        rotate_left
        · (intro wS hSw; (try (obtain ⟨p0, p1, p2, p3, p4, p5, p6, t0, t1, t2, t3, t4, t5, t6⟩ := hSw)); go_simp; (try with_reducible rfl))
        clear hcl10
        try simp only [Act.put, List.getElem_toArray, List.getElem_cons_succ, List.getElem_cons_zero, List.setIfInBounds_toArray, List.set_cons_zero, List.set_cons_succ]
        refine wpAnyN_done (by as_aux_lemma => kernel_rfl) ?_ _
        refine NoPanic.normal ?_
        go_wp2_with fail
        go_ret
        exact ⟨rfl, Same.trans hst5 hs6⟩
      · have hne : (E2 != 0) = true := by simpa using hE2
        go_wp2_with fail
        refine wp_region_noPanic ?_
        have hst0 := (HS4.out.alloc (.cells #[.int .i64 d0, .int .i64 d1, .int .i64 d2, .bool d3, .int .i64 d4, .int .u64 d5, .int .i64 d6] 29)).drew
        clear q0 q1 q2 q3 q4 q5 q6
        refine wp_region_need (fun _ => True) (fun _ => true) (by kernel_rfl) (fun hcl => ?_)
        have hS0 := trivial
        refine wpAnyN_take (i := 0) (v := ?_) rfl (by as_aux_lemma => kernel_rfl) (by as_aux_lemma => kernel_rfl) (by as_aux_lemma => kernel_rfl) (by as_aux_lemma => kernel_rfl) (fun _ _ _ h => h) (by assumption) hS0 (Or.inl ⟨by rfl, ?_⟩) (fun hcl0 => ?_)
        rotate_left
        · (intro wS hSw; (try dsimp only at hSw); go_simp; (try with_reducible rfl))
        clear hcl
        try simp only [Act.put, List.getElem_toArray, List.getElem_cons_succ, List.getElem_cons_zero, List.setIfInBounds_toArray, List.set_cons_zero, List.set_cons_succ]
        refine wpAnyN_take (i := 1) (v := ?_) rfl (by as_aux_lemma => kernel_rfl) (by as_aux_lemma => kernel_rfl) (by as_aux_lemma => kernel_rfl) (by as_aux_lemma => kernel_rfl) (fun _ _ _ h => h) (by assumption) hS0 (Or.inl ⟨by rfl, ?_⟩) (fun hcl1 => ?_)
        rotate_left
        · (intro wS hSw; (try dsimp only at hSw); go_simp; (try with_reducible rfl))
        clear hcl0
        try simp only [Act.put, List.getElem_toArray, List.getElem_cons_succ, List.getElem_cons_zero, List.setIfInBounds_toArray, List.set_cons_zero, List.set_cons_succ]
        refine wpAnyN_take (i := 2) (v := ?_) rfl (by as_aux_lemma => kernel_rfl) (by as_aux_lemma => kernel_rfl) (by as_aux_lemma => kernel_rfl) (by as_aux_lemma => kernel_rfl) (fun _ _ _ h => h) (by assumption) hS0 (Or.inl ⟨by rfl, ?_⟩) (fun hcl2 => ?_)
        rotate_left
        · (intro wS hSw; (try dsimp only at hSw); go_simp; (try with_reducible rfl))
        clear hcl1
        try simp only [Act.put, List.getElem_toArray, List.getElem_cons_succ, List.getElem_cons_zero, List.setIfInBounds_toArray, List.set_cons_zero, List.set_cons_succ]
        refine wpAnyN_skip (i := 3) rfl (by as_aux_lemma => kernel_rfl) (by as_aux_lemma => kernel_rfl) (by as_aux_lemma => kernel_rfl) (by as_aux_lemma => kernel_rfl) rfl (fun _ _ _ h => h) (by assumption) hS0 rfl (fun hcl3 => ?_)
        clear hcl2
        refine wpAnyN_skip (i := 4) rfl (by as_aux_lemma => kernel_rfl) (by as_aux_lemma => kernel_rfl) (by as_aux_lemma => kernel_rfl) (by as_aux_lemma => kernel_rfl) rfl (fun _ _ _ h => h) (by assumption) hS0 rfl (fun hcl4 => ?_)
        clear hcl3
        refine wpAnyN_skip (i := 5) rfl (by as_aux_lemma => kernel_rfl) (by as_aux_lemma => kernel_rfl) (by as_aux_lemma => kernel_rfl) (by as_aux_lemma => kernel_rfl) rfl (fun _ _ _ h => h) (by assumption) hS0 rfl (fun hcl5 => ?_)
        clear hcl4
        refine wpAnyN_skip (i := 6) rfl (by as_aux_lemma => kernel_rfl) (by as_aux_lemma => kernel_rfl) (by as_aux_lemma => kernel_rfl) (by as_aux_lemma => kernel_rfl) rfl (fun _ _ _ h => h) (by assumption) hS0 rfl (fun hcl6 => ?_)
        clear hcl5
        refine wpAnyN_take (i := 7) (v := ?_) rfl (by as_aux_lemma => kernel_rfl) (by as_aux_lemma => kernel_rfl) (by as_aux_lemma => kernel_rfl) (by as_aux_lemma => kernel_rfl) (fun _ _ _ h => h) (by assumption) hS0 (Or.inl ⟨by rfl, ?_⟩) (fun hcl7 => ?_)
        rotate_left
        · (intro wS hSw; (try dsimp only at hSw); go_simp; (try with_reducible rfl))
        clear hcl6
        try simp only [Act.put, List.getElem_toArray, List.getElem_cons_succ, List.getElem_cons_zero, List.setIfInBounds_toArray, List.set_cons_zero, List.set_cons_succ]
        refine wpAnyN_take (i := 8) (v := ?_) rfl (by as_aux_lemma => kernel_rfl) (by as_aux_lemma => kernel_rfl) (by as_aux_lemma => kernel_rfl) (by as_aux_lemma => kernel_rfl) (fun _ _ _ h => h) (by assumption) hS0 (Or.inl ⟨by rfl, ?_⟩) (fun hcl8 => ?_)
        rotate_left
        · (intro wS hSw; (try dsimp only at hSw); go_simp; (try with_reducible rfl))
        clear hcl7
        try simp only [Act.put, List.getElem_toArray, List.getElem_cons_succ, List.getElem_cons_zero, List.setIfInBounds_toArray, List.set_cons_zero, List.set_cons_succ]
        refine wpAnyN_oneC (i := 9) (by as_aux_lemma => kernel_rfl) rfl (by assumption) (fun hcl9 K' hK' => ?_)
        clear hcl8
        go_simp
        go_at_call 11
        refine (known_any _ (HT.out.same hst0)).mono ?_
        rintro e w6 ⟨rfl, hs6⟩
        have hS1 : (fun _ : World => True) w6 := trivial
        refine hK'.out _ _ (fun _ => hS1) ?_
        clear hK' K'
        try simp only [Act.put, List.getElem_toArray, List.getElem_cons_succ, List.getElem_cons_zero, List.setIfInBounds_toArray, List.set_cons_zero, List.set_cons_succ]
        refine wpAnyN_take (i := 10) (v := ?_) rfl (by as_aux_lemma => kernel_rfl) (by as_aux_lemma => kernel_rfl) (by as_aux_lemma => kernel_rfl) (by as_aux_lemma => kernel_rfl) (fun _ _ _ h => h) (by assumption) hS1 (Or.inl ⟨by rfl, ?_⟩) (fun hcl10 => ?_)
        rotate_left
        · (intro wS hSw; (try dsimp only at hSw); go_simp; (try with_reducible rfl))
        clear hcl9
        try simp only [Act.put, List.getElem_toArray, List.getElem_cons_succ, List.getElem_cons_zero, List.setIfInBounds_toArray, List.set_cons_zero, List.set_cons_succ]
        refine wpAnyN_take (i := 11) (v := ?_) rfl (by as_aux_lemma => kernel_rfl) (by as_aux_lemma => kernel_rfl) (by as_aux_lemma => kernel_rfl) (by as_aux_lemma => kernel_rfl) (fun _ _ _ h => h) (by assumption) hS1 (Or.inl ⟨by rfl, ?_⟩) (fun hcl11 => ?_)
        rotate_left
        · (intro wS hSw; (try dsimp only at hSw); go_simp; (try with_reducible rfl))
        clear hcl10
        try simp only [Act.put, List.getElem_toArray, List.getElem_cons_succ, List.getElem_cons_zero, List.setIfInBounds_toArray, List.set_cons_zero, List.set_cons_succ]
        refine wpAnyN_done (by as_aux_lemma => kernel_rfl) ?_ _
        refine NoPanic.normal ?_
        go_wp2_with fail
        go_ret
        exact ⟨rfl, Same.trans hst0 hs6⟩
  · have hne : (E != 0) = true := by simpa using hE
    clear hE hlaw
    go_wp2_with fail
    refine (known_any _ (HT.out.same HSW.out)).mono ?_
    rintro e w4 ⟨rfl, hs4⟩
    go_wp2_with fail
    go_ret
    exact ⟨rfl, Same.trans HSW.out hs4⟩
theorem cdbChanged_walk (w : World) (hT : Tab15 w) (v : Value) (c : Cmd) (h : CmdIn w v c) (at_ : Int) (ha : -9223372036854775808 ≤ at_ ∧ at_ ≤ 9223372036854775807) (to : Int) (ht : 0 ≤ to ∧ to ≤ 255) :
    Calls Tryd.prog 3 #[v, .int .i64 at_, .int .u8 to] w fun e w' => e = .returned (.bool true) ∧ Same w w' := by
  obtain ⟨rfl, hc⟩ := h
  exact cdbChanged_walk0 w hT c hc at_ ha to ht
end Go.Proofs.YtmaofhiapkfoaaaDoor
