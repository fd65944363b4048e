/- The walk of CdbParses. -/
import Derived.Test.YtmaofhiapkfoaaaDoorCdbRd
import Derived.Test.YtmaofhiapkfoaaaDoorLentK
import Derived.Test.YtmaofhiapkfoaaaDoorWalkCdbLong
namespace Go.Proofs.YtmaofhiapkfoaaaDoor
open Go.RowKit
set_option linter.unusedVariables false
set_option linter.unusedSimpArgs false
set_option maxRecDepth 100000
/-- The cells and the bytes of the last statement. -/
def SP (p q : Nat) (op service page : Int) (vital : Bool) (typ lba len : Int) (x v : Value) (bs : List UInt8) (w : World) : Prop :=
  S14 w p q (.int .i64 op) (.int .i64 service) (.int .i64 page) (.bool vital) (.int .i64 typ) (.int .u64 lba) (.int .i64 len) (.int .i64 op) (.int .i64 service) (.int .i64 page) (.bool vital) (.int .i64 typ) (.int .u64 lba) (.int .i64 len) ∧ Bs w x bs ∧ Bs w v bs
theorem SP.same {p q : Nat} {op service page : Int} {vital : Bool} {typ lba len : Int} {x v : Value} {bs : List UInt8} {w w' : World} (h : SP p q op service page vital typ lba len x v bs w) (hs : Same w w') : SP p q op service page vital typ lba len x v bs w' := ⟨h.1.same hs, h.2.1.same hs, h.2.2.same hs⟩
attribute [local go_sem ↓] Go.wp_at_zero Go.wp_at_succ
set_option maxHeartbeats 4000000 in
theorem cdbParses_walk (w : World) (hTS : Tab15 w ∧ Siz8 w) (v : Value) (bs : List UInt8) (h : Bs w v bs) (hl : bs.length ≤ 140737488351232) (op2 : Int) (ho : -9223372036854775808 ≤ op2 ∧ op2 ≤ 9223372036854775807) :
    Calls Tryd.prog 6 #[v, .int .i64 op2] w fun e w' => e = .returned (.bool true) ∧ Same w w' := by
  obtain ⟨hT, hS⟩ := hTS
  have hp := fun u W h hT => parse_any u bs W h (by omega) hT
  have hr := fun W h => rparse_any v bs W h (by omega)
  have hok := parseC_ok bs
  have hback := parse_back (bs := bs)
  generalize parseE bs = E at hp hr hback
  generalize parseC bs = C at hp hr hok hback
  have hbld := fun W hT => build_any C W hok hT
  have htk := fun W => taken_any C W
  have iA := fun W => in_any C W hok
  have iB := fun W => rin_any C W hok
  have uA := fun W => out_any C W hok
  have uB := fun W => rout_any C W hok
  generalize inN C = ni at iA iB
  generalize outN C = nu at uA uB
  generalize cE C = eC at hbld hback
  generalize cL C = lC at hbld hback
  obtain ⟨op, service, page, vital, typ, lba, len⟩ := C
  simp only [Cmd.cells] at hp hr hbld htk iA iB uA uB
  obtain ⟨A, cap, rfl, k1, k2, _⟩ := id h
  have HP := Lib.hid hp
  have HR := Lib.hid hr
  have HBK := Lib.hid hback
  have HBLD := Lib.hid hbld
  have HTK := Lib.hid htk
  have HIA := Lib.hid iA
  have HIB := Lib.hid iB
  have HUA := Lib.hid uA
  have HUB := Lib.hid uB
  have HT := Lib.hid hT
  have HS := Lib.hid hS
  have HB := Lib.hid h
  clear hp hr hback hbld htk iA iB uA uB hT hS h hok
  go_enter Tryd.func6, Tryd.ntmps6
  go_wp2_with fail
  refine (lent_bs _ bs w HB.out hl).mono ?_
  rintro e w1 ⟨v1, rfl, hln, hs1⟩
  obtain ⟨lb, lo, lc, rfl, hlf⟩ := id hln
  have HLN := Lib.hid hln
  have HW1 := Lib.hid hs1
  clear hln hs1 hlf
  go_wp2_with fail
  refine (HP.out _ _ HLN.out.bs (HT.out.same HW1.out)).mono ?_
  rintro e w2 ⟨rfl, hs2⟩
  have HW2 := Lib.hid (Same.trans HW1.out hs2)
  have HLN2 := Lib.hid (HLN.out.same hs2)
  clear hs2 HLN
  go_wp2_with fail
  refine (HR.out _ (HB.out.same (HW2.out.alloc _))).mono ?_
  rintro e w3 ⟨rfl, hs3⟩
  obtain ⟨a0, a1, a2, a3, a4, a5, a6⟩ := box7 w2 29 _ _ _ _ _ _ _ w3 hs3
  have hz3 : w2.heap.size < w3.heap.size := by have := hs3.size; simp at this; omega
  have hs23 := Same.trans ((Upd.refl (fun _ => False) w2).alloc _) hs3
  have HW3 := Lib.hid (Same.trans HW2.out hs23)
  have HLN3 := Lib.hid (HLN2.out.same hs23)
  clear hs3 hs23 HLN2
  go_wp2_with fail
  refine wp_gen fun w4 hw4 => ?_
  have hs4 : Same w3 w4 := by rw [hw4]; exact (Upd.refl _ w3).alloc _
  obtain ⟨b0, b1, b2, b3, b4, b5, b6⟩ := box7 w3 24 (.int .i64 op) (.int .i64 service) (.int .i64 page) (.bool vital) (.int .i64 typ) (.int .u64 lba) (.int .i64 len) w4 (by rw [hw4]; exact Upd.refl _ _)
  have hS0 : S14 w4.drew w2.heap.size w3.heap.size (.int .i64 op) (.int .i64 service) (.int .i64 page) (.bool vital) (.int .i64 typ) (.int .u64 lba) (.int .i64 len) (.int .i64 op) (.int .i64 service) (.int .i64 page) (.bool vital) (.int .i64 typ) (.int .u64 lba) (.int .i64 len) := S14.same ⟨hs4.cell a0 id, hs4.cell a1 id, hs4.cell a2 id, hs4.cell a3 id, hs4.cell a4 id, hs4.cell a5 id, hs4.cell a6 id, b0, b1, b2, b3, b4, b5, b6⟩ ((Upd.refl (fun _ => False) w4).drew)
  have HLN := Lib.hid (HLN3.out.same (hs4.drew))
  have HW6 := Lib.hid ((Same.trans HW3.out hs4).drew)
  have HWL : Hid (Same w4.drew w4.drew) := Upd.refl _ _
  have HWB := Lib.hid HW6.out
  have hst0 : Same w4.drew w4.drew := Upd.refl _ _
  clear hw4 a0 a1 a2 a3 a4 a5 a6 b0 b1 b2 b3 b4 b5 b6 hs4 HW3 HW2 HW1 HLN3 HP HR
  refine wp_region_noPanic ?_
  refine wp_region_need (fun w' => S14 w' w2.heap.size w3.heap.size (.int .i64 op) (.int .i64 service) (.int .i64 page) (.bool vital) (.int .i64 typ) (.int .u64 lba) (.int .i64 len) (.int .i64 op) (.int .i64 service) (.int .i64 page) (.bool vital) (.int .i64 typ) (.int .u64 lba) (.int .i64 len)) (fun _ => true) (by kernel_rfl) (fun hcl => ?_)
  refine wpAnyN_take (i := 0) (v := ?_) rfl (by as_aux_lemma => kernel_rfl) (by as_aux_lemma => kernel_rfl) (by as_aux_lemma => kernel_rfl) (by as_aux_lemma => kernel_rfl) (fun _ _ _ h => h) (by assumption) hS0 (Or.inl ⟨by rfl, ?_⟩) (fun hcl0 => ?_)
  rotate_left
  · (intro wS hSw; (try (obtain ⟨p0, p1, p2, p3, p4, p5, p6, t0, t1, t2, t3, t4, t5, t6⟩ := hSw)); go_simp; (try with_reducible rfl))
  clear hcl
  try simp only [Act.put, List.getElem_toArray, List.getElem_cons_succ, List.getElem_cons_zero, List.setIfInBounds_toArray, List.set_cons_zero, List.set_cons_succ]
  refine wpAnyN_take (i := 2) (v := ?_) rfl (by as_aux_lemma => kernel_rfl) (by as_aux_lemma => kernel_rfl) (by as_aux_lemma => kernel_rfl) (by as_aux_lemma => kernel_rfl) (fun _ _ _ h => h) (by assumption) hS0 (Or.inl ⟨by rfl, ?_⟩) (fun hcl2 => ?_)
  rotate_left
  · (intro wS hSw; (try (obtain ⟨p0, p1, p2, p3, p4, p5, p6, t0, t1, t2, t3, t4, t5, t6⟩ := hSw)); go_simp; (try with_reducible rfl))
  clear hcl0
  try simp only [Act.put, List.getElem_toArray, List.getElem_cons_succ, List.getElem_cons_zero, List.setIfInBounds_toArray, List.set_cons_zero, List.set_cons_succ]
  refine wpAnyN_oneC (i := 1) (by as_aux_lemma => kernel_rfl) rfl (by assumption) (fun hcl1 K' hK' => ?_)
  clear hcl2
  go_simp
  go_at_call 14
  refine (HTK.out _).mono ?_
  rintro e x1 ⟨rfl, hs1⟩
  have hS1 := hS0.same hs1
  have hst1 := Same.trans hst0 hs1
  clear hs1
  refine hK'.out _ _ (fun _ => hS1) ?_
  clear hK' K'
  try simp only [Act.put, List.getElem_toArray, List.getElem_cons_succ, List.getElem_cons_zero, List.setIfInBounds_toArray, List.set_cons_zero, List.set_cons_succ]
  refine wpAnyN_take (i := 3) (v := ?_) rfl (by as_aux_lemma => kernel_rfl) (by as_aux_lemma => kernel_rfl) (by as_aux_lemma => kernel_rfl) (by as_aux_lemma => kernel_rfl) (fun _ _ _ h => h) (by assumption) hS1 (Or.inl ⟨by rfl, ?_⟩) (fun hcl3 => ?_)
  rotate_left
  · (intro wS hSw; (try (obtain ⟨p0, p1, p2, p3, p4, p5, p6, t0, t1, t2, t3, t4, t5, t6⟩ := hSw)); go_simp; (try with_reducible rfl))
  clear hcl1
  try simp only [Act.put, List.getElem_toArray, List.getElem_cons_succ, List.getElem_cons_zero, List.setIfInBounds_toArray, List.set_cons_zero, List.set_cons_succ]
  refine wpAnyN_take (i := 4) (v := ?_) rfl (by as_aux_lemma => kernel_rfl) (by as_aux_lemma => kernel_rfl) (by as_aux_lemma => kernel_rfl) (by as_aux_lemma => kernel_rfl) (fun _ _ _ h => h) (by assumption) hS1 (Or.inl ⟨by rfl, ?_⟩) (fun hcl4 => ?_)
  rotate_left
  · (intro wS hSw; (try (obtain ⟨p0, p1, p2, p3, p4, p5, p6, t0, t1, t2, t3, t4, t5, t6⟩ := hSw)); go_simp; (try with_reducible rfl))
  clear hcl3
  try simp only [Act.put, List.getElem_toArray, List.getElem_cons_succ, List.getElem_cons_zero, List.setIfInBounds_toArray, List.set_cons_zero, List.set_cons_succ]
  refine wpAnyN_take (i := 5) (v := ?_) rfl (by as_aux_lemma => kernel_rfl) (by as_aux_lemma => kernel_rfl) (by as_aux_lemma => kernel_rfl) (by as_aux_lemma => kernel_rfl) (fun _ _ _ h => h) (by assumption) hS1 (Or.inl ⟨by rfl, ?_⟩) (fun hcl5 => ?_)
  rotate_left
  · (intro wS hSw; (try (obtain ⟨p0, p1, p2, p3, p4, p5, p6, t0, t1, t2, t3, t4, t5, t6⟩ := hSw)); go_simp; (try with_reducible rfl))
  clear hcl4
  try simp only [Act.put, List.getElem_toArray, List.getElem_cons_succ, List.getElem_cons_zero, List.setIfInBounds_toArray, List.set_cons_zero, List.set_cons_succ]
  refine wpAnyN_take (i := 6) (v := ?_) rfl (by as_aux_lemma => kernel_rfl) (by as_aux_lemma => kernel_rfl) (by as_aux_lemma => kernel_rfl) (by as_aux_lemma => kernel_rfl) (fun _ _ _ h => h) (by assumption) hS1 (Or.inl ⟨by rfl, ?_⟩) (fun hcl6 => ?_)
  rotate_left
  · (intro wS hSw; (try (obtain ⟨p0, p1, p2, p3, p4, p5, p6, t0, t1, t2, t3, t4, t5, t6⟩ := hSw)); go_simp; (try with_reducible rfl))
  clear hcl5
  try simp only [Act.put, List.getElem_toArray, List.getElem_cons_succ, List.getElem_cons_zero, List.setIfInBounds_toArray, List.set_cons_zero, List.set_cons_succ]
  refine wpAnyN_take (i := 7) (v := ?_) rfl (by as_aux_lemma => kernel_rfl) (by as_aux_lemma => kernel_rfl) (by as_aux_lemma => kernel_rfl) (by as_aux_lemma => kernel_rfl) (fun _ _ _ h => h) (by assumption) hS1 (Or.inl ⟨by rfl, ?_⟩) (fun hcl7 => ?_)
  rotate_left
  · (intro wS hSw; (try (obtain ⟨p0, p1, p2, p3, p4, p5, p6, t0, t1, t2, t3, t4, t5, t6⟩ := hSw)); go_simp; (try with_reducible rfl))
  clear hcl6
  try simp only [Act.put, List.getElem_toArray, List.getElem_cons_succ, List.getElem_cons_zero, List.setIfInBounds_toArray, List.set_cons_zero, List.set_cons_succ]
  refine wpAnyN_take (i := 8) (v := ?_) rfl (by as_aux_lemma => kernel_rfl) (by as_aux_lemma => kernel_rfl) (by as_aux_lemma => kernel_rfl) (by as_aux_lemma => kernel_rfl) (fun _ _ _ h => h) (by assumption) hS1 (Or.inl ⟨by rfl, ?_⟩) (fun hcl8 => ?_)
  rotate_left
  · (intro wS hSw; (try (obtain ⟨p0, p1, p2, p3, p4, p5, p6, t0, t1, t2, t3, t4, t5, t6⟩ := hSw)); go_simp; (try with_reducible rfl))
  clear hcl7
  try simp only [Act.put, List.getElem_toArray, List.getElem_cons_succ, List.getElem_cons_zero, List.setIfInBounds_toArray, List.set_cons_zero, List.set_cons_succ]
  refine wpAnyN_take (i := 9) (v := ?_) rfl (by as_aux_lemma => kernel_rfl) (by as_aux_lemma => kernel_rfl) (by as_aux_lemma => kernel_rfl) (by as_aux_lemma => kernel_rfl) (fun _ _ _ h => h) (by assumption) hS1 (Or.inl ⟨by rfl, ?_⟩) (fun hcl9 => ?_)
  rotate_left
  · (intro wS hSw; (try (obtain ⟨p0, p1, p2, p3, p4, p5, p6, t0, t1, t2, t3, t4, t5, t6⟩ := hSw)); go_simp; (try with_reducible rfl))
  clear hcl8
  try simp only [Act.put, List.getElem_toArray, List.getElem_cons_succ, List.getElem_cons_zero, List.setIfInBounds_toArray, List.set_cons_zero, List.set_cons_succ]
  refine wpAnyN_take (i := 10) (v := ?_) rfl (by as_aux_lemma => kernel_rfl) (by as_aux_lemma => kernel_rfl) (by as_aux_lemma => kernel_rfl) (by as_aux_lemma => kernel_rfl) (fun _ _ _ h => h) (by assumption) hS1 (Or.inl ⟨by rfl, ?_⟩) (fun hcl10 => ?_)
  rotate_left
  · (intro wS hSw; (try (obtain ⟨p0, p1, p2, p3, p4, p5, p6, t0, t1, t2, t3, t4, t5, t6⟩ := hSw)); go_simp; (try with_reducible rfl))
  clear hcl9
  try simp only [Act.put, List.getElem_toArray, List.getElem_cons_succ, List.getElem_cons_zero, List.setIfInBounds_toArray, List.set_cons_zero, List.set_cons_succ]
  refine wpAnyN_take (i := 11) (v := ?_) rfl (by as_aux_lemma => kernel_rfl) (by as_aux_lemma => kernel_rfl) (by as_aux_lemma => kernel_rfl) (by as_aux_lemma => kernel_rfl) (fun _ _ _ h => h) (by assumption) hS1 (Or.inl ⟨by rfl, ?_⟩) (fun hcl11 => ?_)
  rotate_left
  · (intro wS hSw; (try (obtain ⟨p0, p1, p2, p3, p4, p5, p6, t0, t1, t2, t3, t4, t5, t6⟩ := hSw)); go_simp; (try with_reducible rfl))
  clear hcl10
  try simp only [Act.put, List.getElem_toArray, List.getElem_cons_succ, List.getElem_cons_zero, List.setIfInBounds_toArray, List.set_cons_zero, List.set_cons_succ]
  refine wpAnyN_oneC (i := 12) (by as_aux_lemma => kernel_rfl) rfl (by assumption) (fun hcl12 K' hK' => ?_)
  clear hcl11
  go_simp
  go_at_call 20
  refine (kept_bs _ _ bs _ (HLN.out.same (Same.trans HWL.out hst1)) (HB.out.same (Same.trans HWB.out hst1)) hl).mono ?_
  rintro e x2 ⟨rfl, hx2⟩
  subst hx2
  have hS2 := hS1
  have hst2 := hst1
  refine hK'.out _ _ (fun _ => hS2) ?_
  clear hK' K'
  try simp only [Act.put, List.getElem_toArray, List.getElem_cons_succ, List.getElem_cons_zero, List.setIfInBounds_toArray, List.set_cons_zero, List.set_cons_succ]
  refine wpAnyN_take (i := 13) (v := ?_) rfl (by as_aux_lemma => kernel_rfl) (by as_aux_lemma => kernel_rfl) (by as_aux_lemma => kernel_rfl) (by as_aux_lemma => kernel_rfl) (fun _ _ _ h => h) (by assumption) hS2 (Or.inl ⟨by rfl, ?_⟩) (fun hcl13 => ?_)
  rotate_left
  · (intro wS hSw; (try (obtain ⟨p0, p1, p2, p3, p4, p5, p6, t0, t1, t2, t3, t4, t5, t6⟩ := hSw)); go_simp; (try with_reducible rfl))
  clear hcl12
  try simp only [Act.put, List.getElem_toArray, List.getElem_cons_succ, List.getElem_cons_zero, List.setIfInBounds_toArray, List.set_cons_zero, List.set_cons_succ]
  refine wpAnyN_take (i := 14) (v := ?_) rfl (by as_aux_lemma => kernel_rfl) (by as_aux_lemma => kernel_rfl) (by as_aux_lemma => kernel_rfl) (by as_aux_lemma => kernel_rfl) (fun _ _ _ h => h) (by assumption) hS2 (Or.inl ⟨by rfl, ?_⟩) (fun hcl14 => ?_)
  rotate_left
  · (intro wS hSw; (try (obtain ⟨p0, p1, p2, p3, p4, p5, p6, t0, t1, t2, t3, t4, t5, t6⟩ := hSw)); go_simp; (try with_reducible rfl))
  clear hcl13
  try simp only [Act.put, List.getElem_toArray, List.getElem_cons_succ, List.getElem_cons_zero, List.setIfInBounds_toArray, List.set_cons_zero, List.set_cons_succ]
  refine wpAnyN_take (i := 15) (v := ?_) rfl (by as_aux_lemma => kernel_rfl) (by as_aux_lemma => kernel_rfl) (by as_aux_lemma => kernel_rfl) (by as_aux_lemma => kernel_rfl) (fun _ _ _ h => h) (by assumption) hS2 (Or.inl ⟨by rfl, ?_⟩) (fun hcl15 => ?_)
  rotate_left
  · (intro wS hSw; (try (obtain ⟨p0, p1, p2, p3, p4, p5, p6, t0, t1, t2, t3, t4, t5, t6⟩ := hSw)); go_simp; (try with_reducible rfl))
  clear hcl14
  try simp only [Act.put, List.getElem_toArray, List.getElem_cons_succ, List.getElem_cons_zero, List.setIfInBounds_toArray, List.set_cons_zero, List.set_cons_succ]
  refine wpAnyN_take (i := 16) (v := ?_) rfl (by as_aux_lemma => kernel_rfl) (by as_aux_lemma => kernel_rfl) (by as_aux_lemma => kernel_rfl) (by as_aux_lemma => kernel_rfl) (fun _ _ _ h => h) (by assumption) hS2 (Or.inl ⟨by rfl, ?_⟩) (fun hcl16 => ?_)
  rotate_left
  · (intro wS hSw; (try (obtain ⟨p0, p1, p2, p3, p4, p5, p6, t0, t1, t2, t3, t4, t5, t6⟩ := hSw)); go_simp; (try with_reducible rfl))
  clear hcl15
  try simp only [Act.put, List.getElem_toArray, List.getElem_cons_succ, List.getElem_cons_zero, List.setIfInBounds_toArray, List.set_cons_zero, List.set_cons_succ]
  refine wpAnyN_take (i := 18) (v := ?_) rfl (by as_aux_lemma => kernel_rfl) (by as_aux_lemma => kernel_rfl) (by as_aux_lemma => kernel_rfl) (by as_aux_lemma => kernel_rfl) (fun _ _ _ h => h) (by assumption) hS2 (Or.inl ⟨by rfl, ?_⟩) (fun hcl18 => ?_)
  rotate_left
  · (intro wS hSw; (try (obtain ⟨p0, p1, p2, p3, p4, p5, p6, t0, t1, t2, t3, t4, t5, t6⟩ := hSw)); go_simp; (try with_reducible rfl))
  clear hcl16
  try simp only [Act.put, List.getElem_toArray, List.getElem_cons_succ, List.getElem_cons_zero, List.setIfInBounds_toArray, List.set_cons_zero, List.set_cons_succ]
  refine wpAnyN_oneC (i := 17) (by as_aux_lemma => kernel_rfl) rfl (by assumption) (fun hcl17 K' hK' => ?_)
  clear hcl18
  go_simp
  go_at_call 15
  refine (size_any op2 _ (HT.out.same (Same.trans HW6.out hst2)) (HS.out.same (Same.trans HW6.out hst2)) ho.1 ho.2).mono ?_
  rintro e x3 ⟨rfl, hs3⟩
  have hS3 := hS2.same hs3
  have hst3 := Same.trans hst2 hs3
  clear hs3
  refine hK'.out _ _ (fun _ => hS3) ?_
  clear hK' K'
  try simp only [Act.put, List.getElem_toArray, List.getElem_cons_succ, List.getElem_cons_zero, List.setIfInBounds_toArray, List.set_cons_zero, List.set_cons_succ]
  refine wpAnyN_oneC (i := 19) (by as_aux_lemma => kernel_rfl) rfl (by assumption) (fun hcl19 K' hK' => ?_)
  clear hcl17
  go_simp
  go_at_call 21
  refine (rsize_any op2 _ ho.1 ho.2).mono ?_
  rintro e x4 ⟨rfl, hs4⟩
  have hS4 := hS3.same hs4
  have hst4 := Same.trans hst3 hs4
  clear hs4
  refine hK'.out _ _ (fun _ => hS4) ?_
  clear hK' K'
  try simp only [Act.put, List.getElem_toArray, List.getElem_cons_succ, List.getElem_cons_zero, List.setIfInBounds_toArray, List.set_cons_zero, List.set_cons_succ]
  refine wpAnyN_take (i := 20) (v := ?_) rfl (by as_aux_lemma => kernel_rfl) (by as_aux_lemma => kernel_rfl) (by as_aux_lemma => kernel_rfl) (by as_aux_lemma => kernel_rfl) (fun _ _ _ h => h) (by assumption) hS4 (Or.inl ⟨by rfl, ?_⟩) (fun hcl20 => ?_)
  rotate_left
  · (intro wS hSw; (try (obtain ⟨p0, p1, p2, p3, p4, p5, p6, t0, t1, t2, t3, t4, t5, t6⟩ := hSw)); go_simp; (try with_reducible rfl))
  clear hcl19
  try simp only [Act.put, List.getElem_toArray, List.getElem_cons_succ, List.getElem_cons_zero, List.setIfInBounds_toArray, List.set_cons_zero, List.set_cons_succ]
  refine wpAnyN_take (i := 21) (v := ?_) rfl (by as_aux_lemma => kernel_rfl) (by as_aux_lemma => kernel_rfl) (by as_aux_lemma => kernel_rfl) (by as_aux_lemma => kernel_rfl) (fun _ _ _ h => h) (by assumption) hS4 (Or.inl ⟨by rfl, ?_⟩) (fun hcl21 => ?_)
  rotate_left
  · (intro wS hSw; (try (obtain ⟨p0, p1, p2, p3, p4, p5, p6, t0, t1, t2, t3, t4, t5, t6⟩ := hSw)); go_simp; (try with_reducible rfl))
  clear hcl20
  try simp only [Act.put, List.getElem_toArray, List.getElem_cons_succ, List.getElem_cons_zero, List.setIfInBounds_toArray, List.set_cons_zero, List.set_cons_succ]
  refine wpAnyN_done (by as_aux_lemma => kernel_rfl) ?_ _
  refine NoPanic.normal ?_
  have HW7 := Lib.hid (Same.trans HW6.out hst4)
  have HS7 := Lib.hid hS4
  clear hst0 hst1 hst2 hst3 hst4 hS0 hS1 hS2 hS3 hS4 HLN HWL HWB HW6
  by_cases hE : E = 0
  · subst hE
    obtain ⟨he, hlc⟩ := HBK.out rfl
    subst he hlc
    obtain ⟨p0, p1, p2, p3, p4, p5, p6, t0, t1, t2, t3, t4, t5, t6⟩ := HS7.out
    go_wp2_with fail
    refine (HBLD.out _ (HT.out.same HW7.out)).mono ?_
    rintro e w8 ⟨v8, rfl, hf8, hs8⟩
    have hS0 : SP w2.heap.size w3.heap.size op service page vital typ lba len v8 (.slice A lC.length cap) lC w8.drew := SP.same ⟨HS7.out.same hs8, hf8.bs, HB.out.same (Same.trans HW7.out hs8)⟩ ((Upd.refl (fun _ => False) w8).drew)
    have HW9 := Lib.hid (Same.trans HW7.out hs8).drew
    have hst0 : Same w8.drew w8.drew := Upd.refl _ _
    obtain ⟨xA, xc, rfl, _⟩ := id hf8.bs
    clear p0 p1 p2 p3 p4 p5 p6 t0 t1 t2 t3 t4 t5 t6 hs8 hf8
    go_wp2_with fail
    refine wp_region_noPanic ?_
    refine wp_region_need (SP w2.heap.size w3.heap.size op service page vital typ lba len (.slice xA lC.length xc) (.slice A lC.length cap) lC) (fun _ => true) (by kernel_rfl) (fun hcl => ?_)
    refine wpAnyN_take (i := 0) (v := ?_) rfl (by as_aux_lemma => kernel_rfl) (by as_aux_lemma => kernel_rfl) (by as_aux_lemma => kernel_rfl) (by as_aux_lemma => kernel_rfl) (fun _ _ _ h => h) (by assumption) hS0 (Or.inl ⟨by rfl, ?_⟩) (fun hcl0 => ?_)
    rotate_left
    · (intro wS hSw; (obtain ⟨⟨p0, p1, p2, p3, p4, p5, p6, t0, t1, t2, t3, t4, t5, t6⟩, bx, bb⟩ := hSw; have cv1 := conv_bs (P := Tryd.prog) (src := 25) (dst := 9) Tryd.underlying25 Tryd.underlying5 Tryd.underlying9 bx; have cv2 := conv_bs (P := Tryd.prog) (src := 25) (dst := 9) Tryd.underlying25 Tryd.underlying5 Tryd.underlying9 bb; clear bx bb); go_simp; (try with_reducible rfl))
    clear hcl
    try simp only [Act.put, List.getElem_toArray, List.getElem_cons_succ, List.getElem_cons_zero, List.setIfInBounds_toArray, List.set_cons_zero, List.set_cons_succ]
    refine wpAnyN_take (i := 1) (v := ?_) rfl (by as_aux_lemma => kernel_rfl) (by as_aux_lemma => kernel_rfl) (by as_aux_lemma => kernel_rfl) (by as_aux_lemma => kernel_rfl) (fun _ _ _ h => h) (by assumption) hS0 (Or.inl ⟨by rfl, ?_⟩) (fun hcl1 => ?_)
    rotate_left
    · (intro wS hSw; (obtain ⟨⟨p0, p1, p2, p3, p4, p5, p6, t0, t1, t2, t3, t4, t5, t6⟩, bx, bb⟩ := hSw; have cv1 := conv_bs (P := Tryd.prog) (src := 25) (dst := 9) Tryd.underlying25 Tryd.underlying5 Tryd.underlying9 bx; have cv2 := conv_bs (P := Tryd.prog) (src := 25) (dst := 9) Tryd.underlying25 Tryd.underlying5 Tryd.underlying9 bb; clear bx bb); go_simp; (try with_reducible rfl))
    clear hcl0
    try simp only [Act.put, List.getElem_toArray, List.getElem_cons_succ, List.getElem_cons_zero, List.setIfInBounds_toArray, List.set_cons_zero, List.set_cons_succ]
    refine wpAnyN_take (i := 2) (v := ?_) rfl (by as_aux_lemma => kernel_rfl) (by as_aux_lemma => kernel_rfl) (by as_aux_lemma => kernel_rfl) (by as_aux_lemma => kernel_rfl) (fun _ _ _ h => h) (by assumption) hS0 (Or.inl ⟨by rfl, ?_⟩) (fun hcl2 => ?_)
    rotate_left
    · (intro wS hSw; (obtain ⟨⟨p0, p1, p2, p3, p4, p5, p6, t0, t1, t2, t3, t4, t5, t6⟩, bx, bb⟩ := hSw; have cv1 := conv_bs (P := Tryd.prog) (src := 25) (dst := 9) Tryd.underlying25 Tryd.underlying5 Tryd.underlying9 bx; have cv2 := conv_bs (P := Tryd.prog) (src := 25) (dst := 9) Tryd.underlying25 Tryd.underlying5 Tryd.underlying9 bb; clear bx bb); go_simp; (try with_reducible rfl))
    clear hcl1
    try simp only [Act.put, List.getElem_toArray, List.getElem_cons_succ, List.getElem_cons_zero, List.setIfInBounds_toArray, List.set_cons_zero, List.set_cons_succ]
    refine wpAnyN_take (i := 3) (v := ?_) rfl (by as_aux_lemma => kernel_rfl) (by as_aux_lemma => kernel_rfl) (by as_aux_lemma => kernel_rfl) (by as_aux_lemma => kernel_rfl) (fun _ _ _ h => h) (by assumption) hS0 (Or.inl ⟨by rfl, ?_⟩) (fun hcl3 => ?_)
    rotate_left
    · (intro wS hSw; (obtain ⟨⟨p0, p1, p2, p3, p4, p5, p6, t0, t1, t2, t3, t4, t5, t6⟩, bx, bb⟩ := hSw; have cv1 := conv_bs (P := Tryd.prog) (src := 25) (dst := 9) Tryd.underlying25 Tryd.underlying5 Tryd.underlying9 bx; have cv2 := conv_bs (P := Tryd.prog) (src := 25) (dst := 9) Tryd.underlying25 Tryd.underlying5 Tryd.underlying9 bb; clear bx bb); go_simp; (try with_reducible rfl))
    clear hcl2
    try simp only [Act.put, List.getElem_toArray, List.getElem_cons_succ, List.getElem_cons_zero, List.setIfInBounds_toArray, List.set_cons_zero, List.set_cons_succ]
    refine wpAnyN_take (i := 4) (v := ?_) rfl (by as_aux_lemma => kernel_rfl) (by as_aux_lemma => kernel_rfl) (by as_aux_lemma => kernel_rfl) (by as_aux_lemma => kernel_rfl) (fun _ _ _ h => h) (by assumption) hS0 (Or.inl ⟨by rfl, ?_⟩) (fun hcl4 => ?_)
    rotate_left
    · (intro wS hSw; (obtain ⟨⟨p0, p1, p2, p3, p4, p5, p6, t0, t1, t2, t3, t4, t5, t6⟩, bx, bb⟩ := hSw; have cv1 := conv_bs (P := Tryd.prog) (src := 25) (dst := 9) Tryd.underlying25 Tryd.underlying5 Tryd.underlying9 bx; have cv2 := conv_bs (P := Tryd.prog) (src := 25) (dst := 9) Tryd.underlying25 Tryd.underlying5 Tryd.underlying9 bb; clear bx bb); go_simp; (try with_reducible rfl))
    clear hcl3
    try simp only [Act.put, List.getElem_toArray, List.getElem_cons_succ, List.getElem_cons_zero, List.setIfInBounds_toArray, List.set_cons_zero, List.set_cons_succ]
    refine wpAnyN_take (i := 5) (v := ?_) rfl (by as_aux_lemma => kernel_rfl) (by as_aux_lemma => kernel_rfl) (by as_aux_lemma => kernel_rfl) (by as_aux_lemma => kernel_rfl) (fun _ _ _ h => h) (by assumption) hS0 (Or.inl ⟨by rfl, ?_⟩) (fun hcl5 => ?_)
    rotate_left
    · (intro wS hSw; (obtain ⟨⟨p0, p1, p2, p3, p4, p5, p6, t0, t1, t2, t3, t4, t5, t6⟩, bx, bb⟩ := hSw; have cv1 := conv_bs (P := Tryd.prog) (src := 25) (dst := 9) Tryd.underlying25 Tryd.underlying5 Tryd.underlying9 bx; have cv2 := conv_bs (P := Tryd.prog) (src := 25) (dst := 9) Tryd.underlying25 Tryd.underlying5 Tryd.underlying9 bb; clear bx bb); go_simp; (try with_reducible rfl))
    clear hcl4
    try simp only [Act.put, List.getElem_toArray, List.getElem_cons_succ, List.getElem_cons_zero, List.setIfInBounds_toArray, List.set_cons_zero, List.set_cons_succ]
    refine wpAnyN_take (i := 6) (v := ?_) rfl (by as_aux_lemma => kernel_rfl) (by as_aux_lemma => kernel_rfl) (by as_aux_lemma => kernel_rfl) (by as_aux_lemma => kernel_rfl) (fun _ _ _ h => h) (by assumption) hS0 (Or.inl ⟨by rfl, ?_⟩) (fun hcl6 => ?_)
    rotate_left
    · (intro wS hSw; (obtain ⟨⟨p0, p1, p2, p3, p4, p5, p6, t0, t1, t2, t3, t4, t5, t6⟩, bx, bb⟩ := hSw; have cv1 := conv_bs (P := Tryd.prog) (src := 25) (dst := 9) Tryd.underlying25 Tryd.underlying5 Tryd.underlying9 bx; have cv2 := conv_bs (P := Tryd.prog) (src := 25) (dst := 9) Tryd.underlying25 Tryd.underlying5 Tryd.underlying9 bb; clear bx bb); go_simp; (try with_reducible rfl))
    clear hcl5
    try simp only [Act.put, List.getElem_toArray, List.getElem_cons_succ, List.getElem_cons_zero, List.setIfInBounds_toArray, List.set_cons_zero, List.set_cons_succ]
    refine wpAnyN_take (i := 7) (v := ?_) rfl (by as_aux_lemma => kernel_rfl) (by as_aux_lemma => kernel_rfl) (by as_aux_lemma => kernel_rfl) (by as_aux_lemma => kernel_rfl) (fun _ _ _ h => h) (by assumption) hS0 (Or.inl ⟨by rfl, ?_⟩) (fun hcl7 => ?_)
    rotate_left
    · (intro wS hSw; (obtain ⟨⟨p0, p1, p2, p3, p4, p5, p6, t0, t1, t2, t3, t4, t5, t6⟩, bx, bb⟩ := hSw; have cv1 := conv_bs (P := Tryd.prog) (src := 25) (dst := 9) Tryd.underlying25 Tryd.underlying5 Tryd.underlying9 bx; have cv2 := conv_bs (P := Tryd.prog) (src := 25) (dst := 9) Tryd.underlying25 Tryd.underlying5 Tryd.underlying9 bb; clear bx bb); go_simp; (try with_reducible rfl))
    clear hcl6
    try simp only [Act.put, List.getElem_toArray, List.getElem_cons_succ, List.getElem_cons_zero, List.setIfInBounds_toArray, List.set_cons_zero, List.set_cons_succ]
    refine wpAnyN_take (i := 8) (v := ?_) rfl (by as_aux_lemma => kernel_rfl) (by as_aux_lemma => kernel_rfl) (by as_aux_lemma => kernel_rfl) (by as_aux_lemma => kernel_rfl) (fun _ _ _ h => h) (by assumption) hS0 (Or.inl ⟨by rfl, ?_⟩) (fun hcl8 => ?_)
    rotate_left
    · (intro wS hSw; (obtain ⟨⟨p0, p1, p2, p3, p4, p5, p6, t0, t1, t2, t3, t4, t5, t6⟩, bx, bb⟩ := hSw; have cv1 := conv_bs (P := Tryd.prog) (src := 25) (dst := 9) Tryd.underlying25 Tryd.underlying5 Tryd.underlying9 bx; have cv2 := conv_bs (P := Tryd.prog) (src := 25) (dst := 9) Tryd.underlying25 Tryd.underlying5 Tryd.underlying9 bb; clear bx bb); go_simp; (try with_reducible rfl))
    clear hcl7
    try simp only [Act.put, List.getElem_toArray, List.getElem_cons_succ, List.getElem_cons_zero, List.setIfInBounds_toArray, List.set_cons_zero, List.set_cons_succ]
    refine wpAnyN_take (i := 9) (v := ?_) rfl (by as_aux_lemma => kernel_rfl) (by as_aux_lemma => kernel_rfl) (by as_aux_lemma => kernel_rfl) (by as_aux_lemma => kernel_rfl) (fun _ _ _ h => h) (by assumption) hS0 (Or.inl ⟨by rfl, ?_⟩) (fun hcl9 => ?_)
    rotate_left
    · (intro wS hSw; (obtain ⟨⟨p0, p1, p2, p3, p4, p5, p6, t0, t1, t2, t3, t4, t5, t6⟩, bx, bb⟩ := hSw; have cv1 := conv_bs (P := Tryd.prog) (src := 25) (dst := 9) Tryd.underlying25 Tryd.underlying5 Tryd.underlying9 bx; have cv2 := conv_bs (P := Tryd.prog) (src := 25) (dst := 9) Tryd.underlying25 Tryd.underlying5 Tryd.underlying9 bb; clear bx bb); go_simp; (try with_reducible rfl))
    clear hcl8
    try simp only [Act.put, List.getElem_toArray, List.getElem_cons_succ, List.getElem_cons_zero, List.setIfInBounds_toArray, List.set_cons_zero, List.set_cons_succ]
    refine wpAnyN_take (i := 10) (v := ?_) rfl (by as_aux_lemma => kernel_rfl) (by as_aux_lemma => kernel_rfl) (by as_aux_lemma => kernel_rfl) (by as_aux_lemma => kernel_rfl) (fun _ _ _ h => h) (by assumption) hS0 (Or.inl ⟨by rfl, ?_⟩) (fun hcl10 => ?_)
    rotate_left
    · (intro wS hSw; (obtain ⟨⟨p0, p1, p2, p3, p4, p5, p6, t0, t1, t2, t3, t4, t5, t6⟩, bx, bb⟩ := hSw; have cv1 := conv_bs (P := Tryd.prog) (src := 25) (dst := 9) Tryd.underlying25 Tryd.underlying5 Tryd.underlying9 bx; have cv2 := conv_bs (P := Tryd.prog) (src := 25) (dst := 9) Tryd.underlying25 Tryd.underlying5 Tryd.underlying9 bb; clear bx bb); go_simp; (try with_reducible rfl))
    clear hcl9
    try simp only [Act.put, List.getElem_toArray, List.getElem_cons_succ, List.getElem_cons_zero, List.setIfInBounds_toArray, List.set_cons_zero, List.set_cons_succ]
    refine wpAnyN_take (i := 12) (v := ?_) rfl (by as_aux_lemma => kernel_rfl) (by as_aux_lemma => kernel_rfl) (by as_aux_lemma => kernel_rfl) (by as_aux_lemma => kernel_rfl) (fun _ _ _ h => h) (by assumption) hS0 (Or.inl ⟨by rfl, ?_⟩) (fun hcl12 => ?_)
    rotate_left
    · (intro wS hSw; (obtain ⟨⟨p0, p1, p2, p3, p4, p5, p6, t0, t1, t2, t3, t4, t5, t6⟩, bx, bb⟩ := hSw; have cv1 := conv_bs (P := Tryd.prog) (src := 25) (dst := 9) Tryd.underlying25 Tryd.underlying5 Tryd.underlying9 bx; have cv2 := conv_bs (P := Tryd.prog) (src := 25) (dst := 9) Tryd.underlying25 Tryd.underlying5 Tryd.underlying9 bb; clear bx bb); go_simp; (try with_reducible rfl))
    clear hcl10
    try simp only [Act.put, List.getElem_toArray, List.getElem_cons_succ, List.getElem_cons_zero, List.setIfInBounds_toArray, List.set_cons_zero, List.set_cons_succ]
    refine wpAnyN_oneC (i := 11) (by as_aux_lemma => kernel_rfl) rfl (by assumption) (fun hcl11 K' hK' => ?_)
    clear hcl12
    go_simp
    go_at_call 17
    refine (HUA.out _).mono ?_
    rintro e x1 ⟨rfl, hs1⟩
    have hS1 := hS0.same hs1
    have hst1 := Same.trans hst0 hs1
    clear hs1
    refine hK'.out _ _ (fun _ => hS1) ?_
    clear hK' K'
    try simp only [Act.put, List.getElem_toArray, List.getElem_cons_succ, List.getElem_cons_zero, List.setIfInBounds_toArray, List.set_cons_zero, List.set_cons_succ]
    refine wpAnyN_oneC (i := 13) (by as_aux_lemma => kernel_rfl) rfl (by assumption) (fun hcl13 K' hK' => ?_)
    clear hcl11
    go_simp
    go_at_call 22
    refine (HUB.out _).mono ?_
    rintro e x2 ⟨rfl, hs2⟩
    have hS2 := hS1.same hs2
    have hst2 := Same.trans hst1 hs2
    clear hs2
    refine hK'.out _ _ (fun _ => hS2) ?_
    clear hK' K'
    try simp only [Act.put, List.getElem_toArray, List.getElem_cons_succ, List.getElem_cons_zero, List.setIfInBounds_toArray, List.set_cons_zero, List.set_cons_succ]
    refine wpAnyN_take (i := 14) (v := ?_) rfl (by as_aux_lemma => kernel_rfl) (by as_aux_lemma => kernel_rfl) (by as_aux_lemma => kernel_rfl) (by as_aux_lemma => kernel_rfl) (fun _ _ _ h => h) (by assumption) hS2 (Or.inl ⟨by rfl, ?_⟩) (fun hcl14 => ?_)
    rotate_left
    · (intro wS hSw; (obtain ⟨⟨p0, p1, p2, p3, p4, p5, p6, t0, t1, t2, t3, t4, t5, t6⟩, bx, bb⟩ := hSw; have cv1 := conv_bs (P := Tryd.prog) (src := 25) (dst := 9) Tryd.underlying25 Tryd.underlying5 Tryd.underlying9 bx; have cv2 := conv_bs (P := Tryd.prog) (src := 25) (dst := 9) Tryd.underlying25 Tryd.underlying5 Tryd.underlying9 bb; clear bx bb); go_simp; (try with_reducible rfl))
    clear hcl13
    try simp only [Act.put, List.getElem_toArray, List.getElem_cons_succ, List.getElem_cons_zero, List.setIfInBounds_toArray, List.set_cons_zero, List.set_cons_succ]
    refine wpAnyN_take (i := 15) (v := ?_) rfl (by as_aux_lemma => kernel_rfl) (by as_aux_lemma => kernel_rfl) (by as_aux_lemma => kernel_rfl) (by as_aux_lemma => kernel_rfl) (fun _ _ _ h => h) (by assumption) hS2 (Or.inl ⟨by rfl, ?_⟩) (fun hcl15 => ?_)
    rotate_left
    · (intro wS hSw; (obtain ⟨⟨p0, p1, p2, p3, p4, p5, p6, t0, t1, t2, t3, t4, t5, t6⟩, bx, bb⟩ := hSw; have cv1 := conv_bs (P := Tryd.prog) (src := 25) (dst := 9) Tryd.underlying25 Tryd.underlying5 Tryd.underlying9 bx; have cv2 := conv_bs (P := Tryd.prog) (src := 25) (dst := 9) Tryd.underlying25 Tryd.underlying5 Tryd.underlying9 bb; clear bx bb); go_simp; (try with_reducible rfl))
    clear hcl14
    try simp only [Act.put, List.getElem_toArray, List.getElem_cons_succ, List.getElem_cons_zero, List.setIfInBounds_toArray, List.set_cons_zero, List.set_cons_succ]
    refine wpAnyN_take (i := 16) (v := ?_) rfl (by as_aux_lemma => kernel_rfl) (by as_aux_lemma => kernel_rfl) (by as_aux_lemma => kernel_rfl) (by as_aux_lemma => kernel_rfl) (fun _ _ _ h => h) (by assumption) hS2 (Or.inl ⟨by rfl, ?_⟩) (fun hcl16 => ?_)
    rotate_left
    · (intro wS hSw; (obtain ⟨⟨p0, p1, p2, p3, p4, p5, p6, t0, t1, t2, t3, t4, t5, t6⟩, bx, bb⟩ := hSw; have cv1 := conv_bs (P := Tryd.prog) (src := 25) (dst := 9) Tryd.underlying25 Tryd.underlying5 Tryd.underlying9 bx; have cv2 := conv_bs (P := Tryd.prog) (src := 25) (dst := 9) Tryd.underlying25 Tryd.underlying5 Tryd.underlying9 bb; clear bx bb); go_simp; (try with_reducible rfl))
    clear hcl15
    try simp only [Act.put, List.getElem_toArray, List.getElem_cons_succ, List.getElem_cons_zero, List.setIfInBounds_toArray, List.set_cons_zero, List.set_cons_succ]
    refine wpAnyN_take (i := 17) (v := ?_) rfl (by as_aux_lemma => kernel_rfl) (by as_aux_lemma => kernel_rfl) (by as_aux_lemma => kernel_rfl) (by as_aux_lemma => kernel_rfl) (fun _ _ _ h => h) (by assumption) hS2 (Or.inl ⟨by rfl, ?_⟩) (fun hcl17 => ?_)
    rotate_left
    · (intro wS hSw; (obtain ⟨⟨p0, p1, p2, p3, p4, p5, p6, t0, t1, t2, t3, t4, t5, t6⟩, bx, bb⟩ := hSw; have cv1 := conv_bs (P := Tryd.prog) (src := 25) (dst := 9) Tryd.underlying25 Tryd.underlying5 Tryd.underlying9 bx; have cv2 := conv_bs (P := Tryd.prog) (src := 25) (dst := 9) Tryd.underlying25 Tryd.underlying5 Tryd.underlying9 bb; clear bx bb); go_simp; (try with_reducible rfl))
    clear hcl16
    try simp only [Act.put, List.getElem_toArray, List.getElem_cons_succ, List.getElem_cons_zero, List.setIfInBounds_toArray, List.set_cons_zero, List.set_cons_succ]
    refine wpAnyN_take (i := 19) (v := ?_) rfl (by as_aux_lemma => kernel_rfl) (by as_aux_lemma => kernel_rfl) (by as_aux_lemma => kernel_rfl) (by as_aux_lemma => kernel_rfl) (fun _ _ _ h => h) (by assumption) hS2 (Or.inl ⟨by rfl, ?_⟩) (fun hcl19 => ?_)
    rotate_left
    · (intro wS hSw; (obtain ⟨⟨p0, p1, p2, p3, p4, p5, p6, t0, t1, t2, t3, t4, t5, t6⟩, bx, bb⟩ := hSw; have cv1 := conv_bs (P := Tryd.prog) (src := 25) (dst := 9) Tryd.underlying25 Tryd.underlying5 Tryd.underlying9 bx; have cv2 := conv_bs (P := Tryd.prog) (src := 25) (dst := 9) Tryd.underlying25 Tryd.underlying5 Tryd.underlying9 bb; clear bx bb); go_simp; (try with_reducible rfl))
    clear hcl17
    try simp only [Act.put, List.getElem_toArray, List.getElem_cons_succ, List.getElem_cons_zero, List.setIfInBounds_toArray, List.set_cons_zero, List.set_cons_succ]
    refine wpAnyN_oneC (i := 18) (by as_aux_lemma => kernel_rfl) rfl (by assumption) (fun hcl18 K' hK' => ?_)
    clear hcl19
    go_simp
    go_at_call 16
    refine (HIA.out _).mono ?_
    rintro e x3 ⟨rfl, hs3⟩
    have hS3 := hS2.same hs3
    have hst3 := Same.trans hst2 hs3
    clear hs3
    refine hK'.out _ _ (fun _ => hS3) ?_
    clear hK' K'
    try simp only [Act.put, List.getElem_toArray, List.getElem_cons_succ, List.getElem_cons_zero, List.setIfInBounds_toArray, List.set_cons_zero, List.set_cons_succ]
    refine wpAnyN_oneC (i := 20) (by as_aux_lemma => kernel_rfl) rfl (by assumption) (fun hcl20 K' hK' => ?_)
    clear hcl18
    go_simp
    go_at_call 23
    refine (HIB.out _).mono ?_
    rintro e x4 ⟨rfl, hs4⟩
    have hS4 := hS3.same hs4
    have hst4 := Same.trans hst3 hs4
    clear hs4
    refine hK'.out _ _ (fun _ => hS4) ?_
    clear hK' K'
    try simp only [Act.put, List.getElem_toArray, List.getElem_cons_succ, List.getElem_cons_zero, List.setIfInBounds_toArray, List.set_cons_zero, List.set_cons_succ]
    refine wpAnyN_take (i := 21) (v := ?_) rfl (by as_aux_lemma => kernel_rfl) (by as_aux_lemma => kernel_rfl) (by as_aux_lemma => kernel_rfl) (by as_aux_lemma => kernel_rfl) (fun _ _ _ h => h) (by assumption) hS4 (Or.inl ⟨by rfl, ?_⟩) (fun hcl21 => ?_)
    rotate_left
    · (intro wS hSw; (obtain ⟨⟨p0, p1, p2, p3, p4, p5, p6, t0, t1, t2, t3, t4, t5, t6⟩, bx, bb⟩ := hSw; have cv1 := conv_bs (P := Tryd.prog) (src := 25) (dst := 9) Tryd.underlying25 Tryd.underlying5 Tryd.underlying9 bx; have cv2 := conv_bs (P := Tryd.prog) (src := 25) (dst := 9) Tryd.underlying25 Tryd.underlying5 Tryd.underlying9 bb; clear bx bb); go_simp; (try with_reducible rfl))
    clear hcl20
    try simp only [Act.put, List.getElem_toArray, List.getElem_cons_succ, List.getElem_cons_zero, List.setIfInBounds_toArray, List.set_cons_zero, List.set_cons_succ]
    refine wpAnyN_take (i := 22) (v := ?_) rfl (by as_aux_lemma => kernel_rfl) (by as_aux_lemma => kernel_rfl) (by as_aux_lemma => kernel_rfl) (by as_aux_lemma => kernel_rfl) (fun _ _ _ h => h) (by assumption) hS4 (Or.inl ⟨by rfl, ?_⟩) (fun hcl22 => ?_)
    rotate_left
    · (intro wS hSw; (obtain ⟨⟨p0, p1, p2, p3, p4, p5, p6, t0, t1, t2, t3, t4, t5, t6⟩, bx, bb⟩ := hSw; have cv1 := conv_bs (P := Tryd.prog) (src := 25) (dst := 9) Tryd.underlying25 Tryd.underlying5 Tryd.underlying9 bx; have cv2 := conv_bs (P := Tryd.prog) (src := 25) (dst := 9) Tryd.underlying25 Tryd.underlying5 Tryd.underlying9 bb; clear bx bb); go_simp; (try with_reducible rfl))
    clear hcl21
    try simp only [Act.put, List.getElem_toArray, List.getElem_cons_succ, List.getElem_cons_zero, List.setIfInBounds_toArray, List.set_cons_zero, List.set_cons_succ]
    refine wpAnyN_take (i := 23) (v := ?_) rfl (by as_aux_lemma => kernel_rfl) (by as_aux_lemma => kernel_rfl) (by as_aux_lemma => kernel_rfl) (by as_aux_lemma => kernel_rfl) (fun _ _ _ h => h) (by assumption) hS4 (Or.inl ⟨by rfl, ?_⟩) (fun hcl23 => ?_)
    rotate_left
    · (intro wS hSw; (obtain ⟨⟨p0, p1, p2, p3, p4, p5, p6, t0, t1, t2, t3, t4, t5, t6⟩, bx, bb⟩ := hSw; have cv1 := conv_bs (P := Tryd.prog) (src := 25) (dst := 9) Tryd.underlying25 Tryd.underlying5 Tryd.underlying9 bx; have cv2 := conv_bs (P := Tryd.prog) (src := 25) (dst := 9) Tryd.underlying25 Tryd.underlying5 Tryd.underlying9 bb; clear bx bb); go_simp; (try with_reducible rfl))
    clear hcl22
    try simp only [Act.put, List.getElem_toArray, List.getElem_cons_succ, List.getElem_cons_zero, List.setIfInBounds_toArray, List.set_cons_zero, List.set_cons_succ]
    refine wpAnyN_oneC (i := 24) (by as_aux_lemma => kernel_rfl) rfl (by assumption) (fun hcl24 K' hK' => ?_)
    clear hcl23
    go_simp
    go_at_call 11
    refine (known_any _ (HT.out.same (Same.trans HW9.out hst4))).mono ?_
    rintro e x5 ⟨rfl, hs5⟩
    have hS5 := hS4.same hs5
    have hst5 := Same.trans hst4 hs5
    clear hs5
    refine hK'.out _ _ (fun _ => hS5) ?_
    clear hK' K'
    try simp only [Act.put, List.getElem_toArray, List.getElem_cons_succ, List.getElem_cons_zero, List.setIfInBounds_toArray, List.set_cons_zero, List.set_cons_succ]
    refine wpAnyN_take (i := 25) (v := ?_) rfl (by as_aux_lemma => kernel_rfl) (by as_aux_lemma => kernel_rfl) (by as_aux_lemma => kernel_rfl) (by as_aux_lemma => kernel_rfl) (fun _ _ _ h => h) (by assumption) hS5 (Or.inl ⟨by rfl, ?_⟩) (fun hcl25 => ?_)
    rotate_left
    · (intro wS hSw; (obtain ⟨⟨p0, p1, p2, p3, p4, p5, p6, t0, t1, t2, t3, t4, t5, t6⟩, bx, bb⟩ := hSw; have cv1 := conv_bs (P := Tryd.prog) (src := 25) (dst := 9) Tryd.underlying25 Tryd.underlying5 Tryd.underlying9 bx; have cv2 := conv_bs (P := Tryd.prog) (src := 25) (dst := 9) Tryd.underlying25 Tryd.underlying5 Tryd.underlying9 bb; clear bx bb); go_simp; (try with_reducible rfl))
    clear hcl24
    try simp only [Act.put, List.getElem_toArray, List.getElem_cons_succ, List.getElem_cons_zero, List.setIfInBounds_toArray, List.set_cons_zero, List.set_cons_succ]
    refine wpAnyN_take (i := 26) (v := ?_) rfl (by as_aux_lemma => kernel_rfl) (by as_aux_lemma => kernel_rfl) (by as_aux_lemma => kernel_rfl) (by as_aux_lemma => kernel_rfl) (fun _ _ _ h => h) (by assumption) hS5 (Or.inl ⟨by rfl, ?_⟩) (fun hcl26 => ?_)
    rotate_left
    · (intro wS hSw; (obtain ⟨⟨p0, p1, p2, p3, p4, p5, p6, t0, t1, t2, t3, t4, t5, t6⟩, bx, bb⟩ := hSw; have cv1 := conv_bs (P := Tryd.prog) (src := 25) (dst := 9) Tryd.underlying25 Tryd.underlying5 Tryd.underlying9 bx; have cv2 := conv_bs (P := Tryd.prog) (src := 25) (dst := 9) Tryd.underlying25 Tryd.underlying5 Tryd.underlying9 bb; clear bx bb); go_simp; (try with_reducible rfl))
    clear hcl25
    try simp only [Act.put, List.getElem_toArray, List.getElem_cons_succ, List.getElem_cons_zero, List.setIfInBounds_toArray, List.set_cons_zero, List.set_cons_succ]
    refine wpAnyN_done (by as_aux_lemma => kernel_rfl) ?_ _
    refine NoPanic.normal ?_
    go_wp2_with fail
    go_ret
    exact ⟨rfl, Same.trans HW9.out hst5⟩
  · have hne : (E != 0) = true := by simpa using hE
    clear hE
    go_wp2_with fail
    refine (known_any _ (HT.out.same HW7.out)).mono ?_
    rintro e w8 ⟨rfl, hs8⟩
    go_wp2_with fail
    go_ret
    exact ⟨rfl, Same.trans HW7.out hs8⟩
end Go.Proofs.YtmaofhiapkfoaaaDoor
