/- The walk of CdbLong. -/
import Derived.Test.YtmaofhiapkfoaaaDoorCdbL
import Derived.Test.YtmaofhiapkfoaaaDoorCdbG
import Derived.Test.YtmaofhiapkfoaaaDoorWalkCdbChanged
import Derived.Test.YtmaofhiapkfoaaaDoorOrd
import Derived.Deep.RegionLaw
import Derived.Deep.DrawnRows
namespace Go.Proofs.YtmaofhiapkfoaaaDoor
open Go.RowKit
set_option linter.unusedVariables false
set_option linter.unusedSimpArgs false
set_option maxRecDepth 100000
theorem calls_gen {P : Program} {f : FuncId} {args : Array Value} {W : World} {Q : Ending → World → Prop} (h : ∀ w3, w3 = W → Calls P f args w3 Q) : Calls P f args W Q := h W rfl
theorem wp_gen {P : Program} {c : Code} {Q : Exit → Act → World → Prop} {a : Act} {W : World} (h : ∀ w3, w3 = W → c.wp P Q a w3) : c.wp P Q a W := h W rfl
theorem fresh16 {base : Nat} {w : World} {v : Value} {L : List UInt8} (hf : Fresh base w v L) (hl : L.length = 16) : ∃ b off cp, v = .slice (some ⟨b, off, none⟩) 16 cp ∧ 16 ≤ cp := by
  rcases hf.bs.cases with ⟨e, _⟩ | ⟨_, b, off, cp, rfl, e, _⟩
  · rw [e] at hl; simp at hl
  · exact ⟨b, off, cp, by rw [hl], by omega⟩
/-- The cells of the last statement. -/
def S18 (w : World) (p q r s : Nat) (a b lba n : Value) : Prop :=
  S14 w p q a (.int .i64 0) (.int .i64 0) (.bool false) (.int .i64 0) lba n b (.int .i64 0) (.int .i64 0) (.bool false) (.int .i64 0) lba n ∧ w.cell? ⟨r, 5, none⟩ = some lba ∧ w.cell? ⟨r, 6, none⟩ = some n ∧ w.cell? ⟨s, 5, none⟩ = some lba ∧ w.cell? ⟨s, 6, none⟩ = some n
theorem S18.same {w w' : World} {p q r s : Nat} {a b lba n : Value} (h : S18 w p q r s a b lba n) (hs : Same w w') : S18 w' p q r s a b lba n := ⟨h.1.same hs, hs.cell h.2.1 id, hs.cell h.2.2.1 id, hs.cell h.2.2.2.1 id, hs.cell h.2.2.2.2 id⟩
attribute [local go_sem ↓] Go.wp_at_zero Go.wp_at_succ
set_option maxHeartbeats 4000000
theorem cdbLong_0 (w : World) (hT : Tab15 w) (lba : Int) (hl : 0 ≤ lba ∧ lba ≤ 4294967295) (n : Int) (hn : 0 ≤ n ∧ n ≤ 65535) :
    Calls Tryd.prog 5 #[.bool false, .int .u32 lba, .int .u16 n] w fun e w' => e = .returned (.bool true) ∧ Same w w' := by
  have okA := blk_ok 40 lba n (by omega) hl hn
  have okB := blk_ok 136 lba n (by omega) hl hn
  have eA : cE (blk 40 lba n) = 0 := blk_built 4 (by omega) lba n hl hn
  have eB : cE (blk 136 lba n) = 0 := blk_built 10 (by omega) lba n hl hn
  have hbA := fun W hT => build_any (blk 40 lba n) W okA hT
  have hbB := fun W hT => build_any (blk 136 lba n) W okB hT
  obtain ⟨pA1, pA2⟩ := parse_build _ okA eA
  obtain ⟨pB1, pB2⟩ := parse_build _ okB eB
  have lA := cL_length eA
  have lB := cL_length eB
  have zA := (cL_at (c := blk 40 lba n) (k := 4) (by kernel_rfl) eA 0 (by omega)).1 rfl
  have zB := (cL_at (c := blk 136 lba n) (k := 10) (by kernel_rfl) eB 0 (by omega)).1 rfl
  rw [eA] at hbA
  rw [eB] at hbB
  have hqA := fun v W h hT => parse_any v (cL (blk 40 lba n)) W h (by omega) hT
  have hqB := fun v W h hT => parse_any v (cL (blk 136 lba n)) W h (by omega) hT
  rw [pA1, pA2] at hqA
  rw [pB1, pB2] at hqB
  generalize cL (blk 40 lba n) = LA at hbA lA zA hqA
  generalize cL (blk 136 lba n) = LB at hbB lB zB hqB
  have iA := fun W => in_any (blk 40 lba n) W okA
  have iB := fun W => in_any (blk 136 lba n) W okB
  have uA := fun W => out_any (blk 40 lba n) W okA
  have uB := fun W => out_any (blk 136 lba n) W okB
  have hby : byteN n 64 = 64 * n := by unfold byteN; rw [if_neg (by omega), if_neg (by omega)]; omega
  have niA : inN (blk 40 lba n) = 64 * n := hby
  have niB : inN (blk 136 lba n) = 64 * n := hby
  have nuA : outN (blk 40 lba n) = 0 := rfl
  have nuB : outN (blk 136 lba n) = 0 := rfl
  rw [niA] at iA
  rw [niB] at iB
  rw [nuA] at uA
  rw [nuB] at uB
  simp only [Cmd.cells, blk] at hbA hbB hqA hqB iA iB uA uB zA zB
  have HBA := Lib.hid hbA
  have HBB := Lib.hid hbB
  have HQA := Lib.hid hqA
  have HQB := Lib.hid hqB
  have HIA := Lib.hid iA
  have HIB := Lib.hid iB
  have HUA := Lib.hid uA
  have HUB := Lib.hid uB
  have HT := Lib.hid hT
  have HLA := Lib.hid lA
  have HLB := Lib.hid lB
  have HZA := Lib.hid zA
  have HZB := Lib.hid zB
  clear hbA hbB hqA hqB iA iB uA uB hT lA lB zA zB okA okB eA eB pA1 pA2 pB1 pB2 hby niA niB nuA nuB
  go_enter Tryd.func5, Tryd.ntmps5
  go_wp2_with fail
  refine calls_gen fun w1 hw1 => ?_
  have hs1 : Same w w1 := by rw [hw1]; exact ((Upd.refl _ w).alloc _).alloc _
  obtain ⟨a0, a1, a2, a3, a4, a5, a6⟩ := box7 w 29 (.int .i64 40) (.int .i64 0) (.int .i64 0) (.bool false) (.int .i64 0) (.int .u64 lba) (.int .i64 n) w1 (by rw [hw1]; exact (Upd.refl _ _).alloc _)
  obtain ⟨b0, b1, b2, b3, b4, b5, b6⟩ := box7 (w.alloc (.cells #[.int .i64 40, .int .i64 0, .int .i64 0, .bool false, .int .i64 0, .int .u64 lba, .int .i64 n] 29)) 29 (.int .i64 136) (.int .i64 0) (.int .i64 0) (.bool false) (.int .i64 0) (.int .u64 lba) (.int .i64 n) w1 (by rw [hw1]; exact Upd.refl _ _)
  rw [show (w.alloc (.cells #[.int .i64 40, .int .i64 0, .int .i64 0, .bool false, .int .i64 0, .int .u64 lba, .int .i64 n] 29)).heap.size = w.heap.size + 1 by simp] at b0 b1 b2 b3 b4 b5 b6
  have hz1 : w1.heap.size = w.heap.size + 1 + 1 := by rw [hw1]; simp
  have s14 : S14 w1 w.heap.size (w.heap.size + 1) (.int .i64 40) (.int .i64 0) (.int .i64 0) (.bool false) (.int .i64 0) (.int .u64 lba) (.int .i64 n) (.int .i64 136) (.int .i64 0) (.int .i64 0) (.bool false) (.int .i64 0) (.int .u64 lba) (.int .i64 n) := ⟨a0, a1, a2, a3, a4, a5, a6, b0, b1, b2, b3, b4, b5, b6⟩
  clear hw1 a0 a1 a2 a3 a4 a5 a6 b0 b1 b2 b3 b4 b5 b6
  refine (HBA.out _ (HT.out.same hs1)).mono ?_
  rintro e w2 ⟨v2, rfl, hf2, hs2⟩
  have s14b := s14.same hs2
  have HW2 := Lib.hid (Same.trans hs1 hs2)
  have hz2 : w.heap.size + 1 < w2.heap.size := by have := hs2.size; omega
  obtain ⟨x2, o2, c2, rfl, hc2⟩ := fresh16 hf2 HLA.out
  obtain ⟨a0, a1, a2, a3, a4, a5, a6, b0, b1, b2, b3, b4, b5, b6⟩ := id s14b
  clear s14
  go_wp2_with fail
  refine (HBB.out _ (HT.out.same HW2.out)).mono ?_
  rintro e w3 ⟨v3, rfl, hf3, hs3⟩
  obtain ⟨x3, o3, c3, rfl, hc3⟩ := fresh16 hf3 HLB.out
  have hf2b := hf2.same hs3
  obtain ⟨y2, -⟩ := Fresh.at_ hf2b 0 (by rw [HLA.out]; decide)
  obtain ⟨y3, -⟩ := Fresh.at_ hf3 0 (by rw [HLB.out]; decide)
  rw [HZA.out] at y2
  rw [HZB.out] at y3
  simp only [Nat.add_zero] at y2 y3
  have s14c := s14b.same hs3
  have HW3 := Lib.hid (Same.trans HW2.out hs3)
  have HF2 := Lib.hid hf2b.bs
  have HF3 := Lib.hid hf3.bs
  have hz3 : w.heap.size + 1 < w3.heap.size := by have := hs3.size; omega
  have HS14 := Lib.hid s14c
  clear s14b s14c hf2 hf3 hf2b hs2 hs3 hs1 a0 a1 a2 a3 a4 a5 a6 b0 b1 b2 b3 b4 b5 b6 HW2
  go_wp2_with fail
  refine (HQA.out _ _ HF2.out (HT.out.same HW3.out)).mono ?_
  rintro e w4 ⟨rfl, hs4⟩
  have HS14b := Lib.hid (HS14.out.same hs4)
  have HW4 := Lib.hid (Same.trans HW3.out hs4)
  have HF3b := Lib.hid (HF3.out.same hs4)
  have hz4 : w.heap.size + 1 < w4.heap.size := by have := hs4.size; omega
  clear hs4 HS14 HF2 HF3 y2 y3 HW3
  go_wp2_with fail
  refine (HQB.out _ _ (HF3b.out.same ((Upd.refl _ w4).alloc _)) (HT.out.same (HW4.out.alloc _))).mono ?_
  rintro e w5 ⟨rfl, hs5⟩
  obtain ⟨-, -, -, -, -, g5, g6⟩ := box7 w4 29 _ _ _ _ _ _ _ w5 hs5
  have hs45 := Same.trans ((Upd.refl (fun _ => False) w4).alloc _) hs5
  have HS14c := Lib.hid (HS14b.out.same hs45)
  have HW5 := Lib.hid (Same.trans HW4.out hs45)
  have hz5 : w4.heap.size < w5.heap.size := by have := hs5.size; simp at this; omega
  clear hs5 hs45 HS14b HF3b HW4
  go_wp2_with fail
  refine wp_gen fun w6 hw6 => ?_
  have hs6 : Same w5 w6 := by rw [hw6]; exact (Upd.refl _ w5).alloc _
  obtain ⟨-, -, -, -, -, k5, k6⟩ := box7 w5 29 (.int .i64 136) (.int .i64 0) (.int .i64 0) (.bool false) (.int .i64 0) (.int .u64 lba) (.int .i64 n) w6 (by rw [hw6]; exact Upd.refl _ _)
  have h18 : S18 w6 w.heap.size (w.heap.size + 1) w4.heap.size w5.heap.size (.int .i64 40) (.int .i64 136) (.int .u64 lba) (.int .i64 n) := ⟨HS14c.out.same hs6, hs6.cell g5 id, hs6.cell g6 id, k5, k6⟩
  have hst0 := (Same.trans HW5.out hs6).drew
  have hS0 := h18.same ((Upd.refl (fun _ => False) w6).drew)
  clear hw6 g5 g6 k5 k6 HS14c HW5 hs6 h18
  have hwr : IntKind.i64.wrap (64 * n) = 64 * n := by rw [IntKind.wrap_i64]; omega
  have hwr2 : IntKind.i64.wrap n = n := by rw [IntKind.wrap_i64]; omega
  refine wp_region_noPanic ?_
  refine wp_region_need (fun w' => S18 w' w.heap.size (w.heap.size + 1) w4.heap.size w5.heap.size (.int .i64 40) (.int .i64 136) (.int .u64 lba) (.int .i64 n)) (fun _ => true) (by kernel_rfl) (fun hcl => ?_)
  refine wpAnyN_take (i := 0) (v := ?_) rfl (by as_aux_lemma => kernel_rfl) (by as_aux_lemma => kernel_rfl) (by as_aux_lemma => kernel_rfl) (by as_aux_lemma => kernel_rfl) (fun _ _ _ h => h) (by assumption) hS0 (Or.inl ⟨by rfl, ?_⟩) (fun hcl0 => ?_)
  rotate_left
  · (intro wS hSw; (try (obtain ⟨⟨p0, p1, p2, p3, p4, p5, p6, t0, t1, t2, t3, t4, t5, t6⟩, r0, r1, r2, r3⟩ := hSw)); go_simp; (try with_reducible rfl))
  clear hcl
  try simp only [Act.put, List.getElem_toArray, List.getElem_cons_succ, List.getElem_cons_zero, List.setIfInBounds_toArray, List.set_cons_zero, List.set_cons_succ]
  refine wpAnyN_take (i := 1) (v := ?_) rfl (by as_aux_lemma => kernel_rfl) (by as_aux_lemma => kernel_rfl) (by as_aux_lemma => kernel_rfl) (by as_aux_lemma => kernel_rfl) (fun _ _ _ h => h) (by assumption) hS0 (Or.inl ⟨by rfl, ?_⟩) (fun hcl1 => ?_)
  rotate_left
  · (intro wS hSw; (try (obtain ⟨⟨p0, p1, p2, p3, p4, p5, p6, t0, t1, t2, t3, t4, t5, t6⟩, r0, r1, r2, r3⟩ := hSw)); go_simp; (try with_reducible rfl))
  clear hcl0
  try simp only [Act.put, List.getElem_toArray, List.getElem_cons_succ, List.getElem_cons_zero, List.setIfInBounds_toArray, List.set_cons_zero, List.set_cons_succ]
  refine wpAnyN_take (i := 2) (v := ?_) rfl (by as_aux_lemma => kernel_rfl) (by as_aux_lemma => kernel_rfl) (by as_aux_lemma => kernel_rfl) (by as_aux_lemma => kernel_rfl) (fun _ _ _ h => h) (by assumption) hS0 (Or.inl ⟨by rfl, ?_⟩) (fun hcl2 => ?_)
  rotate_left
  · (intro wS hSw; (try (obtain ⟨⟨p0, p1, p2, p3, p4, p5, p6, t0, t1, t2, t3, t4, t5, t6⟩, r0, r1, r2, r3⟩ := hSw)); go_simp; (try with_reducible rfl))
  clear hcl1
  try simp only [Act.put, List.getElem_toArray, List.getElem_cons_succ, List.getElem_cons_zero, List.setIfInBounds_toArray, List.set_cons_zero, List.set_cons_succ]
  refine wpAnyN_take (i := 3) (v := ?_) rfl (by as_aux_lemma => kernel_rfl) (by as_aux_lemma => kernel_rfl) (by as_aux_lemma => kernel_rfl) (by as_aux_lemma => kernel_rfl) (fun _ _ _ h => h) (by assumption) hS0 (Or.inl ⟨by rfl, ?_⟩) (fun hcl3 => ?_)
  rotate_left
  · (intro wS hSw; (try (obtain ⟨⟨p0, p1, p2, p3, p4, p5, p6, t0, t1, t2, t3, t4, t5, t6⟩, r0, r1, r2, r3⟩ := hSw)); go_simp; (try with_reducible rfl))
  clear hcl2
  try simp only [Act.put, List.getElem_toArray, List.getElem_cons_succ, List.getElem_cons_zero, List.setIfInBounds_toArray, List.set_cons_zero, List.set_cons_succ]
  refine wpAnyN_take (i := 4) (v := ?_) rfl (by as_aux_lemma => kernel_rfl) (by as_aux_lemma => kernel_rfl) (by as_aux_lemma => kernel_rfl) (by as_aux_lemma => kernel_rfl) (fun _ _ _ h => h) (by assumption) hS0 (Or.inl ⟨by rfl, ?_⟩) (fun hcl4 => ?_)
  rotate_left
  · (intro wS hSw; (try (obtain ⟨⟨p0, p1, p2, p3, p4, p5, p6, t0, t1, t2, t3, t4, t5, t6⟩, r0, r1, r2, r3⟩ := hSw)); go_simp; (try with_reducible rfl))
  clear hcl3
  try simp only [Act.put, List.getElem_toArray, List.getElem_cons_succ, List.getElem_cons_zero, List.setIfInBounds_toArray, List.set_cons_zero, List.set_cons_succ]
  refine wpAnyN_take (i := 5) (v := ?_) rfl (by as_aux_lemma => kernel_rfl) (by as_aux_lemma => kernel_rfl) (by as_aux_lemma => kernel_rfl) (by as_aux_lemma => kernel_rfl) (fun _ _ _ h => h) (by assumption) hS0 (Or.inl ⟨by rfl, ?_⟩) (fun hcl5 => ?_)
  rotate_left
  · (intro wS hSw; (try (obtain ⟨⟨p0, p1, p2, p3, p4, p5, p6, t0, t1, t2, t3, t4, t5, t6⟩, r0, r1, r2, r3⟩ := hSw)); go_simp; (try with_reducible rfl))
  clear hcl4
  try simp only [Act.put, List.getElem_toArray, List.getElem_cons_succ, List.getElem_cons_zero, List.setIfInBounds_toArray, List.set_cons_zero, List.set_cons_succ]
  refine wpAnyN_take (i := 6) (v := ?_) rfl (by as_aux_lemma => kernel_rfl) (by as_aux_lemma => kernel_rfl) (by as_aux_lemma => kernel_rfl) (by as_aux_lemma => kernel_rfl) (fun _ _ _ h => h) (by assumption) hS0 (Or.inl ⟨by rfl, ?_⟩) (fun hcl6 => ?_)
  rotate_left
  · (intro wS hSw; (try (obtain ⟨⟨p0, p1, p2, p3, p4, p5, p6, t0, t1, t2, t3, t4, t5, t6⟩, r0, r1, r2, r3⟩ := hSw)); go_simp; (try with_reducible rfl))
  clear hcl5
  try simp only [Act.put, List.getElem_toArray, List.getElem_cons_succ, List.getElem_cons_zero, List.setIfInBounds_toArray, List.set_cons_zero, List.set_cons_succ]
  refine wpAnyN_take (i := 7) (v := ?_) rfl (by as_aux_lemma => kernel_rfl) (by as_aux_lemma => kernel_rfl) (by as_aux_lemma => kernel_rfl) (by as_aux_lemma => kernel_rfl) (fun _ _ _ h => h) (by assumption) hS0 (Or.inl ⟨by rfl, ?_⟩) (fun hcl7 => ?_)
  rotate_left
  · (intro wS hSw; (try (obtain ⟨⟨p0, p1, p2, p3, p4, p5, p6, t0, t1, t2, t3, t4, t5, t6⟩, r0, r1, r2, r3⟩ := hSw)); go_simp; (try with_reducible rfl))
  clear hcl6
  try simp only [Act.put, List.getElem_toArray, List.getElem_cons_succ, List.getElem_cons_zero, List.setIfInBounds_toArray, List.set_cons_zero, List.set_cons_succ]
  refine wpAnyN_take (i := 8) (v := ?_) rfl (by as_aux_lemma => kernel_rfl) (by as_aux_lemma => kernel_rfl) (by as_aux_lemma => kernel_rfl) (by as_aux_lemma => kernel_rfl) (fun _ _ _ h => h) (by assumption) hS0 (Or.inl ⟨by rfl, ?_⟩) (fun hcl8 => ?_)
  rotate_left
  · (intro wS hSw; (try (obtain ⟨⟨p0, p1, p2, p3, p4, p5, p6, t0, t1, t2, t3, t4, t5, t6⟩, r0, r1, r2, r3⟩ := hSw)); go_simp; (try with_reducible rfl))
  clear hcl7
  try simp only [Act.put, List.getElem_toArray, List.getElem_cons_succ, List.getElem_cons_zero, List.setIfInBounds_toArray, List.set_cons_zero, List.set_cons_succ]
  refine wpAnyN_take (i := 9) (v := ?_) rfl (by as_aux_lemma => kernel_rfl) (by as_aux_lemma => kernel_rfl) (by as_aux_lemma => kernel_rfl) (by as_aux_lemma => kernel_rfl) (fun _ _ _ h => h) (by assumption) hS0 (Or.inl ⟨by rfl, ?_⟩) (fun hcl9 => ?_)
  rotate_left
  · (intro wS hSw; (try (obtain ⟨⟨p0, p1, p2, p3, p4, p5, p6, t0, t1, t2, t3, t4, t5, t6⟩, r0, r1, r2, r3⟩ := hSw)); go_simp; (try with_reducible rfl))
  clear hcl8
  try simp only [Act.put, List.getElem_toArray, List.getElem_cons_succ, List.getElem_cons_zero, List.setIfInBounds_toArray, List.set_cons_zero, List.set_cons_succ]
  refine wpAnyN_take (i := 10) (v := ?_) rfl (by as_aux_lemma => kernel_rfl) (by as_aux_lemma => kernel_rfl) (by as_aux_lemma => kernel_rfl) (by as_aux_lemma => kernel_rfl) (fun _ _ _ h => h) (by assumption) hS0 (Or.inl ⟨by rfl, ?_⟩) (fun hcl10 => ?_)
  rotate_left
  · (intro wS hSw; (try (obtain ⟨⟨p0, p1, p2, p3, p4, p5, p6, t0, t1, t2, t3, t4, t5, t6⟩, r0, r1, r2, r3⟩ := hSw)); go_simp; (try with_reducible rfl))
  clear hcl9
  try simp only [Act.put, List.getElem_toArray, List.getElem_cons_succ, List.getElem_cons_zero, List.setIfInBounds_toArray, List.set_cons_zero, List.set_cons_succ]
  refine wpAnyN_take (i := 11) (v := ?_) rfl (by as_aux_lemma => kernel_rfl) (by as_aux_lemma => kernel_rfl) (by as_aux_lemma => kernel_rfl) (by as_aux_lemma => kernel_rfl) (fun _ _ _ h => h) (by assumption) hS0 (Or.inl ⟨by rfl, ?_⟩) (fun hcl11 => ?_)
  rotate_left
  · (intro wS hSw; (try (obtain ⟨⟨p0, p1, p2, p3, p4, p5, p6, t0, t1, t2, t3, t4, t5, t6⟩, r0, r1, r2, r3⟩ := hSw)); go_simp; (try with_reducible rfl))
  clear hcl10
  try simp only [Act.put, List.getElem_toArray, List.getElem_cons_succ, List.getElem_cons_zero, List.setIfInBounds_toArray, List.set_cons_zero, List.set_cons_succ]
  refine wpAnyN_take (i := 12) (v := ?_) rfl (by as_aux_lemma => kernel_rfl) (by as_aux_lemma => kernel_rfl) (by as_aux_lemma => kernel_rfl) (by as_aux_lemma => kernel_rfl) (fun _ _ _ h => h) (by assumption) hS0 (Or.inl ⟨by rfl, ?_⟩) (fun hcl12 => ?_)
  rotate_left
  · (intro wS hSw; (try (obtain ⟨⟨p0, p1, p2, p3, p4, p5, p6, t0, t1, t2, t3, t4, t5, t6⟩, r0, r1, r2, r3⟩ := hSw)); go_simp; (try with_reducible rfl))
  clear hcl11
  try simp only [Act.put, List.getElem_toArray, List.getElem_cons_succ, List.getElem_cons_zero, List.setIfInBounds_toArray, List.set_cons_zero, List.set_cons_succ]
  refine wpAnyN_take (i := 13) (v := ?_) rfl (by as_aux_lemma => kernel_rfl) (by as_aux_lemma => kernel_rfl) (by as_aux_lemma => kernel_rfl) (by as_aux_lemma => kernel_rfl) (fun _ _ _ h => h) (by assumption) hS0 (Or.inl ⟨by rfl, ?_⟩) (fun hcl13 => ?_)
  rotate_left
  · (intro wS hSw; (try (obtain ⟨⟨p0, p1, p2, p3, p4, p5, p6, t0, t1, t2, t3, t4, t5, t6⟩, r0, r1, r2, r3⟩ := hSw)); go_simp; (try with_reducible rfl))
  clear hcl12
  try simp only [Act.put, List.getElem_toArray, List.getElem_cons_succ, List.getElem_cons_zero, List.setIfInBounds_toArray, List.set_cons_zero, List.set_cons_succ]
  refine wpAnyN_take (i := 14) (v := ?_) rfl (by as_aux_lemma => kernel_rfl) (by as_aux_lemma => kernel_rfl) (by as_aux_lemma => kernel_rfl) (by as_aux_lemma => kernel_rfl) (fun _ _ _ h => h) (by assumption) hS0 (Or.inl ⟨by rfl, ?_⟩) (fun hcl14 => ?_)
  rotate_left
  · (intro wS hSw; (try (obtain ⟨⟨p0, p1, p2, p3, p4, p5, p6, t0, t1, t2, t3, t4, t5, t6⟩, r0, r1, r2, r3⟩ := hSw)); go_simp; (try with_reducible rfl))
  clear hcl13
  try simp only [Act.put, List.getElem_toArray, List.getElem_cons_succ, List.getElem_cons_zero, List.setIfInBounds_toArray, List.set_cons_zero, List.set_cons_succ]
  refine wpAnyN_take (i := 15) (v := ?_) rfl (by as_aux_lemma => kernel_rfl) (by as_aux_lemma => kernel_rfl) (by as_aux_lemma => kernel_rfl) (by as_aux_lemma => kernel_rfl) (fun _ _ _ h => h) (by assumption) hS0 (Or.inl ⟨by rfl, ?_⟩) (fun hcl15 => ?_)
  rotate_left
  · (intro wS hSw; (try (obtain ⟨⟨p0, p1, p2, p3, p4, p5, p6, t0, t1, t2, t3, t4, t5, t6⟩, r0, r1, r2, r3⟩ := hSw)); go_simp; (try with_reducible rfl))
  clear hcl14
  try simp only [Act.put, List.getElem_toArray, List.getElem_cons_succ, List.getElem_cons_zero, List.setIfInBounds_toArray, List.set_cons_zero, List.set_cons_succ]
  refine wpAnyN_take (i := 16) (v := ?_) rfl (by as_aux_lemma => kernel_rfl) (by as_aux_lemma => kernel_rfl) (by as_aux_lemma => kernel_rfl) (by as_aux_lemma => kernel_rfl) (fun _ _ _ h => h) (by assumption) hS0 (Or.inl ⟨by rfl, ?_⟩) (fun hcl16 => ?_)
  rotate_left
  · (intro wS hSw; (try (obtain ⟨⟨p0, p1, p2, p3, p4, p5, p6, t0, t1, t2, t3, t4, t5, t6⟩, r0, r1, r2, r3⟩ := hSw)); go_simp; (try with_reducible rfl))
  clear hcl15
  try simp only [Act.put, List.getElem_toArray, List.getElem_cons_succ, List.getElem_cons_zero, List.setIfInBounds_toArray, List.set_cons_zero, List.set_cons_succ]
  refine wpAnyN_take (i := 17) (v := ?_) rfl (by as_aux_lemma => kernel_rfl) (by as_aux_lemma => kernel_rfl) (by as_aux_lemma => kernel_rfl) (by as_aux_lemma => kernel_rfl) (fun _ _ _ h => h) (by assumption) hS0 (Or.inl ⟨by rfl, ?_⟩) (fun hcl17 => ?_)
  rotate_left
  · (intro wS hSw; (try (obtain ⟨⟨p0, p1, p2, p3, p4, p5, p6, t0, t1, t2, t3, t4, t5, t6⟩, r0, r1, r2, r3⟩ := hSw)); go_simp; (try with_reducible rfl))
  clear hcl16
  try simp only [Act.put, List.getElem_toArray, List.getElem_cons_succ, List.getElem_cons_zero, List.setIfInBounds_toArray, List.set_cons_zero, List.set_cons_succ]
  refine wpAnyN_take (i := 18) (v := ?_) rfl (by as_aux_lemma => kernel_rfl) (by as_aux_lemma => kernel_rfl) (by as_aux_lemma => kernel_rfl) (by as_aux_lemma => kernel_rfl) (fun _ _ _ h => h) (by assumption) hS0 (Or.inl ⟨by rfl, ?_⟩) (fun hcl18 => ?_)
  rotate_left
  · (intro wS hSw; (try (obtain ⟨⟨p0, p1, p2, p3, p4, p5, p6, t0, t1, t2, t3, t4, t5, t6⟩, r0, r1, r2, r3⟩ := hSw)); go_simp; (try with_reducible rfl))
  clear hcl17
  try simp only [Act.put, List.getElem_toArray, List.getElem_cons_succ, List.getElem_cons_zero, List.setIfInBounds_toArray, List.set_cons_zero, List.set_cons_succ]
  refine wpAnyN_take (i := 19) (v := ?_) rfl (by as_aux_lemma => kernel_rfl) (by as_aux_lemma => kernel_rfl) (by as_aux_lemma => kernel_rfl) (by as_aux_lemma => kernel_rfl) (fun _ _ _ h => h) (by assumption) hS0 (Or.inl ⟨by rfl, ?_⟩) (fun hcl19 => ?_)
  rotate_left
  · (intro wS hSw; (try (obtain ⟨⟨p0, p1, p2, p3, p4, p5, p6, t0, t1, t2, t3, t4, t5, t6⟩, r0, r1, r2, r3⟩ := hSw)); go_simp; (try with_reducible rfl))
  clear hcl18
  try simp only [Act.put, List.getElem_toArray, List.getElem_cons_succ, List.getElem_cons_zero, List.setIfInBounds_toArray, List.set_cons_zero, List.set_cons_succ]
  refine wpAnyN_take (i := 20) (v := ?_) rfl (by as_aux_lemma => kernel_rfl) (by as_aux_lemma => kernel_rfl) (by as_aux_lemma => kernel_rfl) (by as_aux_lemma => kernel_rfl) (fun _ _ _ h => h) (by assumption) hS0 (Or.inl ⟨by rfl, ?_⟩) (fun hcl20 => ?_)
  rotate_left
  · (intro wS hSw; (try (obtain ⟨⟨p0, p1, p2, p3, p4, p5, p6, t0, t1, t2, t3, t4, t5, t6⟩, r0, r1, r2, r3⟩ := hSw)); go_simp; (try with_reducible rfl))
  clear hcl19
  try simp only [Act.put, List.getElem_toArray, List.getElem_cons_succ, List.getElem_cons_zero, List.setIfInBounds_toArray, List.set_cons_zero, List.set_cons_succ]
  refine wpAnyN_take (i := 21) (v := ?_) rfl (by as_aux_lemma => kernel_rfl) (by as_aux_lemma => kernel_rfl) (by as_aux_lemma => kernel_rfl) (by as_aux_lemma => kernel_rfl) (fun _ _ _ h => h) (by assumption) hS0 (Or.inl ⟨by rfl, ?_⟩) (fun hcl21 => ?_)
  rotate_left
  · (intro wS hSw; (try (obtain ⟨⟨p0, p1, p2, p3, p4, p5, p6, t0, t1, t2, t3, t4, t5, t6⟩, r0, r1, r2, r3⟩ := hSw)); go_simp; (try with_reducible rfl))
  clear hcl20
  try simp only [Act.put, List.getElem_toArray, List.getElem_cons_succ, List.getElem_cons_zero, List.setIfInBounds_toArray, List.set_cons_zero, List.set_cons_succ]
  refine wpAnyN_take (i := 23) (v := ?_) rfl (by as_aux_lemma => kernel_rfl) (by as_aux_lemma => kernel_rfl) (by as_aux_lemma => kernel_rfl) (by as_aux_lemma => kernel_rfl) (fun _ _ _ h => h) (by assumption) hS0 (Or.inl ⟨by rfl, ?_⟩) (fun hcl23 => ?_)
  rotate_left
  · (intro wS hSw; (try (obtain ⟨⟨p0, p1, p2, p3, p4, p5, p6, t0, t1, t2, t3, t4, t5, t6⟩, r0, r1, r2, r3⟩ := hSw)); go_simp; (try with_reducible rfl))
  clear hcl21
  try simp only [Act.put, List.getElem_toArray, List.getElem_cons_succ, List.getElem_cons_zero, List.setIfInBounds_toArray, List.set_cons_zero, List.set_cons_succ]
  refine wpAnyN_oneC (i := 22) (by as_aux_lemma => kernel_rfl) rfl (by assumption) (fun hcl22 K' hK' => ?_)
  clear hcl23
  go_simp
  go_at_call 16
  refine (HIA.out _).mono ?_
  rintro e x1 ⟨rfl, hs1⟩
  have hS1 := hS0.same hs1
  have hst1 := Same.trans hst0 hs1
  clear hst0 hs1
  refine hK'.out _ _ (fun _ => hS1) ?_
  clear hK' K'
  try simp only [Act.put, List.getElem_toArray, List.getElem_cons_succ, List.getElem_cons_zero, List.setIfInBounds_toArray, List.set_cons_zero, List.set_cons_succ]
  refine wpAnyN_oneC (i := 24) (by as_aux_lemma => kernel_rfl) rfl (by assumption) (fun hcl24 K' hK' => ?_)
  clear hcl22
  go_simp
  go_at_call 16
  refine (HIB.out _).mono ?_
  rintro e x2 ⟨rfl, hs2⟩
  have hS2 := hS1.same hs2
  have hst2 := Same.trans hst1 hs2
  clear hst1 hs2
  refine hK'.out _ _ (fun _ => hS2) ?_
  clear hK' K'
  try simp only [Act.put, List.getElem_toArray, List.getElem_cons_succ, List.getElem_cons_zero, List.setIfInBounds_toArray, List.set_cons_zero, List.set_cons_succ]
  refine wpAnyN_take (i := 25) (v := ?_) rfl (by as_aux_lemma => kernel_rfl) (by as_aux_lemma => kernel_rfl) (by as_aux_lemma => kernel_rfl) (by as_aux_lemma => kernel_rfl) (fun _ _ _ h => h) (by assumption) hS2 (Or.inl ⟨by rfl, ?_⟩) (fun hcl25 => ?_)
  rotate_left
  · (intro wS hSw; (try (obtain ⟨⟨p0, p1, p2, p3, p4, p5, p6, t0, t1, t2, t3, t4, t5, t6⟩, r0, r1, r2, r3⟩ := hSw)); go_simp; (try with_reducible rfl))
  clear hcl24
  try simp only [Act.put, List.getElem_toArray, List.getElem_cons_succ, List.getElem_cons_zero, List.setIfInBounds_toArray, List.set_cons_zero, List.set_cons_succ]
  refine wpAnyN_take (i := 26) (v := ?_) rfl (by as_aux_lemma => kernel_rfl) (by as_aux_lemma => kernel_rfl) (by as_aux_lemma => kernel_rfl) (by as_aux_lemma => kernel_rfl) (fun _ _ _ h => h) (by assumption) hS2 (Or.inl ⟨by rfl, ?_⟩) (fun hcl26 => ?_)
  rotate_left
  · (intro wS hSw; (try (obtain ⟨⟨p0, p1, p2, p3, p4, p5, p6, t0, t1, t2, t3, t4, t5, t6⟩, r0, r1, r2, r3⟩ := hSw)); go_simp; (try with_reducible rfl))
  clear hcl25
  try simp only [Act.put, List.getElem_toArray, List.getElem_cons_succ, List.getElem_cons_zero, List.setIfInBounds_toArray, List.set_cons_zero, List.set_cons_succ]
  refine wpAnyN_take (i := 27) (v := ?_) rfl (by as_aux_lemma => kernel_rfl) (by as_aux_lemma => kernel_rfl) (by as_aux_lemma => kernel_rfl) (by as_aux_lemma => kernel_rfl) (fun _ _ _ h => h) (by assumption) hS2 (Or.inl ⟨by rfl, ?_⟩) (fun hcl27 => ?_)
  rotate_left
  · (intro wS hSw; (try (obtain ⟨⟨p0, p1, p2, p3, p4, p5, p6, t0, t1, t2, t3, t4, t5, t6⟩, r0, r1, r2, r3⟩ := hSw)); go_simp; (try with_reducible rfl))
  clear hcl26
  try simp only [Act.put, List.getElem_toArray, List.getElem_cons_succ, List.getElem_cons_zero, List.setIfInBounds_toArray, List.set_cons_zero, List.set_cons_succ]
  refine wpAnyN_take (i := 28) (v := ?_) rfl (by as_aux_lemma => kernel_rfl) (by as_aux_lemma => kernel_rfl) (by as_aux_lemma => kernel_rfl) (by as_aux_lemma => kernel_rfl) (fun _ _ _ h => h) (by assumption) hS2 (Or.inl ⟨by rfl, ?_⟩) (fun hcl28 => ?_)
  rotate_left
  · (intro wS hSw; (try (obtain ⟨⟨p0, p1, p2, p3, p4, p5, p6, t0, t1, t2, t3, t4, t5, t6⟩, r0, r1, r2, r3⟩ := hSw)); go_simp; (try with_reducible rfl))
  clear hcl27
  try simp only [Act.put, List.getElem_toArray, List.getElem_cons_succ, List.getElem_cons_zero, List.setIfInBounds_toArray, List.set_cons_zero, List.set_cons_succ]
  refine wpAnyN_take (i := 30) (v := ?_) rfl (by as_aux_lemma => kernel_rfl) (by as_aux_lemma => kernel_rfl) (by as_aux_lemma => kernel_rfl) (by as_aux_lemma => kernel_rfl) (fun _ _ _ h => h) (by assumption) hS2 (Or.inl ⟨by rfl, ?_⟩) (fun hcl30 => ?_)
  rotate_left
  · (intro wS hSw; (try (obtain ⟨⟨p0, p1, p2, p3, p4, p5, p6, t0, t1, t2, t3, t4, t5, t6⟩, r0, r1, r2, r3⟩ := hSw)); go_simp; (try with_reducible rfl))
  clear hcl28
  try simp only [Act.put, List.getElem_toArray, List.getElem_cons_succ, List.getElem_cons_zero, List.setIfInBounds_toArray, List.set_cons_zero, List.set_cons_succ]
  refine wpAnyN_oneC (i := 29) (by as_aux_lemma => kernel_rfl) rfl (by assumption) (fun hcl29 K' hK' => ?_)
  clear hcl30
  go_simp
  go_at_call 17
  refine (HUA.out _).mono ?_
  rintro e x3 ⟨rfl, hs3⟩
  have hS3 := hS2.same hs3
  have hst3 := Same.trans hst2 hs3
  clear hst2 hs3
  refine hK'.out _ _ (fun _ => hS3) ?_
  clear hK' K'
  try simp only [Act.put, List.getElem_toArray, List.getElem_cons_succ, List.getElem_cons_zero, List.setIfInBounds_toArray, List.set_cons_zero, List.set_cons_succ]
  refine wpAnyN_oneC (i := 31) (by as_aux_lemma => kernel_rfl) rfl (by assumption) (fun hcl31 K' hK' => ?_)
  clear hcl29
  go_simp
  go_at_call 17
  refine (HUB.out _).mono ?_
  rintro e x4 ⟨rfl, hs4⟩
  have hS4 := hS3.same hs4
  have hst4 := Same.trans hst3 hs4
  clear hst3 hs4
  refine hK'.out _ _ (fun _ => hS4) ?_
  clear hK' K'
  try simp only [Act.put, List.getElem_toArray, List.getElem_cons_succ, List.getElem_cons_zero, List.setIfInBounds_toArray, List.set_cons_zero, List.set_cons_succ]
  refine wpAnyN_take (i := 32) (v := ?_) rfl (by as_aux_lemma => kernel_rfl) (by as_aux_lemma => kernel_rfl) (by as_aux_lemma => kernel_rfl) (by as_aux_lemma => kernel_rfl) (fun _ _ _ h => h) (by assumption) hS4 (Or.inl ⟨by rfl, ?_⟩) (fun hcl32 => ?_)
  rotate_left
  · (intro wS hSw; (try (obtain ⟨⟨p0, p1, p2, p3, p4, p5, p6, t0, t1, t2, t3, t4, t5, t6⟩, r0, r1, r2, r3⟩ := hSw)); go_simp; (try with_reducible rfl))
  clear hcl31
  try simp only [Act.put, List.getElem_toArray, List.getElem_cons_succ, List.getElem_cons_zero, List.setIfInBounds_toArray, List.set_cons_zero, List.set_cons_succ]
  refine wpAnyN_take (i := 33) (v := ?_) rfl (by as_aux_lemma => kernel_rfl) (by as_aux_lemma => kernel_rfl) (by as_aux_lemma => kernel_rfl) (by as_aux_lemma => kernel_rfl) (fun _ _ _ h => h) (by assumption) hS4 (Or.inl ⟨by rfl, ?_⟩) (fun hcl33 => ?_)
  rotate_left
  · (intro wS hSw; (try (obtain ⟨⟨p0, p1, p2, p3, p4, p5, p6, t0, t1, t2, t3, t4, t5, t6⟩, r0, r1, r2, r3⟩ := hSw)); go_simp; (try with_reducible rfl))
  clear hcl32
  try simp only [Act.put, List.getElem_toArray, List.getElem_cons_succ, List.getElem_cons_zero, List.setIfInBounds_toArray, List.set_cons_zero, List.set_cons_succ]
  refine wpAnyN_take (i := 34) (v := ?_) rfl (by as_aux_lemma => kernel_rfl) (by as_aux_lemma => kernel_rfl) (by as_aux_lemma => kernel_rfl) (by as_aux_lemma => kernel_rfl) (fun _ _ _ h => h) (by assumption) hS4 (Or.inl ⟨by rfl, ?_⟩) (fun hcl34 => ?_)
  rotate_left
  · (intro wS hSw; (try (obtain ⟨⟨p0, p1, p2, p3, p4, p5, p6, t0, t1, t2, t3, t4, t5, t6⟩, r0, r1, r2, r3⟩ := hSw)); go_simp; (try with_reducible rfl))
  clear hcl33
  try simp only [Act.put, List.getElem_toArray, List.getElem_cons_succ, List.getElem_cons_zero, List.setIfInBounds_toArray, List.set_cons_zero, List.set_cons_succ]
  refine wpAnyN_take (i := 35) (v := ?_) rfl (by as_aux_lemma => kernel_rfl) (by as_aux_lemma => kernel_rfl) (by as_aux_lemma => kernel_rfl) (by as_aux_lemma => kernel_rfl) (fun _ _ _ h => h) (by assumption) hS4 (Or.inl ⟨by rfl, ?_⟩) (fun hcl35 => ?_)
  rotate_left
  · (intro wS hSw; (try (obtain ⟨⟨p0, p1, p2, p3, p4, p5, p6, t0, t1, t2, t3, t4, t5, t6⟩, r0, r1, r2, r3⟩ := hSw)); go_simp; (try with_reducible rfl))
  clear hcl34
  try simp only [Act.put, List.getElem_toArray, List.getElem_cons_succ, List.getElem_cons_zero, List.setIfInBounds_toArray, List.set_cons_zero, List.set_cons_succ]
  refine wpAnyN_take (i := 37) (v := ?_) rfl (by as_aux_lemma => kernel_rfl) (by as_aux_lemma => kernel_rfl) (by as_aux_lemma => kernel_rfl) (by as_aux_lemma => kernel_rfl) (fun _ _ _ h => h) (by assumption) hS4 (Or.inl ⟨by rfl, ?_⟩) (fun hcl37 => ?_)
  rotate_left
  · (intro wS hSw; (try (obtain ⟨⟨p0, p1, p2, p3, p4, p5, p6, t0, t1, t2, t3, t4, t5, t6⟩, r0, r1, r2, r3⟩ := hSw)); go_simp; (try with_reducible rfl))
  clear hcl35
  try simp only [Act.put, List.getElem_toArray, List.getElem_cons_succ, List.getElem_cons_zero, List.setIfInBounds_toArray, List.set_cons_zero, List.set_cons_succ]
  refine wpAnyN_take (i := 40) (v := ?_) rfl (by as_aux_lemma => kernel_rfl) (by as_aux_lemma => kernel_rfl) (by as_aux_lemma => kernel_rfl) (by as_aux_lemma => kernel_rfl) (fun _ _ _ h => h) (by assumption) hS4 (Or.inl ⟨by rfl, ?_⟩) (fun hcl40 => ?_)
  rotate_left
  · (intro wS hSw; (try (obtain ⟨⟨p0, p1, p2, p3, p4, p5, p6, t0, t1, t2, t3, t4, t5, t6⟩, r0, r1, r2, r3⟩ := hSw)); go_simp; (try with_reducible rfl))
  clear hcl37
  try simp only [Act.put, List.getElem_toArray, List.getElem_cons_succ, List.getElem_cons_zero, List.setIfInBounds_toArray, List.set_cons_zero, List.set_cons_succ]
  refine wpAnyN_take (i := 41) (v := ?_) rfl (by as_aux_lemma => kernel_rfl) (by as_aux_lemma => kernel_rfl) (by as_aux_lemma => kernel_rfl) (by as_aux_lemma => kernel_rfl) (fun _ _ _ h => h) (by assumption) hS4 (Or.inl ⟨by rfl, ?_⟩) (fun hcl41 => ?_)
  rotate_left
  · (intro wS hSw; (try (obtain ⟨⟨p0, p1, p2, p3, p4, p5, p6, t0, t1, t2, t3, t4, t5, t6⟩, r0, r1, r2, r3⟩ := hSw)); go_simp; (try with_reducible rfl))
  clear hcl40
  try simp only [Act.put, List.getElem_toArray, List.getElem_cons_succ, List.getElem_cons_zero, List.setIfInBounds_toArray, List.set_cons_zero, List.set_cons_succ]
  refine wpAnyN_take (i := 42) (v := ?_) rfl (by as_aux_lemma => kernel_rfl) (by as_aux_lemma => kernel_rfl) (by as_aux_lemma => kernel_rfl) (by as_aux_lemma => kernel_rfl) (fun _ _ _ h => h) (by assumption) hS4 (Or.inl ⟨by rfl, ?_⟩) (fun hcl42 => ?_)
  rotate_left
  · (intro wS hSw; (try (obtain ⟨⟨p0, p1, p2, p3, p4, p5, p6, t0, t1, t2, t3, t4, t5, t6⟩, r0, r1, r2, r3⟩ := hSw)); go_simp; (try with_reducible rfl))
  clear hcl41
  try simp only [Act.put, List.getElem_toArray, List.getElem_cons_succ, List.getElem_cons_zero, List.setIfInBounds_toArray, List.set_cons_zero, List.set_cons_succ]
  refine wpAnyN_oneC (i := 36) (by as_aux_lemma => kernel_rfl) rfl (by assumption) (fun hcl36 K' hK' => ?_)
  clear hcl42
  go_simp
  go_at_call 16
  refine (HIA.out _).mono ?_
  rintro e x5 ⟨rfl, hs5⟩
  have hS5 := hS4.same hs5
  have hst5 := Same.trans hst4 hs5
  clear hst4 hs5
  refine hK'.out _ _ (fun _ => hS5) ?_
  clear hK' K'
  try simp only [Act.put, List.getElem_toArray, List.getElem_cons_succ, List.getElem_cons_zero, List.setIfInBounds_toArray, List.set_cons_zero, List.set_cons_succ]
  refine wpAnyN_oneC (i := 38) (by as_aux_lemma => kernel_rfl) rfl (by assumption) (fun hcl38 K' hK' => ?_)
  clear hcl36
  go_simp
  go_at_call 17
  refine (HUA.out _).mono ?_
  rintro e x6 ⟨rfl, hs6⟩
  have hS6 := hS5.same hs6
  have hst6 := Same.trans hst5 hs6
  clear hst5 hs6
  refine hK'.out _ _ (fun _ => hS6) ?_
  clear hK' K'
  try simp only [Act.put, List.getElem_toArray, List.getElem_cons_succ, List.getElem_cons_zero, List.setIfInBounds_toArray, List.set_cons_zero, List.set_cons_succ]
  refine wpAnyN_take (i := 39) (v := ?_) rfl (by as_aux_lemma => kernel_rfl) (by as_aux_lemma => kernel_rfl) (by as_aux_lemma => kernel_rfl) (by as_aux_lemma => kernel_rfl) (fun _ _ _ h => h) (by assumption) hS6 (Or.inl ⟨by rfl, ?_⟩) (fun hcl39 => ?_)
  rotate_left
  · (intro wS hSw; (try (obtain ⟨⟨p0, p1, p2, p3, p4, p5, p6, t0, t1, t2, t3, t4, t5, t6⟩, r0, r1, r2, r3⟩ := hSw)); go_simp; (try with_reducible rfl))
  clear hcl38
  try simp only [Act.put, List.getElem_toArray, List.getElem_cons_succ, List.getElem_cons_zero, List.setIfInBounds_toArray, List.set_cons_zero, List.set_cons_succ]
  refine wpAnyN_take (i := 43) (v := ?_) rfl (by as_aux_lemma => kernel_rfl) (by as_aux_lemma => kernel_rfl) (by as_aux_lemma => kernel_rfl) (by as_aux_lemma => kernel_rfl) (fun _ _ _ h => h) (by assumption) hS6 (Or.inl ⟨by rfl, ?_⟩) (fun hcl43 => ?_)
  rotate_left
  · (intro wS hSw; (try (obtain ⟨⟨p0, p1, p2, p3, p4, p5, p6, t0, t1, t2, t3, t4, t5, t6⟩, r0, r1, r2, r3⟩ := hSw)); go_simp; (try with_reducible rfl))
  clear hcl39
  try simp only [Act.put, List.getElem_toArray, List.getElem_cons_succ, List.getElem_cons_zero, List.setIfInBounds_toArray, List.set_cons_zero, List.set_cons_succ]
  refine wpAnyN_take (i := 44) (v := ?_) rfl (by as_aux_lemma => kernel_rfl) (by as_aux_lemma => kernel_rfl) (by as_aux_lemma => kernel_rfl) (by as_aux_lemma => kernel_rfl) (fun _ _ _ h => h) (by assumption) hS6 (Or.inl ⟨by rfl, ?_⟩) (fun hcl44 => ?_)
  rotate_left
  · (intro wS hSw; (try (obtain ⟨⟨p0, p1, p2, p3, p4, p5, p6, t0, t1, t2, t3, t4, t5, t6⟩, r0, r1, r2, r3⟩ := hSw)); go_simp; (try with_reducible rfl))
  clear hcl43
  try simp only [Act.put, List.getElem_toArray, List.getElem_cons_succ, List.getElem_cons_zero, List.setIfInBounds_toArray, List.set_cons_zero, List.set_cons_succ]
  refine wpAnyN_take (i := 45) (v := ?_) rfl (by as_aux_lemma => kernel_rfl) (by as_aux_lemma => kernel_rfl) (by as_aux_lemma => kernel_rfl) (by as_aux_lemma => kernel_rfl) (fun _ _ _ h => h) (by assumption) hS6 (Or.inl ⟨by rfl, ?_⟩) (fun hcl45 => ?_)
  rotate_left
  · (intro wS hSw; (try (obtain ⟨⟨p0, p1, p2, p3, p4, p5, p6, t0, t1, t2, t3, t4, t5, t6⟩, r0, r1, r2, r3⟩ := hSw)); go_simp; (try with_reducible rfl))
  clear hcl44
  try simp only [Act.put, List.getElem_toArray, List.getElem_cons_succ, List.getElem_cons_zero, List.setIfInBounds_toArray, List.set_cons_zero, List.set_cons_succ]
  refine wpAnyN_oneC (i := 46) (by as_aux_lemma => kernel_rfl) rfl (by assumption) (fun hcl46 K' hK' => ?_)
  clear hcl45
  go_simp
  go_at_call 11
  refine (known_any _ (HT.out.same hst6)).mono ?_
  rintro e x7 ⟨rfl, hs7⟩
  have hS7 := hS6.same hs7
  have hst7 := Same.trans hst6 hs7
  clear hst6 hs7
  refine hK'.out _ _ (fun _ => hS7) ?_
  clear hK' K'
  try simp only [Act.put, List.getElem_toArray, List.getElem_cons_succ, List.getElem_cons_zero, List.setIfInBounds_toArray, List.set_cons_zero, List.set_cons_succ]
  refine wpAnyN_take (i := 47) (v := ?_) rfl (by as_aux_lemma => kernel_rfl) (by as_aux_lemma => kernel_rfl) (by as_aux_lemma => kernel_rfl) (by as_aux_lemma => kernel_rfl) (fun _ _ _ h => h) (by assumption) hS7 (Or.inl ⟨by rfl, ?_⟩) (fun hcl47 => ?_)
  rotate_left
  · (intro wS hSw; (try (obtain ⟨⟨p0, p1, p2, p3, p4, p5, p6, t0, t1, t2, t3, t4, t5, t6⟩, r0, r1, r2, r3⟩ := hSw)); go_simp; (try with_reducible rfl))
  clear hcl46
  try simp only [Act.put, List.getElem_toArray, List.getElem_cons_succ, List.getElem_cons_zero, List.setIfInBounds_toArray, List.set_cons_zero, List.set_cons_succ]
  refine wpAnyN_take (i := 48) (v := ?_) rfl (by as_aux_lemma => kernel_rfl) (by as_aux_lemma => kernel_rfl) (by as_aux_lemma => kernel_rfl) (by as_aux_lemma => kernel_rfl) (fun _ _ _ h => h) (by assumption) hS7 (Or.inl ⟨by rfl, ?_⟩) (fun hcl48 => ?_)
  rotate_left
  · (intro wS hSw; (try (obtain ⟨⟨p0, p1, p2, p3, p4, p5, p6, t0, t1, t2, t3, t4, t5, t6⟩, r0, r1, r2, r3⟩ := hSw)); go_simp; (try with_reducible rfl))
  clear hcl47
  try simp only [Act.put, List.getElem_toArray, List.getElem_cons_succ, List.getElem_cons_zero, List.setIfInBounds_toArray, List.set_cons_zero, List.set_cons_succ]
  refine wpAnyN_done (by as_aux_lemma => kernel_rfl) ?_ _
  refine NoPanic.normal ?_
  go_wp2_with fail
  go_ret
  exact ⟨rfl, hst7⟩
theorem cdbLong_1 (w : World) (hT : Tab15 w) (lba : Int) (hl : 0 ≤ lba ∧ lba ≤ 4294967295) (n : Int) (hn : 0 ≤ n ∧ n ≤ 65535) :
    Calls Tryd.prog 5 #[.bool true, .int .u32 lba, .int .u16 n] w fun e w' => e = .returned (.bool true) ∧ Same w w' := by
  have okA := blk_ok 42 lba n (by omega) hl hn
  have okB := blk_ok 138 lba n (by omega) hl hn
  have eA : cE (blk 42 lba n) = 0 := blk_built 5 (by omega) lba n hl hn
  have eB : cE (blk 138 lba n) = 0 := blk_built 11 (by omega) lba n hl hn
  have hbA := fun W hT => build_any (blk 42 lba n) W okA hT
  have hbB := fun W hT => build_any (blk 138 lba n) W okB hT
  obtain ⟨pA1, pA2⟩ := parse_build _ okA eA
  obtain ⟨pB1, pB2⟩ := parse_build _ okB eB
  have lA := cL_length eA
  have lB := cL_length eB
  have zA := (cL_at (c := blk 42 lba n) (k := 5) (by kernel_rfl) eA 0 (by omega)).1 rfl
  have zB := (cL_at (c := blk 138 lba n) (k := 11) (by kernel_rfl) eB 0 (by omega)).1 rfl
  rw [eA] at hbA
  rw [eB] at hbB
  have hqA := fun v W h hT => parse_any v (cL (blk 42 lba n)) W h (by omega) hT
  have hqB := fun v W h hT => parse_any v (cL (blk 138 lba n)) W h (by omega) hT
  rw [pA1, pA2] at hqA
  rw [pB1, pB2] at hqB
  generalize cL (blk 42 lba n) = LA at hbA lA zA hqA
  generalize cL (blk 138 lba n) = LB at hbB lB zB hqB
  have iA := fun W => in_any (blk 42 lba n) W okA
  have iB := fun W => in_any (blk 138 lba n) W okB
  have uA := fun W => out_any (blk 42 lba n) W okA
  have uB := fun W => out_any (blk 138 lba n) W okB
  have hby : byteN n 64 = 64 * n := by unfold byteN; rw [if_neg (by omega), if_neg (by omega)]; omega
  have niA : inN (blk 42 lba n) = 0 := rfl
  have niB : inN (blk 138 lba n) = 0 := rfl
  have nuA : outN (blk 42 lba n) = 64 * n := hby
  have nuB : outN (blk 138 lba n) = 64 * n := hby
  rw [niA] at iA
  rw [niB] at iB
  rw [nuA] at uA
  rw [nuB] at uB
  simp only [Cmd.cells, blk] at hbA hbB hqA hqB iA iB uA uB zA zB
  have HBA := Lib.hid hbA
  have HBB := Lib.hid hbB
  have HQA := Lib.hid hqA
  have HQB := Lib.hid hqB
  have HIA := Lib.hid iA
  have HIB := Lib.hid iB
  have HUA := Lib.hid uA
  have HUB := Lib.hid uB
  have HT := Lib.hid hT
  have HLA := Lib.hid lA
  have HLB := Lib.hid lB
  have HZA := Lib.hid zA
  have HZB := Lib.hid zB
  clear hbA hbB hqA hqB iA iB uA uB hT lA lB zA zB okA okB eA eB pA1 pA2 pB1 pB2 hby niA niB nuA nuB
  go_enter Tryd.func5, Tryd.ntmps5
  go_wp2_with fail
  refine calls_gen fun w1 hw1 => ?_
  have hs1 : Same w w1 := by rw [hw1]; exact ((Upd.refl _ w).alloc _).alloc _
  obtain ⟨a0, a1, a2, a3, a4, a5, a6⟩ := box7 w 29 (.int .i64 42) (.int .i64 0) (.int .i64 0) (.bool false) (.int .i64 0) (.int .u64 lba) (.int .i64 n) w1 (by rw [hw1]; exact (Upd.refl _ _).alloc _)
  obtain ⟨b0, b1, b2, b3, b4, b5, b6⟩ := box7 (w.alloc (.cells #[.int .i64 42, .int .i64 0, .int .i64 0, .bool false, .int .i64 0, .int .u64 lba, .int .i64 n] 29)) 29 (.int .i64 138) (.int .i64 0) (.int .i64 0) (.bool false) (.int .i64 0) (.int .u64 lba) (.int .i64 n) w1 (by rw [hw1]; exact Upd.refl _ _)
  rw [show (w.alloc (.cells #[.int .i64 42, .int .i64 0, .int .i64 0, .bool false, .int .i64 0, .int .u64 lba, .int .i64 n] 29)).heap.size = w.heap.size + 1 by simp] at b0 b1 b2 b3 b4 b5 b6
  have hz1 : w1.heap.size = w.heap.size + 1 + 1 := by rw [hw1]; simp
  have s14 : S14 w1 w.heap.size (w.heap.size + 1) (.int .i64 42) (.int .i64 0) (.int .i64 0) (.bool false) (.int .i64 0) (.int .u64 lba) (.int .i64 n) (.int .i64 138) (.int .i64 0) (.int .i64 0) (.bool false) (.int .i64 0) (.int .u64 lba) (.int .i64 n) := ⟨a0, a1, a2, a3, a4, a5, a6, b0, b1, b2, b3, b4, b5, b6⟩
  clear hw1 a0 a1 a2 a3 a4 a5 a6 b0 b1 b2 b3 b4 b5 b6
  refine (HBA.out _ (HT.out.same hs1)).mono ?_
  rintro e w2 ⟨v2, rfl, hf2, hs2⟩
  have s14b := s14.same hs2
  have HW2 := Lib.hid (Same.trans hs1 hs2)
  have hz2 : w.heap.size + 1 < w2.heap.size := by have := hs2.size; omega
  obtain ⟨x2, o2, c2, rfl, hc2⟩ := fresh16 hf2 HLA.out
  obtain ⟨a0, a1, a2, a3, a4, a5, a6, b0, b1, b2, b3, b4, b5, b6⟩ := id s14b
  clear s14
  go_wp2_with fail
  refine (HBB.out _ (HT.out.same HW2.out)).mono ?_
  rintro e w3 ⟨v3, rfl, hf3, hs3⟩
  obtain ⟨x3, o3, c3, rfl, hc3⟩ := fresh16 hf3 HLB.out
  have hf2b := hf2.same hs3
  obtain ⟨y2, -⟩ := Fresh.at_ hf2b 0 (by rw [HLA.out]; decide)
  obtain ⟨y3, -⟩ := Fresh.at_ hf3 0 (by rw [HLB.out]; decide)
  rw [HZA.out] at y2
  rw [HZB.out] at y3
  simp only [Nat.add_zero] at y2 y3
  have s14c := s14b.same hs3
  have HW3 := Lib.hid (Same.trans HW2.out hs3)
  have HF2 := Lib.hid hf2b.bs
  have HF3 := Lib.hid hf3.bs
  have hz3 : w.heap.size + 1 < w3.heap.size := by have := hs3.size; omega
  have HS14 := Lib.hid s14c
  clear s14b s14c hf2 hf3 hf2b hs2 hs3 hs1 a0 a1 a2 a3 a4 a5 a6 b0 b1 b2 b3 b4 b5 b6 HW2
  go_wp2_with fail
  refine (HQA.out _ _ HF2.out (HT.out.same HW3.out)).mono ?_
  rintro e w4 ⟨rfl, hs4⟩
  have HS14b := Lib.hid (HS14.out.same hs4)
  have HW4 := Lib.hid (Same.trans HW3.out hs4)
  have HF3b := Lib.hid (HF3.out.same hs4)
  have hz4 : w.heap.size + 1 < w4.heap.size := by have := hs4.size; omega
  clear hs4 HS14 HF2 HF3 y2 y3 HW3
  go_wp2_with fail
  refine (HQB.out _ _ (HF3b.out.same ((Upd.refl _ w4).alloc _)) (HT.out.same (HW4.out.alloc _))).mono ?_
  rintro e w5 ⟨rfl, hs5⟩
  obtain ⟨-, -, -, -, -, g5, g6⟩ := box7 w4 29 _ _ _ _ _ _ _ w5 hs5
  have hs45 := Same.trans ((Upd.refl (fun _ => False) w4).alloc _) hs5
  have HS14c := Lib.hid (HS14b.out.same hs45)
  have HW5 := Lib.hid (Same.trans HW4.out hs45)
  have hz5 : w4.heap.size < w5.heap.size := by have := hs5.size; simp at this; omega
  clear hs5 hs45 HS14b HF3b HW4
  go_wp2_with fail
  refine wp_gen fun w6 hw6 => ?_
  have hs6 : Same w5 w6 := by rw [hw6]; exact (Upd.refl _ w5).alloc _
  obtain ⟨-, -, -, -, -, k5, k6⟩ := box7 w5 29 (.int .i64 138) (.int .i64 0) (.int .i64 0) (.bool false) (.int .i64 0) (.int .u64 lba) (.int .i64 n) w6 (by rw [hw6]; exact Upd.refl _ _)
  have h18 : S18 w6 w.heap.size (w.heap.size + 1) w4.heap.size w5.heap.size (.int .i64 42) (.int .i64 138) (.int .u64 lba) (.int .i64 n) := ⟨HS14c.out.same hs6, hs6.cell g5 id, hs6.cell g6 id, k5, k6⟩
  have hst0 := (Same.trans HW5.out hs6).drew
  have hS0 := h18.same ((Upd.refl (fun _ => False) w6).drew)
  clear hw6 g5 g6 k5 k6 HS14c HW5 hs6 h18
  have hwr : IntKind.i64.wrap (64 * n) = 64 * n := by rw [IntKind.wrap_i64]; omega
  have hwr2 : IntKind.i64.wrap n = n := by rw [IntKind.wrap_i64]; omega
  refine wp_region_noPanic ?_
  refine wp_region_need (fun w' => S18 w' w.heap.size (w.heap.size + 1) w4.heap.size w5.heap.size (.int .i64 42) (.int .i64 138) (.int .u64 lba) (.int .i64 n)) (fun _ => true) (by kernel_rfl) (fun hcl => ?_)
  refine wpAnyN_take (i := 0) (v := ?_) rfl (by as_aux_lemma => kernel_rfl) (by as_aux_lemma => kernel_rfl) (by as_aux_lemma => kernel_rfl) (by as_aux_lemma => kernel_rfl) (fun _ _ _ h => h) (by assumption) hS0 (Or.inl ⟨by rfl, ?_⟩) (fun hcl0 => ?_)
  rotate_left
  · (intro wS hSw; (try (obtain ⟨⟨p0, p1, p2, p3, p4, p5, p6, t0, t1, t2, t3, t4, t5, t6⟩, r0, r1, r2, r3⟩ := hSw)); go_simp; (try with_reducible rfl))
  clear hcl
  try simp only [Act.put, List.getElem_toArray, List.getElem_cons_succ, List.getElem_cons_zero, List.setIfInBounds_toArray, List.set_cons_zero, List.set_cons_succ]
  refine wpAnyN_take (i := 1) (v := ?_) rfl (by as_aux_lemma => kernel_rfl) (by as_aux_lemma => kernel_rfl) (by as_aux_lemma => kernel_rfl) (by as_aux_lemma => kernel_rfl) (fun _ _ _ h => h) (by assumption) hS0 (Or.inl ⟨by rfl, ?_⟩) (fun hcl1 => ?_)
  rotate_left
  · (intro wS hSw; (try (obtain ⟨⟨p0, p1, p2, p3, p4, p5, p6, t0, t1, t2, t3, t4, t5, t6⟩, r0, r1, r2, r3⟩ := hSw)); go_simp; (try with_reducible rfl))
  clear hcl0
  try simp only [Act.put, List.getElem_toArray, List.getElem_cons_succ, List.getElem_cons_zero, List.setIfInBounds_toArray, List.set_cons_zero, List.set_cons_succ]
  refine wpAnyN_take (i := 2) (v := ?_) rfl (by as_aux_lemma => kernel_rfl) (by as_aux_lemma => kernel_rfl) (by as_aux_lemma => kernel_rfl) (by as_aux_lemma => kernel_rfl) (fun _ _ _ h => h) (by assumption) hS0 (Or.inl ⟨by rfl, ?_⟩) (fun hcl2 => ?_)
  rotate_left
  · (intro wS hSw; (try (obtain ⟨⟨p0, p1, p2, p3, p4, p5, p6, t0, t1, t2, t3, t4, t5, t6⟩, r0, r1, r2, r3⟩ := hSw)); go_simp; (try with_reducible rfl))
  clear hcl1
  try simp only [Act.put, List.getElem_toArray, List.getElem_cons_succ, List.getElem_cons_zero, List.setIfInBounds_toArray, List.set_cons_zero, List.set_cons_succ]
  refine wpAnyN_take (i := 3) (v := ?_) rfl (by as_aux_lemma => kernel_rfl) (by as_aux_lemma => kernel_rfl) (by as_aux_lemma => kernel_rfl) (by as_aux_lemma => kernel_rfl) (fun _ _ _ h => h) (by assumption) hS0 (Or.inl ⟨by rfl, ?_⟩) (fun hcl3 => ?_)
  rotate_left
  · (intro wS hSw; (try (obtain ⟨⟨p0, p1, p2, p3, p4, p5, p6, t0, t1, t2, t3, t4, t5, t6⟩, r0, r1, r2, r3⟩ := hSw)); go_simp; (try with_reducible rfl))
  clear hcl2
  try simp only [Act.put, List.getElem_toArray, List.getElem_cons_succ, List.getElem_cons_zero, List.setIfInBounds_toArray, List.set_cons_zero, List.set_cons_succ]
  refine wpAnyN_take (i := 4) (v := ?_) rfl (by as_aux_lemma => kernel_rfl) (by as_aux_lemma => kernel_rfl) (by as_aux_lemma => kernel_rfl) (by as_aux_lemma => kernel_rfl) (fun _ _ _ h => h) (by assumption) hS0 (Or.inl ⟨by rfl, ?_⟩) (fun hcl4 => ?_)
  rotate_left
  · (intro wS hSw; (try (obtain ⟨⟨p0, p1, p2, p3, p4, p5, p6, t0, t1, t2, t3, t4, t5, t6⟩, r0, r1, r2, r3⟩ := hSw)); go_simp; (try with_reducible rfl))
  clear hcl3
  try simp only [Act.put, List.getElem_toArray, List.getElem_cons_succ, List.getElem_cons_zero, List.setIfInBounds_toArray, List.set_cons_zero, List.set_cons_succ]
  refine wpAnyN_take (i := 5) (v := ?_) rfl (by as_aux_lemma => kernel_rfl) (by as_aux_lemma => kernel_rfl) (by as_aux_lemma => kernel_rfl) (by as_aux_lemma => kernel_rfl) (fun _ _ _ h => h) (by assumption) hS0 (Or.inl ⟨by rfl, ?_⟩) (fun hcl5 => ?_)
  rotate_left
  · (intro wS hSw; (try (obtain ⟨⟨p0, p1, p2, p3, p4, p5, p6, t0, t1, t2, t3, t4, t5, t6⟩, r0, r1, r2, r3⟩ := hSw)); go_simp; (try with_reducible rfl))
  clear hcl4
  try simp only [Act.put, List.getElem_toArray, List.getElem_cons_succ, List.getElem_cons_zero, List.setIfInBounds_toArray, List.set_cons_zero, List.set_cons_succ]
  refine wpAnyN_take (i := 6) (v := ?_) rfl (by as_aux_lemma => kernel_rfl) (by as_aux_lemma => kernel_rfl) (by as_aux_lemma => kernel_rfl) (by as_aux_lemma => kernel_rfl) (fun _ _ _ h => h) (by assumption) hS0 (Or.inl ⟨by rfl, ?_⟩) (fun hcl6 => ?_)
  rotate_left
  · (intro wS hSw; (try (obtain ⟨⟨p0, p1, p2, p3, p4, p5, p6, t0, t1, t2, t3, t4, t5, t6⟩, r0, r1, r2, r3⟩ := hSw)); go_simp; (try with_reducible rfl))
  clear hcl5
  try simp only [Act.put, List.getElem_toArray, List.getElem_cons_succ, List.getElem_cons_zero, List.setIfInBounds_toArray, List.set_cons_zero, List.set_cons_succ]
  refine wpAnyN_take (i := 7) (v := ?_) rfl (by as_aux_lemma => kernel_rfl) (by as_aux_lemma => kernel_rfl) (by as_aux_lemma => kernel_rfl) (by as_aux_lemma => kernel_rfl) (fun _ _ _ h => h) (by assumption) hS0 (Or.inl ⟨by rfl, ?_⟩) (fun hcl7 => ?_)
  rotate_left
  · (intro wS hSw; (try (obtain ⟨⟨p0, p1, p2, p3, p4, p5, p6, t0, t1, t2, t3, t4, t5, t6⟩, r0, r1, r2, r3⟩ := hSw)); go_simp; (try with_reducible rfl))
  clear hcl6
  try simp only [Act.put, List.getElem_toArray, List.getElem_cons_succ, List.getElem_cons_zero, List.setIfInBounds_toArray, List.set_cons_zero, List.set_cons_succ]
  refine wpAnyN_take (i := 8) (v := ?_) rfl (by as_aux_lemma => kernel_rfl) (by as_aux_lemma => kernel_rfl) (by as_aux_lemma => kernel_rfl) (by as_aux_lemma => kernel_rfl) (fun _ _ _ h => h) (by assumption) hS0 (Or.inl ⟨by rfl, ?_⟩) (fun hcl8 => ?_)
  rotate_left
  · (intro wS hSw; (try (obtain ⟨⟨p0, p1, p2, p3, p4, p5, p6, t0, t1, t2, t3, t4, t5, t6⟩, r0, r1, r2, r3⟩ := hSw)); go_simp; (try with_reducible rfl))
  clear hcl7
  try simp only [Act.put, List.getElem_toArray, List.getElem_cons_succ, List.getElem_cons_zero, List.setIfInBounds_toArray, List.set_cons_zero, List.set_cons_succ]
  refine wpAnyN_take (i := 9) (v := ?_) rfl (by as_aux_lemma => kernel_rfl) (by as_aux_lemma => kernel_rfl) (by as_aux_lemma => kernel_rfl) (by as_aux_lemma => kernel_rfl) (fun _ _ _ h => h) (by assumption) hS0 (Or.inl ⟨by rfl, ?_⟩) (fun hcl9 => ?_)
  rotate_left
  · (intro wS hSw; (try (obtain ⟨⟨p0, p1, p2, p3, p4, p5, p6, t0, t1, t2, t3, t4, t5, t6⟩, r0, r1, r2, r3⟩ := hSw)); go_simp; (try with_reducible rfl))
  clear hcl8
  try simp only [Act.put, List.getElem_toArray, List.getElem_cons_succ, List.getElem_cons_zero, List.setIfInBounds_toArray, List.set_cons_zero, List.set_cons_succ]
  refine wpAnyN_take (i := 10) (v := ?_) rfl (by as_aux_lemma => kernel_rfl) (by as_aux_lemma => kernel_rfl) (by as_aux_lemma => kernel_rfl) (by as_aux_lemma => kernel_rfl) (fun _ _ _ h => h) (by assumption) hS0 (Or.inl ⟨by rfl, ?_⟩) (fun hcl10 => ?_)
  rotate_left
  · (intro wS hSw; (try (obtain ⟨⟨p0, p1, p2, p3, p4, p5, p6, t0, t1, t2, t3, t4, t5, t6⟩, r0, r1, r2, r3⟩ := hSw)); go_simp; (try with_reducible rfl))
  clear hcl9
  try simp only [Act.put, List.getElem_toArray, List.getElem_cons_succ, List.getElem_cons_zero, List.setIfInBounds_toArray, List.set_cons_zero, List.set_cons_succ]
  refine wpAnyN_take (i := 11) (v := ?_) rfl (by as_aux_lemma => kernel_rfl) (by as_aux_lemma => kernel_rfl) (by as_aux_lemma => kernel_rfl) (by as_aux_lemma => kernel_rfl) (fun _ _ _ h => h) (by assumption) hS0 (Or.inl ⟨by rfl, ?_⟩) (fun hcl11 => ?_)
  rotate_left
  · (intro wS hSw; (try (obtain ⟨⟨p0, p1, p2, p3, p4, p5, p6, t0, t1, t2, t3, t4, t5, t6⟩, r0, r1, r2, r3⟩ := hSw)); go_simp; (try with_reducible rfl))
  clear hcl10
  try simp only [Act.put, List.getElem_toArray, List.getElem_cons_succ, List.getElem_cons_zero, List.setIfInBounds_toArray, List.set_cons_zero, List.set_cons_succ]
  refine wpAnyN_take (i := 12) (v := ?_) rfl (by as_aux_lemma => kernel_rfl) (by as_aux_lemma => kernel_rfl) (by as_aux_lemma => kernel_rfl) (by as_aux_lemma => kernel_rfl) (fun _ _ _ h => h) (by assumption) hS0 (Or.inl ⟨by rfl, ?_⟩) (fun hcl12 => ?_)
  rotate_left
  · (intro wS hSw; (try (obtain ⟨⟨p0, p1, p2, p3, p4, p5, p6, t0, t1, t2, t3, t4, t5, t6⟩, r0, r1, r2, r3⟩ := hSw)); go_simp; (try with_reducible rfl))
  clear hcl11
  try simp only [Act.put, List.getElem_toArray, List.getElem_cons_succ, List.getElem_cons_zero, List.setIfInBounds_toArray, List.set_cons_zero, List.set_cons_succ]
  refine wpAnyN_take (i := 13) (v := ?_) rfl (by as_aux_lemma => kernel_rfl) (by as_aux_lemma => kernel_rfl) (by as_aux_lemma => kernel_rfl) (by as_aux_lemma => kernel_rfl) (fun _ _ _ h => h) (by assumption) hS0 (Or.inl ⟨by rfl, ?_⟩) (fun hcl13 => ?_)
  rotate_left
  · (intro wS hSw; (try (obtain ⟨⟨p0, p1, p2, p3, p4, p5, p6, t0, t1, t2, t3, t4, t5, t6⟩, r0, r1, r2, r3⟩ := hSw)); go_simp; (try with_reducible rfl))
  clear hcl12
  try simp only [Act.put, List.getElem_toArray, List.getElem_cons_succ, List.getElem_cons_zero, List.setIfInBounds_toArray, List.set_cons_zero, List.set_cons_succ]
  refine wpAnyN_take (i := 14) (v := ?_) rfl (by as_aux_lemma => kernel_rfl) (by as_aux_lemma => kernel_rfl) (by as_aux_lemma => kernel_rfl) (by as_aux_lemma => kernel_rfl) (fun _ _ _ h => h) (by assumption) hS0 (Or.inl ⟨by rfl, ?_⟩) (fun hcl14 => ?_)
  rotate_left
  · (intro wS hSw; (try (obtain ⟨⟨p0, p1, p2, p3, p4, p5, p6, t0, t1, t2, t3, t4, t5, t6⟩, r0, r1, r2, r3⟩ := hSw)); go_simp; (try with_reducible rfl))
  clear hcl13
  try simp only [Act.put, List.getElem_toArray, List.getElem_cons_succ, List.getElem_cons_zero, List.setIfInBounds_toArray, List.set_cons_zero, List.set_cons_succ]
  refine wpAnyN_take (i := 15) (v := ?_) rfl (by as_aux_lemma => kernel_rfl) (by as_aux_lemma => kernel_rfl) (by as_aux_lemma => kernel_rfl) (by as_aux_lemma => kernel_rfl) (fun _ _ _ h => h) (by assumption) hS0 (Or.inl ⟨by rfl, ?_⟩) (fun hcl15 => ?_)
  rotate_left
  · (intro wS hSw; (try (obtain ⟨⟨p0, p1, p2, p3, p4, p5, p6, t0, t1, t2, t3, t4, t5, t6⟩, r0, r1, r2, r3⟩ := hSw)); go_simp; (try with_reducible rfl))
  clear hcl14
  try simp only [Act.put, List.getElem_toArray, List.getElem_cons_succ, List.getElem_cons_zero, List.setIfInBounds_toArray, List.set_cons_zero, List.set_cons_succ]
  refine wpAnyN_take (i := 16) (v := ?_) rfl (by as_aux_lemma => kernel_rfl) (by as_aux_lemma => kernel_rfl) (by as_aux_lemma => kernel_rfl) (by as_aux_lemma => kernel_rfl) (fun _ _ _ h => h) (by assumption) hS0 (Or.inl ⟨by rfl, ?_⟩) (fun hcl16 => ?_)
  rotate_left
  · (intro wS hSw; (try (obtain ⟨⟨p0, p1, p2, p3, p4, p5, p6, t0, t1, t2, t3, t4, t5, t6⟩, r0, r1, r2, r3⟩ := hSw)); go_simp; (try with_reducible rfl))
  clear hcl15
  try simp only [Act.put, List.getElem_toArray, List.getElem_cons_succ, List.getElem_cons_zero, List.setIfInBounds_toArray, List.set_cons_zero, List.set_cons_succ]
  refine wpAnyN_take (i := 17) (v := ?_) rfl (by as_aux_lemma => kernel_rfl) (by as_aux_lemma => kernel_rfl) (by as_aux_lemma => kernel_rfl) (by as_aux_lemma => kernel_rfl) (fun _ _ _ h => h) (by assumption) hS0 (Or.inl ⟨by rfl, ?_⟩) (fun hcl17 => ?_)
  rotate_left
  · (intro wS hSw; (try (obtain ⟨⟨p0, p1, p2, p3, p4, p5, p6, t0, t1, t2, t3, t4, t5, t6⟩, r0, r1, r2, r3⟩ := hSw)); go_simp; (try with_reducible rfl))
  clear hcl16
  try simp only [Act.put, List.getElem_toArray, List.getElem_cons_succ, List.getElem_cons_zero, List.setIfInBounds_toArray, List.set_cons_zero, List.set_cons_succ]
  refine wpAnyN_take (i := 18) (v := ?_) rfl (by as_aux_lemma => kernel_rfl) (by as_aux_lemma => kernel_rfl) (by as_aux_lemma => kernel_rfl) (by as_aux_lemma => kernel_rfl) (fun _ _ _ h => h) (by assumption) hS0 (Or.inl ⟨by rfl, ?_⟩) (fun hcl18 => ?_)
  rotate_left
  · (intro wS hSw; (try (obtain ⟨⟨p0, p1, p2, p3, p4, p5, p6, t0, t1, t2, t3, t4, t5, t6⟩, r0, r1, r2, r3⟩ := hSw)); go_simp; (try with_reducible rfl))
  clear hcl17
  try simp only [Act.put, List.getElem_toArray, List.getElem_cons_succ, List.getElem_cons_zero, List.setIfInBounds_toArray, List.set_cons_zero, List.set_cons_succ]
  refine wpAnyN_take (i := 19) (v := ?_) rfl (by as_aux_lemma => kernel_rfl) (by as_aux_lemma => kernel_rfl) (by as_aux_lemma => kernel_rfl) (by as_aux_lemma => kernel_rfl) (fun _ _ _ h => h) (by assumption) hS0 (Or.inl ⟨by rfl, ?_⟩) (fun hcl19 => ?_)
  rotate_left
  · (intro wS hSw; (try (obtain ⟨⟨p0, p1, p2, p3, p4, p5, p6, t0, t1, t2, t3, t4, t5, t6⟩, r0, r1, r2, r3⟩ := hSw)); go_simp; (try with_reducible rfl))
  clear hcl18
  try simp only [Act.put, List.getElem_toArray, List.getElem_cons_succ, List.getElem_cons_zero, List.setIfInBounds_toArray, List.set_cons_zero, List.set_cons_succ]
  refine wpAnyN_take (i := 20) (v := ?_) rfl (by as_aux_lemma => kernel_rfl) (by as_aux_lemma => kernel_rfl) (by as_aux_lemma => kernel_rfl) (by as_aux_lemma => kernel_rfl) (fun _ _ _ h => h) (by assumption) hS0 (Or.inl ⟨by rfl, ?_⟩) (fun hcl20 => ?_)
  rotate_left
  · (intro wS hSw; (try (obtain ⟨⟨p0, p1, p2, p3, p4, p5, p6, t0, t1, t2, t3, t4, t5, t6⟩, r0, r1, r2, r3⟩ := hSw)); go_simp; (try with_reducible rfl))
  clear hcl19
  try simp only [Act.put, List.getElem_toArray, List.getElem_cons_succ, List.getElem_cons_zero, List.setIfInBounds_toArray, List.set_cons_zero, List.set_cons_succ]
  refine wpAnyN_take (i := 21) (v := ?_) rfl (by as_aux_lemma => kernel_rfl) (by as_aux_lemma => kernel_rfl) (by as_aux_lemma => kernel_rfl) (by as_aux_lemma => kernel_rfl) (fun _ _ _ h => h) (by assumption) hS0 (Or.inl ⟨by rfl, ?_⟩) (fun hcl21 => ?_)
  rotate_left
  · (intro wS hSw; (try (obtain ⟨⟨p0, p1, p2, p3, p4, p5, p6, t0, t1, t2, t3, t4, t5, t6⟩, r0, r1, r2, r3⟩ := hSw)); go_simp; (try with_reducible rfl))
  clear hcl20
  try simp only [Act.put, List.getElem_toArray, List.getElem_cons_succ, List.getElem_cons_zero, List.setIfInBounds_toArray, List.set_cons_zero, List.set_cons_succ]
  refine wpAnyN_take (i := 23) (v := ?_) rfl (by as_aux_lemma => kernel_rfl) (by as_aux_lemma => kernel_rfl) (by as_aux_lemma => kernel_rfl) (by as_aux_lemma => kernel_rfl) (fun _ _ _ h => h) (by assumption) hS0 (Or.inl ⟨by rfl, ?_⟩) (fun hcl23 => ?_)
  rotate_left
  · (intro wS hSw; (try (obtain ⟨⟨p0, p1, p2, p3, p4, p5, p6, t0, t1, t2, t3, t4, t5, t6⟩, r0, r1, r2, r3⟩ := hSw)); go_simp; (try with_reducible rfl))
  clear hcl21
  try simp only [Act.put, List.getElem_toArray, List.getElem_cons_succ, List.getElem_cons_zero, List.setIfInBounds_toArray, List.set_cons_zero, List.set_cons_succ]
  refine wpAnyN_oneC (i := 22) (by as_aux_lemma => kernel_rfl) rfl (by assumption) (fun hcl22 K' hK' => ?_)
  clear hcl23
  go_simp
  go_at_call 16
  refine (HIA.out _).mono ?_
  rintro e x1 ⟨rfl, hs1⟩
  have hS1 := hS0.same hs1
  have hst1 := Same.trans hst0 hs1
  clear hst0 hs1
  refine hK'.out _ _ (fun _ => hS1) ?_
  clear hK' K'
  try simp only [Act.put, List.getElem_toArray, List.getElem_cons_succ, List.getElem_cons_zero, List.setIfInBounds_toArray, List.set_cons_zero, List.set_cons_succ]
  refine wpAnyN_oneC (i := 24) (by as_aux_lemma => kernel_rfl) rfl (by assumption) (fun hcl24 K' hK' => ?_)
  clear hcl22
  go_simp
  go_at_call 16
  refine (HIB.out _).mono ?_
  rintro e x2 ⟨rfl, hs2⟩
  have hS2 := hS1.same hs2
  have hst2 := Same.trans hst1 hs2
  clear hst1 hs2
  refine hK'.out _ _ (fun _ => hS2) ?_
  clear hK' K'
  try simp only [Act.put, List.getElem_toArray, List.getElem_cons_succ, List.getElem_cons_zero, List.setIfInBounds_toArray, List.set_cons_zero, List.set_cons_succ]
  refine wpAnyN_take (i := 25) (v := ?_) rfl (by as_aux_lemma => kernel_rfl) (by as_aux_lemma => kernel_rfl) (by as_aux_lemma => kernel_rfl) (by as_aux_lemma => kernel_rfl) (fun _ _ _ h => h) (by assumption) hS2 (Or.inl ⟨by rfl, ?_⟩) (fun hcl25 => ?_)
  rotate_left
  · (intro wS hSw; (try (obtain ⟨⟨p0, p1, p2, p3, p4, p5, p6, t0, t1, t2, t3, t4, t5, t6⟩, r0, r1, r2, r3⟩ := hSw)); go_simp; (try with_reducible rfl))
  clear hcl24
  try simp only [Act.put, List.getElem_toArray, List.getElem_cons_succ, List.getElem_cons_zero, List.setIfInBounds_toArray, List.set_cons_zero, List.set_cons_succ]
  refine wpAnyN_take (i := 26) (v := ?_) rfl (by as_aux_lemma => kernel_rfl) (by as_aux_lemma => kernel_rfl) (by as_aux_lemma => kernel_rfl) (by as_aux_lemma => kernel_rfl) (fun _ _ _ h => h) (by assumption) hS2 (Or.inl ⟨by rfl, ?_⟩) (fun hcl26 => ?_)
  rotate_left
  · (intro wS hSw; (try (obtain ⟨⟨p0, p1, p2, p3, p4, p5, p6, t0, t1, t2, t3, t4, t5, t6⟩, r0, r1, r2, r3⟩ := hSw)); go_simp; (try with_reducible rfl))
  clear hcl25
  try simp only [Act.put, List.getElem_toArray, List.getElem_cons_succ, List.getElem_cons_zero, List.setIfInBounds_toArray, List.set_cons_zero, List.set_cons_succ]
  refine wpAnyN_take (i := 27) (v := ?_) rfl (by as_aux_lemma => kernel_rfl) (by as_aux_lemma => kernel_rfl) (by as_aux_lemma => kernel_rfl) (by as_aux_lemma => kernel_rfl) (fun _ _ _ h => h) (by assumption) hS2 (Or.inl ⟨by rfl, ?_⟩) (fun hcl27 => ?_)
  rotate_left
  · (intro wS hSw; (try (obtain ⟨⟨p0, p1, p2, p3, p4, p5, p6, t0, t1, t2, t3, t4, t5, t6⟩, r0, r1, r2, r3⟩ := hSw)); go_simp; (try with_reducible rfl))
  clear hcl26
  try simp only [Act.put, List.getElem_toArray, List.getElem_cons_succ, List.getElem_cons_zero, List.setIfInBounds_toArray, List.set_cons_zero, List.set_cons_succ]
  refine wpAnyN_take (i := 28) (v := ?_) rfl (by as_aux_lemma => kernel_rfl) (by as_aux_lemma => kernel_rfl) (by as_aux_lemma => kernel_rfl) (by as_aux_lemma => kernel_rfl) (fun _ _ _ h => h) (by assumption) hS2 (Or.inl ⟨by rfl, ?_⟩) (fun hcl28 => ?_)
  rotate_left
  · (intro wS hSw; (try (obtain ⟨⟨p0, p1, p2, p3, p4, p5, p6, t0, t1, t2, t3, t4, t5, t6⟩, r0, r1, r2, r3⟩ := hSw)); go_simp; (try with_reducible rfl))
  clear hcl27
  try simp only [Act.put, List.getElem_toArray, List.getElem_cons_succ, List.getElem_cons_zero, List.setIfInBounds_toArray, List.set_cons_zero, List.set_cons_succ]
  refine wpAnyN_take (i := 30) (v := ?_) rfl (by as_aux_lemma => kernel_rfl) (by as_aux_lemma => kernel_rfl) (by as_aux_lemma => kernel_rfl) (by as_aux_lemma => kernel_rfl) (fun _ _ _ h => h) (by assumption) hS2 (Or.inl ⟨by rfl, ?_⟩) (fun hcl30 => ?_)
  rotate_left
  · (intro wS hSw; (try (obtain ⟨⟨p0, p1, p2, p3, p4, p5, p6, t0, t1, t2, t3, t4, t5, t6⟩, r0, r1, r2, r3⟩ := hSw)); go_simp; (try with_reducible rfl))
  clear hcl28
  try simp only [Act.put, List.getElem_toArray, List.getElem_cons_succ, List.getElem_cons_zero, List.setIfInBounds_toArray, List.set_cons_zero, List.set_cons_succ]
  refine wpAnyN_oneC (i := 29) (by as_aux_lemma => kernel_rfl) rfl (by assumption) (fun hcl29 K' hK' => ?_)
  clear hcl30
  go_simp
  go_at_call 17
  refine (HUA.out _).mono ?_
  rintro e x3 ⟨rfl, hs3⟩
  have hS3 := hS2.same hs3
  have hst3 := Same.trans hst2 hs3
  clear hst2 hs3
  refine hK'.out _ _ (fun _ => hS3) ?_
  clear hK' K'
  try simp only [Act.put, List.getElem_toArray, List.getElem_cons_succ, List.getElem_cons_zero, List.setIfInBounds_toArray, List.set_cons_zero, List.set_cons_succ]
  refine wpAnyN_oneC (i := 31) (by as_aux_lemma => kernel_rfl) rfl (by assumption) (fun hcl31 K' hK' => ?_)
  clear hcl29
  go_simp
  go_at_call 17
  refine (HUB.out _).mono ?_
  rintro e x4 ⟨rfl, hs4⟩
  have hS4 := hS3.same hs4
  have hst4 := Same.trans hst3 hs4
  clear hst3 hs4
  refine hK'.out _ _ (fun _ => hS4) ?_
  clear hK' K'
  try simp only [Act.put, List.getElem_toArray, List.getElem_cons_succ, List.getElem_cons_zero, List.setIfInBounds_toArray, List.set_cons_zero, List.set_cons_succ]
  refine wpAnyN_take (i := 32) (v := ?_) rfl (by as_aux_lemma => kernel_rfl) (by as_aux_lemma => kernel_rfl) (by as_aux_lemma => kernel_rfl) (by as_aux_lemma => kernel_rfl) (fun _ _ _ h => h) (by assumption) hS4 (Or.inl ⟨by rfl, ?_⟩) (fun hcl32 => ?_)
  rotate_left
  · (intro wS hSw; (try (obtain ⟨⟨p0, p1, p2, p3, p4, p5, p6, t0, t1, t2, t3, t4, t5, t6⟩, r0, r1, r2, r3⟩ := hSw)); go_simp; (try with_reducible rfl))
  clear hcl31
  try simp only [Act.put, List.getElem_toArray, List.getElem_cons_succ, List.getElem_cons_zero, List.setIfInBounds_toArray, List.set_cons_zero, List.set_cons_succ]
  refine wpAnyN_take (i := 33) (v := ?_) rfl (by as_aux_lemma => kernel_rfl) (by as_aux_lemma => kernel_rfl) (by as_aux_lemma => kernel_rfl) (by as_aux_lemma => kernel_rfl) (fun _ _ _ h => h) (by assumption) hS4 (Or.inl ⟨by rfl, ?_⟩) (fun hcl33 => ?_)
  rotate_left
  · (intro wS hSw; (try (obtain ⟨⟨p0, p1, p2, p3, p4, p5, p6, t0, t1, t2, t3, t4, t5, t6⟩, r0, r1, r2, r3⟩ := hSw)); go_simp; (try with_reducible rfl))
  clear hcl32
  try simp only [Act.put, List.getElem_toArray, List.getElem_cons_succ, List.getElem_cons_zero, List.setIfInBounds_toArray, List.set_cons_zero, List.set_cons_succ]
  refine wpAnyN_take (i := 34) (v := ?_) rfl (by as_aux_lemma => kernel_rfl) (by as_aux_lemma => kernel_rfl) (by as_aux_lemma => kernel_rfl) (by as_aux_lemma => kernel_rfl) (fun _ _ _ h => h) (by assumption) hS4 (Or.inl ⟨by rfl, ?_⟩) (fun hcl34 => ?_)
  rotate_left
  · (intro wS hSw; (try (obtain ⟨⟨p0, p1, p2, p3, p4, p5, p6, t0, t1, t2, t3, t4, t5, t6⟩, r0, r1, r2, r3⟩ := hSw)); go_simp; (try with_reducible rfl))
  clear hcl33
  try simp only [Act.put, List.getElem_toArray, List.getElem_cons_succ, List.getElem_cons_zero, List.setIfInBounds_toArray, List.set_cons_zero, List.set_cons_succ]
  refine wpAnyN_take (i := 35) (v := ?_) rfl (by as_aux_lemma => kernel_rfl) (by as_aux_lemma => kernel_rfl) (by as_aux_lemma => kernel_rfl) (by as_aux_lemma => kernel_rfl) (fun _ _ _ h => h) (by assumption) hS4 (Or.inl ⟨by rfl, ?_⟩) (fun hcl35 => ?_)
  rotate_left
  · (intro wS hSw; (try (obtain ⟨⟨p0, p1, p2, p3, p4, p5, p6, t0, t1, t2, t3, t4, t5, t6⟩, r0, r1, r2, r3⟩ := hSw)); go_simp; (try with_reducible rfl))
  clear hcl34
  try simp only [Act.put, List.getElem_toArray, List.getElem_cons_succ, List.getElem_cons_zero, List.setIfInBounds_toArray, List.set_cons_zero, List.set_cons_succ]
  refine wpAnyN_take (i := 37) (v := ?_) rfl (by as_aux_lemma => kernel_rfl) (by as_aux_lemma => kernel_rfl) (by as_aux_lemma => kernel_rfl) (by as_aux_lemma => kernel_rfl) (fun _ _ _ h => h) (by assumption) hS4 (Or.inl ⟨by rfl, ?_⟩) (fun hcl37 => ?_)
  rotate_left
  · (intro wS hSw; (try (obtain ⟨⟨p0, p1, p2, p3, p4, p5, p6, t0, t1, t2, t3, t4, t5, t6⟩, r0, r1, r2, r3⟩ := hSw)); go_simp; (try with_reducible rfl))
  clear hcl35
  try simp only [Act.put, List.getElem_toArray, List.getElem_cons_succ, List.getElem_cons_zero, List.setIfInBounds_toArray, List.set_cons_zero, List.set_cons_succ]
  refine wpAnyN_take (i := 40) (v := ?_) rfl (by as_aux_lemma => kernel_rfl) (by as_aux_lemma => kernel_rfl) (by as_aux_lemma => kernel_rfl) (by as_aux_lemma => kernel_rfl) (fun _ _ _ h => h) (by assumption) hS4 (Or.inl ⟨by rfl, ?_⟩) (fun hcl40 => ?_)
  rotate_left
  · (intro wS hSw; (try (obtain ⟨⟨p0, p1, p2, p3, p4, p5, p6, t0, t1, t2, t3, t4, t5, t6⟩, r0, r1, r2, r3⟩ := hSw)); go_simp; (try with_reducible rfl))
  clear hcl37
  try simp only [Act.put, List.getElem_toArray, List.getElem_cons_succ, List.getElem_cons_zero, List.setIfInBounds_toArray, List.set_cons_zero, List.set_cons_succ]
  refine wpAnyN_take (i := 41) (v := ?_) rfl (by as_aux_lemma => kernel_rfl) (by as_aux_lemma => kernel_rfl) (by as_aux_lemma => kernel_rfl) (by as_aux_lemma => kernel_rfl) (fun _ _ _ h => h) (by assumption) hS4 (Or.inl ⟨by rfl, ?_⟩) (fun hcl41 => ?_)
  rotate_left
  · (intro wS hSw; (try (obtain ⟨⟨p0, p1, p2, p3, p4, p5, p6, t0, t1, t2, t3, t4, t5, t6⟩, r0, r1, r2, r3⟩ := hSw)); go_simp; (try with_reducible rfl))
  clear hcl40
  try simp only [Act.put, List.getElem_toArray, List.getElem_cons_succ, List.getElem_cons_zero, List.setIfInBounds_toArray, List.set_cons_zero, List.set_cons_succ]
  refine wpAnyN_take (i := 42) (v := ?_) rfl (by as_aux_lemma => kernel_rfl) (by as_aux_lemma => kernel_rfl) (by as_aux_lemma => kernel_rfl) (by as_aux_lemma => kernel_rfl) (fun _ _ _ h => h) (by assumption) hS4 (Or.inl ⟨by rfl, ?_⟩) (fun hcl42 => ?_)
  rotate_left
  · (intro wS hSw; (try (obtain ⟨⟨p0, p1, p2, p3, p4, p5, p6, t0, t1, t2, t3, t4, t5, t6⟩, r0, r1, r2, r3⟩ := hSw)); go_simp; (try with_reducible rfl))
  clear hcl41
  try simp only [Act.put, List.getElem_toArray, List.getElem_cons_succ, List.getElem_cons_zero, List.setIfInBounds_toArray, List.set_cons_zero, List.set_cons_succ]
  refine wpAnyN_oneC (i := 36) (by as_aux_lemma => kernel_rfl) rfl (by assumption) (fun hcl36 K' hK' => ?_)
  clear hcl42
  go_simp
  go_at_call 16
  refine (HIA.out _).mono ?_
  rintro e x5 ⟨rfl, hs5⟩
  have hS5 := hS4.same hs5
  have hst5 := Same.trans hst4 hs5
  clear hst4 hs5
  refine hK'.out _ _ (fun _ => hS5) ?_
  clear hK' K'
  try simp only [Act.put, List.getElem_toArray, List.getElem_cons_succ, List.getElem_cons_zero, List.setIfInBounds_toArray, List.set_cons_zero, List.set_cons_succ]
  refine wpAnyN_oneC (i := 38) (by as_aux_lemma => kernel_rfl) rfl (by assumption) (fun hcl38 K' hK' => ?_)
  clear hcl36
  go_simp
  go_at_call 17
  refine (HUA.out _).mono ?_
  rintro e x6 ⟨rfl, hs6⟩
  have hS6 := hS5.same hs6
  have hst6 := Same.trans hst5 hs6
  clear hst5 hs6
  refine hK'.out _ _ (fun _ => hS6) ?_
  clear hK' K'
  try simp only [Act.put, List.getElem_toArray, List.getElem_cons_succ, List.getElem_cons_zero, List.setIfInBounds_toArray, List.set_cons_zero, List.set_cons_succ]
  refine wpAnyN_take (i := 39) (v := ?_) rfl (by as_aux_lemma => kernel_rfl) (by as_aux_lemma => kernel_rfl) (by as_aux_lemma => kernel_rfl) (by as_aux_lemma => kernel_rfl) (fun _ _ _ h => h) (by assumption) hS6 (Or.inl ⟨by rfl, ?_⟩) (fun hcl39 => ?_)
  rotate_left
  · (intro wS hSw; (try (obtain ⟨⟨p0, p1, p2, p3, p4, p5, p6, t0, t1, t2, t3, t4, t5, t6⟩, r0, r1, r2, r3⟩ := hSw)); go_simp; (try with_reducible rfl))
  clear hcl38
  try simp only [Act.put, List.getElem_toArray, List.getElem_cons_succ, List.getElem_cons_zero, List.setIfInBounds_toArray, List.set_cons_zero, List.set_cons_succ]
  refine wpAnyN_take (i := 43) (v := ?_) rfl (by as_aux_lemma => kernel_rfl) (by as_aux_lemma => kernel_rfl) (by as_aux_lemma => kernel_rfl) (by as_aux_lemma => kernel_rfl) (fun _ _ _ h => h) (by assumption) hS6 (Or.inl ⟨by rfl, ?_⟩) (fun hcl43 => ?_)
  rotate_left
  · (intro wS hSw; (try (obtain ⟨⟨p0, p1, p2, p3, p4, p5, p6, t0, t1, t2, t3, t4, t5, t6⟩, r0, r1, r2, r3⟩ := hSw)); go_simp; (try with_reducible rfl))
  clear hcl39
  try simp only [Act.put, List.getElem_toArray, List.getElem_cons_succ, List.getElem_cons_zero, List.setIfInBounds_toArray, List.set_cons_zero, List.set_cons_succ]
  refine wpAnyN_take (i := 44) (v := ?_) rfl (by as_aux_lemma => kernel_rfl) (by as_aux_lemma => kernel_rfl) (by as_aux_lemma => kernel_rfl) (by as_aux_lemma => kernel_rfl) (fun _ _ _ h => h) (by assumption) hS6 (Or.inl ⟨by rfl, ?_⟩) (fun hcl44 => ?_)
  rotate_left
  · (intro wS hSw; (try (obtain ⟨⟨p0, p1, p2, p3, p4, p5, p6, t0, t1, t2, t3, t4, t5, t6⟩, r0, r1, r2, r3⟩ := hSw)); go_simp; (try with_reducible rfl))
  clear hcl43
  try simp only [Act.put, List.getElem_toArray, List.getElem_cons_succ, List.getElem_cons_zero, List.setIfInBounds_toArray, List.set_cons_zero, List.set_cons_succ]
  refine wpAnyN_take (i := 45) (v := ?_) rfl (by as_aux_lemma => kernel_rfl) (by as_aux_lemma => kernel_rfl) (by as_aux_lemma => kernel_rfl) (by as_aux_lemma => kernel_rfl) (fun _ _ _ h => h) (by assumption) hS6 (Or.inl ⟨by rfl, ?_⟩) (fun hcl45 => ?_)
  rotate_left
  · (intro wS hSw; (try (obtain ⟨⟨p0, p1, p2, p3, p4, p5, p6, t0, t1, t2, t3, t4, t5, t6⟩, r0, r1, r2, r3⟩ := hSw)); go_simp; (try with_reducible rfl))
  clear hcl44
  try simp only [Act.put, List.getElem_toArray, List.getElem_cons_succ, List.getElem_cons_zero, List.setIfInBounds_toArray, List.set_cons_zero, List.set_cons_succ]
  refine wpAnyN_oneC (i := 46) (by as_aux_lemma => kernel_rfl) rfl (by assumption) (fun hcl46 K' hK' => ?_)
  clear hcl45
  go_simp
  go_at_call 11
  refine (known_any _ (HT.out.same hst6)).mono ?_
  rintro e x7 ⟨rfl, hs7⟩
  have hS7 := hS6.same hs7
  have hst7 := Same.trans hst6 hs7
  clear hst6 hs7
  refine hK'.out _ _ (fun _ => hS7) ?_
  clear hK' K'
  try simp only [Act.put, List.getElem_toArray, List.getElem_cons_succ, List.getElem_cons_zero, List.setIfInBounds_toArray, List.set_cons_zero, List.set_cons_succ]
  refine wpAnyN_take (i := 47) (v := ?_) rfl (by as_aux_lemma => kernel_rfl) (by as_aux_lemma => kernel_rfl) (by as_aux_lemma => kernel_rfl) (by as_aux_lemma => kernel_rfl) (fun _ _ _ h => h) (by assumption) hS7 (Or.inl ⟨by rfl, ?_⟩) (fun hcl47 => ?_)
  rotate_left
  · (intro wS hSw; (try (obtain ⟨⟨p0, p1, p2, p3, p4, p5, p6, t0, t1, t2, t3, t4, t5, t6⟩, r0, r1, r2, r3⟩ := hSw)); go_simp; (try with_reducible rfl))
  clear hcl46
  try simp only [Act.put, List.getElem_toArray, List.getElem_cons_succ, List.getElem_cons_zero, List.setIfInBounds_toArray, List.set_cons_zero, List.set_cons_succ]
  refine wpAnyN_take (i := 48) (v := ?_) rfl (by as_aux_lemma => kernel_rfl) (by as_aux_lemma => kernel_rfl) (by as_aux_lemma => kernel_rfl) (by as_aux_lemma => kernel_rfl) (fun _ _ _ h => h) (by assumption) hS7 (Or.inl ⟨by rfl, ?_⟩) (fun hcl48 => ?_)
  rotate_left
  · (intro wS hSw; (try (obtain ⟨⟨p0, p1, p2, p3, p4, p5, p6, t0, t1, t2, t3, t4, t5, t6⟩, r0, r1, r2, r3⟩ := hSw)); go_simp; (try with_reducible rfl))
  clear hcl47
  try simp only [Act.put, List.getElem_toArray, List.getElem_cons_succ, List.getElem_cons_zero, List.setIfInBounds_toArray, List.set_cons_zero, List.set_cons_succ]
  refine wpAnyN_done (by as_aux_lemma => kernel_rfl) ?_ _
  refine NoPanic.normal ?_
  go_wp2_with fail
  go_ret
  exact ⟨rfl, hst7⟩
theorem cdbLong_walk (w : World) (hT : Tab15 w) (writes : Bool) (lba : Int) (hl : 0 ≤ lba ∧ lba ≤ 4294967295) (n : Int) (hn : 0 ≤ n ∧ n ≤ 65535) :
    Calls Tryd.prog 5 #[.bool writes, .int .u32 lba, .int .u16 n] w fun e w' => e = .returned (.bool true) ∧ Same w w' := by
  cases writes
  · exact cdbLong_0 w hT lba hl n hn
  · exact cdbLong_1 w hT lba hl n hn
end Go.Proofs.YtmaofhiapkfoaaaDoor
