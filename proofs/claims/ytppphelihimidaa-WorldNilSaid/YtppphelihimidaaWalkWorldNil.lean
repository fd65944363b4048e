/- The walk of WorldNil. -/
import Derived.Test.YtppphelihimidaaWorSm
import Derived.Test.YtppphelihimidaaWorX
import Derived.Test.YtppphelihimidaaWorQ
import Derived.Test.YtppphelihimidaaWorKn
import Derived.Test.YtppphelihimidaaOpenWOp
import Derived.Test.YtppphelihimidaaOrd
namespace Go.Proofs.Ytppphelihimidaa
open Go.RowKit
set_option linter.unusedVariables false
set_option linter.unusedSimpArgs false
attribute [local go_sem ↓] Go.wp_at_zero Go.wp_at_succ
def Z3 (W : World) (b : Nat) : Prop := W.cell? ⟨b, 0, none⟩ = some (.int .i64 0) ∧ W.cell? ⟨b, 1, none⟩ = some (.int .i64 0) ∧ W.cell? ⟨b, 2, none⟩ = some (.slice none 0 0)
theorem Z3.same {W W' : World} {b : Nat} (h : Z3 W b) (hs : Same W W') : Z3 W' b := ⟨hs.cell h.1 (fun h => h), hs.cell h.2.1 (fun h => h), hs.cell h.2.2 (fun h => h)⟩
theorem Z3.new (W : World) (t : TypeId) (B : Nat) (hB : B = W.heap.size) : Z3 (W.alloc (.cells #[.int .i64 0, .int .i64 0, .slice none 0 0] t)) B := (Box3.new W (.int .i64 0) (.int .i64 0) (.slice none 0 0) t B hB).1
/-- What abides. -/
def NS (w : World) (p x y z : Nat) (n : Int) (v : Value) (W : World) : Prop := Same w W ∧ (W.cell? ⟨p, 2, none⟩ = some (.int .i64 n) ∧ W.cell? ⟨p, 3, none⟩ = some v) ∧ Z3 W x ∧ Z3 W y ∧ Z3 W z
theorem NS.same {w W W' : World} {p x y z : Nat} {n : Int} {v : Value} (h : NS w p x y z n v W) (hs : Same W W') : NS w p x y z n v W' :=
  ⟨Same.trans h.1 hs, ⟨hs.cell h.2.1.1 (fun h => h), hs.cell h.2.1.2 (fun h => h)⟩, h.2.2.1.same hs, h.2.2.2.1.same hs, h.2.2.2.2.same hs⟩
set_option maxRecDepth 100000 in
set_option maxHeartbeats 8000000 in
theorem worldNil_walk (w : World) (v : Value) (o : WOp) (h : WOpIn w v o) :
    Calls Try.prog 6 #[v] w fun e w' => e = .returned (.bool true) ∧ Same w w' := by
  obtain ⟨rfl, ⟨k1, k2⟩, ⟨f1, f2⟩, ⟨n1, n2⟩, hb, hbl⟩ := h
  obtain ⟨A, cap, hv, -⟩ := id hb
  rw [hv]
  have hs0 := (Upd.refl (fun _ => False) w).alloc (.cells #[.int .i64 o.kind, .int .i64 o.from_, .int .i64 o.n, .slice A o.bB.length cap] 37)
  have hn0 := heap_alloc_new w (.cells #[.int .i64 o.kind, .int .i64 o.from_, .int .i64 o.n, .slice A o.bB.length cap] 37)
  have c2 : (w.alloc (.cells #[.int .i64 o.kind, .int .i64 o.from_, .int .i64 o.n, .slice A o.bB.length cap] 37)).cell? ⟨w.heap.size, 2, none⟩ = some (.int .i64 o.n) := by rw [cell_of_row _ _ _ _ _ (0, 0) hn0]; rfl
  have c3 : (w.alloc (.cells #[.int .i64 o.kind, .int .i64 o.from_, .int .i64 o.n, .slice A o.bB.length cap] 37)).cell? ⟨w.heap.size, 3, none⟩ = some (.slice A o.bB.length cap) := by rw [cell_of_row _ _ _ _ _ (0, 0) hn0]; rfl
  have HS0 := Lib.hid hs0
  clear hs0 hn0 hv hb hbl
  go_enter Try.func6, Try.ntmps6
  go_wp2_with fail
  refine (look_nil o.n _).mono ?_
  rintro e w1 ⟨rfl, hs1⟩
  unfold noLet letV
  have hx1 := (Upd.refl (fun _ => False) w1).alloc (.cells #[.int .i64 0, .int .i64 0, .slice none 0 0] 40)
  have c2 := hx1.cell (hs1.cell c2 (fun h => h)) (fun h => h)
  have c3 := hx1.cell (hs1.cell c3 (fun h => h)) (fun h => h)
  have HS1 := Lib.hid (Same.trans (Same.trans HS0.out hs1) hx1)
  have BX := Lib.hid (Z3.new w1 40 _ rfl)
  clear hs1 hx1
  go_wp2_with fail
  refine (take_err _ o.n 2 (by decide) _ (fun w' _ => look_nil o.n w')).mono ?_
  rintro e w2 ⟨rfl, hs2⟩
  unfold noLet letV
  have hS : NS w w.heap.size w1.heap.size w2.heap.size (w2.heap.size + 1) o.n (.slice A o.bB.length cap) (((w2.alloc (.cells #[.int .i64 0, .int .i64 0, .slice none 0 0] 40)).alloc (.cells #[.int .i64 0, .int .i64 0, .slice none 0 0] 51)).drew) := by
    have hx2 := (((Upd.refl (fun _ => False) w2).alloc (.cells #[.int .i64 0, .int .i64 0, .slice none 0 0] 40)).alloc (.cells #[.int .i64 0, .int .i64 0, .slice none 0 0] 51)).drew
    have hs3 := Same.trans hs2 hx2
    exact ⟨Same.trans HS1.out hs3, ⟨hs3.cell c2 (fun h => h), hs3.cell c3 (fun h => h)⟩, BX.out.same hs3, (Z3.new w2 40 _ rfl).same ((Upd.refl (fun _ => False) _).alloc (.cells #[.int .i64 0, .int .i64 0, .slice none 0 0] 51)).drew, (Z3.new (w2.alloc (.cells #[.int .i64 0, .int .i64 0, .slice none 0 0] 40)) 51 _ (by simp)).same (Upd.refl (fun _ => False) _).drew⟩
  clear hs2 c2 c3 BX HS0 HS1
  go_wp2_with fail
  refine wp_region_noPanic ?_
  refine wp_region_need (NS w w.heap.size w1.heap.size w2.heap.size (w2.heap.size + 1) o.n (.slice A o.bB.length cap)) (fun _ => true) (by as_aux_lemma => kernel_rfl) (fun hcl => ?_)
  refine wpAnyN_take (i := 0) (v := ?_) rfl (by as_aux_lemma => kernel_rfl) (by as_aux_lemma => kernel_rfl) (by as_aux_lemma => kernel_rfl) (by as_aux_lemma => kernel_rfl) (fun _ _ _ h => h) (by assumption) hS (Or.inl ⟨by rfl, ?_⟩) (fun hcl0 => ?_)
  rotate_left
  · (intro wS hSw; obtain ⟨-, ⟨c2, c3⟩, ⟨x0, x1, x2⟩, ⟨y0, y1, y2⟩, ⟨z0, z1, z2⟩⟩ := hSw; go_simp; (try with_reducible rfl))
  clear hcl
  try simp only [Act.put, List.getElem_toArray, List.getElem_cons_succ, List.getElem_cons_zero, List.setIfInBounds_toArray, List.set_cons_zero, List.set_cons_succ]
  refine wpAnyN_take (i := 2) (v := ?_) rfl (by as_aux_lemma => kernel_rfl) (by as_aux_lemma => kernel_rfl) (by as_aux_lemma => kernel_rfl) (by as_aux_lemma => kernel_rfl) (fun _ _ _ h => h) (by assumption) hS (Or.inl ⟨by rfl, ?_⟩) (fun hcl2 => ?_)
  rotate_left
  · (intro wS hSw; obtain ⟨-, ⟨c2, c3⟩, ⟨x0, x1, x2⟩, ⟨y0, y1, y2⟩, ⟨z0, z1, z2⟩⟩ := hSw; go_simp; (try with_reducible rfl))
  clear hcl0
  try simp only [Act.put, List.getElem_toArray, List.getElem_cons_succ, List.getElem_cons_zero, List.setIfInBounds_toArray, List.set_cons_zero, List.set_cons_succ]
  refine wpAnyN_oneC (i := 1) (by as_aux_lemma => kernel_rfl) rfl (by assumption) (fun hcl1 K' hK' => ?_)
  clear hcl2
  go_simp
  go_at_call 24
  refine (as_any 0 0 none 0 0 _).mono ?_
  rintro e w101 ⟨rfl, hs1⟩
  replace hS := hS.same hs1
  clear hs1
  refine hK'.out _ _ (fun _ => hS) ?_
  clear hK' K'
  refine wpAnyN_oneC (i := 3) (by as_aux_lemma => kernel_rfl) rfl (by assumption) (fun hcl3 K' hK' => ?_)
  clear hcl1
  go_simp
  go_at_call 23
  refine (same_any 0 0 0 0 _ _ [] [] _ (Bs.nil _) (Bs.nil _)).mono ?_
  rintro e w103 ⟨rfl, hs3⟩
  replace hS := hS.same hs3
  clear hs3
  simp only [beq_self_eq_true, Bool.and_self, eqB_self]
  refine hK'.out _ _ (fun _ => hS) ?_
  clear hK' K'
  refine wpAnyN_oneC (i := 4) (by as_aux_lemma => kernel_rfl) rfl (by assumption) (fun hcl4 K' hK' => ?_)
  clear hcl3
  go_simp
  refine hK'.out _ _ (fun _ => hS) ?_
  clear hK' K'
  refine wpAnyN_oneC (i := 5) (by as_aux_lemma => kernel_rfl) rfl (by assumption) (fun hcl5 K' hK' => ?_)
  clear hcl4
  go_simp
  refine hK'.out _ _ (fun _ => hS) ?_
  clear hK' K'
  refine wpAnyN_oneC (i := 6) (by as_aux_lemma => kernel_rfl) rfl (by assumption) (fun hcl6 K' hK' => ?_)
  clear hcl5
  go_simp
  refine hK'.out _ _ (fun _ => hS) ?_
  clear hK' K'
  refine wpAnyN_oneC (i := 7) (by as_aux_lemma => kernel_rfl) rfl (by assumption) (fun hcl7 K' hK' => ?_)
  clear hcl6
  go_simp
  refine hK'.out _ _ (fun _ => hS) ?_
  clear hK' K'
  refine wpAnyN_oneC (i := 8) (by as_aux_lemma => kernel_rfl) rfl (by assumption) (fun hcl8 K' hK' => ?_)
  clear hcl7
  go_simp
  refine hK'.out _ _ (fun _ => hS) ?_
  clear hK' K'
  refine wpAnyN_take (i := 9) (v := ?_) rfl (by as_aux_lemma => kernel_rfl) (by as_aux_lemma => kernel_rfl) (by as_aux_lemma => kernel_rfl) (by as_aux_lemma => kernel_rfl) (fun _ _ _ h => h) (by assumption) hS (Or.inl ⟨by rfl, ?_⟩) (fun hcl9 => ?_)
  rotate_left
  · (intro wS hSw; obtain ⟨-, ⟨c2, c3⟩, ⟨x0, x1, x2⟩, ⟨y0, y1, y2⟩, ⟨z0, z1, z2⟩⟩ := hSw; go_simp; (try with_reducible rfl))
  clear hcl8
  try simp only [Act.put, List.getElem_toArray, List.getElem_cons_succ, List.getElem_cons_zero, List.setIfInBounds_toArray, List.set_cons_zero, List.set_cons_succ]
  refine wpAnyN_take (i := 11) (v := ?_) rfl (by as_aux_lemma => kernel_rfl) (by as_aux_lemma => kernel_rfl) (by as_aux_lemma => kernel_rfl) (by as_aux_lemma => kernel_rfl) (fun _ _ _ h => h) (by assumption) hS (Or.inl ⟨by rfl, ?_⟩) (fun hcl11 => ?_)
  rotate_left
  · (intro wS hSw; obtain ⟨-, ⟨c2, c3⟩, ⟨x0, x1, x2⟩, ⟨y0, y1, y2⟩, ⟨z0, z1, z2⟩⟩ := hSw; go_simp; (try with_reducible rfl))
  clear hcl9
  try simp only [Act.put, List.getElem_toArray, List.getElem_cons_succ, List.getElem_cons_zero, List.setIfInBounds_toArray, List.set_cons_zero, List.set_cons_succ]
  refine wpAnyN_oneC (i := 10) (by as_aux_lemma => kernel_rfl) rfl (by assumption) (fun hcl10 K' hK' => ?_)
  clear hcl11
  go_simp
  go_at_call 24
  refine (as_any 0 0 none 0 0 _).mono ?_
  rintro e w110 ⟨rfl, hs10⟩
  replace hS := hS.same hs10
  clear hs10
  refine hK'.out _ _ (fun _ => hS) ?_
  clear hK' K'
  refine wpAnyN_oneC (i := 12) (by as_aux_lemma => kernel_rfl) rfl (by assumption) (fun hcl12 K' hK' => ?_)
  clear hcl10
  go_simp
  go_at_call 23
  refine (same_any 0 0 0 0 _ _ [] [] _ (Bs.nil _) (Bs.nil _)).mono ?_
  rintro e w112 ⟨rfl, hs12⟩
  replace hS := hS.same hs12
  clear hs12
  simp only [beq_self_eq_true, Bool.and_self, eqB_self]
  refine hK'.out _ _ (fun _ => hS) ?_
  clear hK' K'
  refine wpAnyN_oneC (i := 13) (by as_aux_lemma => kernel_rfl) rfl (by assumption) (fun hcl13 K' hK' => ?_)
  clear hcl12
  go_simp
  refine hK'.out _ _ (fun _ => hS) ?_
  clear hK' K'
  refine wpAnyN_oneC (i := 14) (by as_aux_lemma => kernel_rfl) rfl (by assumption) (fun hcl14 K' hK' => ?_)
  clear hcl13
  go_simp
  refine hK'.out _ _ (fun _ => hS) ?_
  clear hK' K'
  refine wpAnyN_oneC (i := 15) (by as_aux_lemma => kernel_rfl) rfl (by assumption) (fun hcl15 K' hK' => ?_)
  clear hcl14
  go_simp
  refine hK'.out _ _ (fun _ => hS) ?_
  clear hK' K'
  refine wpAnyN_oneC (i := 16) (by as_aux_lemma => kernel_rfl) rfl (by assumption) (fun hcl16 K' hK' => ?_)
  clear hcl15
  go_simp
  refine hK'.out _ _ (fun _ => hS) ?_
  clear hK' K'
  refine wpAnyN_oneC (i := 17) (by as_aux_lemma => kernel_rfl) rfl (by assumption) (fun hcl17 K' hK' => ?_)
  clear hcl16
  go_simp
  refine hK'.out _ _ (fun _ => hS) ?_
  clear hK' K'
  refine wpAnyN_oneC (i := 18) (by as_aux_lemma => kernel_rfl) rfl (by assumption) (fun hcl18 K' hK' => ?_)
  clear hcl17
  go_simp
  refine hK'.out _ _ (fun _ => hS) ?_
  clear hK' K'
  refine wpAnyN_take (i := 19) (v := ?_) rfl (by as_aux_lemma => kernel_rfl) (by as_aux_lemma => kernel_rfl) (by as_aux_lemma => kernel_rfl) (by as_aux_lemma => kernel_rfl) (fun _ _ _ h => h) (by assumption) hS (Or.inl ⟨by rfl, ?_⟩) (fun hcl19 => ?_)
  rotate_left
  · (intro wS hSw; obtain ⟨-, ⟨c2, c3⟩, ⟨x0, x1, x2⟩, ⟨y0, y1, y2⟩, ⟨z0, z1, z2⟩⟩ := hSw; go_simp; (try with_reducible rfl))
  clear hcl18
  try simp only [Act.put, List.getElem_toArray, List.getElem_cons_succ, List.getElem_cons_zero, List.setIfInBounds_toArray, List.set_cons_zero, List.set_cons_succ]
  refine wpAnyN_take (i := 20) (v := ?_) rfl (by as_aux_lemma => kernel_rfl) (by as_aux_lemma => kernel_rfl) (by as_aux_lemma => kernel_rfl) (by as_aux_lemma => kernel_rfl) (fun _ _ _ h => h) (by assumption) hS (Or.inl ⟨by rfl, ?_⟩) (fun hcl20 => ?_)
  rotate_left
  · (intro wS hSw; obtain ⟨-, ⟨c2, c3⟩, ⟨x0, x1, x2⟩, ⟨y0, y1, y2⟩, ⟨z0, z1, z2⟩⟩ := hSw; go_simp; (try with_reducible rfl))
  clear hcl19
  try simp only [Act.put, List.getElem_toArray, List.getElem_cons_succ, List.getElem_cons_zero, List.setIfInBounds_toArray, List.set_cons_zero, List.set_cons_succ]
  refine wpAnyN_take (i := 21) (v := ?_) rfl (by as_aux_lemma => kernel_rfl) (by as_aux_lemma => kernel_rfl) (by as_aux_lemma => kernel_rfl) (by as_aux_lemma => kernel_rfl) (fun _ _ _ h => h) (by assumption) hS (Or.inl ⟨by rfl, ?_⟩) (fun hcl21 => ?_)
  rotate_left
  · (intro wS hSw; obtain ⟨-, ⟨c2, c3⟩, ⟨x0, x1, x2⟩, ⟨y0, y1, y2⟩, ⟨z0, z1, z2⟩⟩ := hSw; go_simp; (try with_reducible rfl))
  clear hcl20
  try simp only [Act.put, List.getElem_toArray, List.getElem_cons_succ, List.getElem_cons_zero, List.setIfInBounds_toArray, List.set_cons_zero, List.set_cons_succ]
  refine wpAnyN_oneC (i := 22) (by as_aux_lemma => kernel_rfl) rfl (by assumption) (fun hcl22 K' hK' => ?_)
  clear hcl21
  go_simp
  go_at_call 13
  refine (send_nil 0 0 _ _).mono ?_
  rintro e w122 ⟨rfl, hs22⟩
  replace hS := hS.same hs22
  clear hs22
  refine hK'.out _ _ (fun _ => hS) ?_
  clear hK' K'
  refine wpAnyN_oneC (i := 23) (by as_aux_lemma => kernel_rfl) rfl (by assumption) (fun hcl23 K' hK' => ?_)
  clear hcl22
  go_simp
  refine hK'.out _ _ (fun _ => hS) ?_
  clear hK' K'
  refine wpAnyN_oneC (i := 24) (by as_aux_lemma => kernel_rfl) rfl (by assumption) (fun hcl24 K' hK' => ?_)
  clear hcl23
  go_simp
  refine hK'.out _ _ (fun _ => hS) ?_
  clear hK' K'
  refine wpAnyN_oneC (i := 25) (by as_aux_lemma => kernel_rfl) rfl (by assumption) (fun hcl25 K' hK' => ?_)
  clear hcl24
  go_simp
  refine hK'.out _ _ (fun _ => hS) ?_
  clear hK' K'
  refine wpAnyN_take (i := 26) (v := ?_) rfl (by as_aux_lemma => kernel_rfl) (by as_aux_lemma => kernel_rfl) (by as_aux_lemma => kernel_rfl) (by as_aux_lemma => kernel_rfl) (fun _ _ _ h => h) (by assumption) hS (Or.inl ⟨by rfl, ?_⟩) (fun hcl26 => ?_)
  rotate_left
  · (intro wS hSw; obtain ⟨-, ⟨c2, c3⟩, ⟨x0, x1, x2⟩, ⟨y0, y1, y2⟩, ⟨z0, z1, z2⟩⟩ := hSw; go_simp; (try with_reducible rfl))
  clear hcl25
  try simp only [Act.put, List.getElem_toArray, List.getElem_cons_succ, List.getElem_cons_zero, List.setIfInBounds_toArray, List.set_cons_zero, List.set_cons_succ]
  refine wpAnyN_take (i := 27) (v := ?_) rfl (by as_aux_lemma => kernel_rfl) (by as_aux_lemma => kernel_rfl) (by as_aux_lemma => kernel_rfl) (by as_aux_lemma => kernel_rfl) (fun _ _ _ h => h) (by assumption) hS (Or.inl ⟨by rfl, ?_⟩) (fun hcl27 => ?_)
  rotate_left
  · (intro wS hSw; obtain ⟨-, ⟨c2, c3⟩, ⟨x0, x1, x2⟩, ⟨y0, y1, y2⟩, ⟨z0, z1, z2⟩⟩ := hSw; go_simp; (try with_reducible rfl))
  clear hcl26
  try simp only [Act.put, List.getElem_toArray, List.getElem_cons_succ, List.getElem_cons_zero, List.setIfInBounds_toArray, List.set_cons_zero, List.set_cons_succ]
  refine wpAnyN_take (i := 28) (v := ?_) rfl (by as_aux_lemma => kernel_rfl) (by as_aux_lemma => kernel_rfl) (by as_aux_lemma => kernel_rfl) (by as_aux_lemma => kernel_rfl) (fun _ _ _ h => h) (by assumption) hS (Or.inl ⟨by rfl, ?_⟩) (fun hcl28 => ?_)
  rotate_left
  · (intro wS hSw; obtain ⟨-, ⟨c2, c3⟩, ⟨x0, x1, x2⟩, ⟨y0, y1, y2⟩, ⟨z0, z1, z2⟩⟩ := hSw; go_simp; (try with_reducible rfl))
  clear hcl27
  try simp only [Act.put, List.getElem_toArray, List.getElem_cons_succ, List.getElem_cons_zero, List.setIfInBounds_toArray, List.set_cons_zero, List.set_cons_succ]
  refine wpAnyN_oneC (i := 29) (by as_aux_lemma => kernel_rfl) rfl (by assumption) (fun hcl29 K' hK' => ?_)
  clear hcl28
  go_simp
  go_at_call 16
  refine (drop_err _ o.n 2 (by decide) _ (fun w' _ => look_nil o.n w')).mono ?_
  rintro e w129 ⟨rfl, hs29⟩
  replace hS := hS.same hs29
  clear hs29
  refine hK'.out _ _ (fun _ => hS) ?_
  clear hK' K'
  refine wpAnyN_oneC (i := 30) (by as_aux_lemma => kernel_rfl) rfl (by assumption) (fun hcl30 K' hK' => ?_)
  clear hcl29
  go_simp
  refine hK'.out _ _ (fun _ => hS) ?_
  clear hK' K'
  refine wpAnyN_oneC (i := 31) (by as_aux_lemma => kernel_rfl) rfl (by assumption) (fun hcl31 K' hK' => ?_)
  clear hcl30
  go_simp
  refine hK'.out _ _ (fun _ => hS) ?_
  clear hK' K'
  refine wpAnyN_oneC (i := 32) (by as_aux_lemma => kernel_rfl) rfl (by assumption) (fun hcl32 K' hK' => ?_)
  clear hcl31
  go_simp
  refine hK'.out _ _ (fun _ => hS) ?_
  clear hK' K'
  refine wpAnyN_take (i := 33) (v := ?_) rfl (by as_aux_lemma => kernel_rfl) (by as_aux_lemma => kernel_rfl) (by as_aux_lemma => kernel_rfl) (by as_aux_lemma => kernel_rfl) (fun _ _ _ h => h) (by assumption) hS (Or.inl ⟨by rfl, ?_⟩) (fun hcl33 => ?_)
  rotate_left
  · (intro wS hSw; obtain ⟨-, ⟨c2, c3⟩, ⟨x0, x1, x2⟩, ⟨y0, y1, y2⟩, ⟨z0, z1, z2⟩⟩ := hSw; go_simp; (try with_reducible rfl))
  clear hcl32
  try simp only [Act.put, List.getElem_toArray, List.getElem_cons_succ, List.getElem_cons_zero, List.setIfInBounds_toArray, List.set_cons_zero, List.set_cons_succ]
  refine wpAnyN_take (i := 34) (v := ?_) rfl (by as_aux_lemma => kernel_rfl) (by as_aux_lemma => kernel_rfl) (by as_aux_lemma => kernel_rfl) (by as_aux_lemma => kernel_rfl) (fun _ _ _ h => h) (by assumption) hS (Or.inl ⟨by rfl, ?_⟩) (fun hcl34 => ?_)
  rotate_left
  · (intro wS hSw; obtain ⟨-, ⟨c2, c3⟩, ⟨x0, x1, x2⟩, ⟨y0, y1, y2⟩, ⟨z0, z1, z2⟩⟩ := hSw; go_simp; (try with_reducible rfl))
  clear hcl33
  try simp only [Act.put, List.getElem_toArray, List.getElem_cons_succ, List.getElem_cons_zero, List.setIfInBounds_toArray, List.set_cons_zero, List.set_cons_succ]
  refine wpAnyN_take (i := 35) (v := ?_) rfl (by as_aux_lemma => kernel_rfl) (by as_aux_lemma => kernel_rfl) (by as_aux_lemma => kernel_rfl) (by as_aux_lemma => kernel_rfl) (fun _ _ _ h => h) (by assumption) hS (Or.inl ⟨by rfl, ?_⟩) (fun hcl35 => ?_)
  rotate_left
  · (intro wS hSw; obtain ⟨-, ⟨c2, c3⟩, ⟨x0, x1, x2⟩, ⟨y0, y1, y2⟩, ⟨z0, z1, z2⟩⟩ := hSw; go_simp; (try with_reducible rfl))
  clear hcl34
  try simp only [Act.put, List.getElem_toArray, List.getElem_cons_succ, List.getElem_cons_zero, List.setIfInBounds_toArray, List.set_cons_zero, List.set_cons_succ]
  refine wpAnyN_oneC (i := 36) (by as_aux_lemma => kernel_rfl) rfl (by assumption) (fun hcl36 K' hK' => ?_)
  clear hcl35
  go_simp
  go_at_call 18
  refine (double_err _ o.n 2 (by decide) _ (fun w' _ => look_nil o.n w')).mono ?_
  rintro e w136 ⟨rfl, hs36⟩
  replace hS := hS.same hs36
  clear hs36
  refine hK'.out _ _ (fun _ => hS) ?_
  clear hK' K'
  refine wpAnyN_oneC (i := 37) (by as_aux_lemma => kernel_rfl) rfl (by assumption) (fun hcl37 K' hK' => ?_)
  clear hcl36
  go_simp
  refine hK'.out _ _ (fun _ => hS) ?_
  clear hK' K'
  refine wpAnyN_oneC (i := 38) (by as_aux_lemma => kernel_rfl) rfl (by assumption) (fun hcl38 K' hK' => ?_)
  clear hcl37
  go_simp
  refine hK'.out _ _ (fun _ => hS) ?_
  clear hK' K'
  refine wpAnyN_oneC (i := 39) (by as_aux_lemma => kernel_rfl) rfl (by assumption) (fun hcl39 K' hK' => ?_)
  clear hcl38
  go_simp
  refine hK'.out _ _ (fun _ => hS) ?_
  clear hK' K'
  refine wpAnyN_take (i := 40) (v := ?_) rfl (by as_aux_lemma => kernel_rfl) (by as_aux_lemma => kernel_rfl) (by as_aux_lemma => kernel_rfl) (by as_aux_lemma => kernel_rfl) (fun _ _ _ h => h) (by assumption) hS (Or.inl ⟨by rfl, ?_⟩) (fun hcl40 => ?_)
  rotate_left
  · (intro wS hSw; obtain ⟨-, ⟨c2, c3⟩, ⟨x0, x1, x2⟩, ⟨y0, y1, y2⟩, ⟨z0, z1, z2⟩⟩ := hSw; go_simp; (try with_reducible rfl))
  clear hcl39
  try simp only [Act.put, List.getElem_toArray, List.getElem_cons_succ, List.getElem_cons_zero, List.setIfInBounds_toArray, List.set_cons_zero, List.set_cons_succ]
  refine wpAnyN_take (i := 41) (v := ?_) rfl (by as_aux_lemma => kernel_rfl) (by as_aux_lemma => kernel_rfl) (by as_aux_lemma => kernel_rfl) (by as_aux_lemma => kernel_rfl) (fun _ _ _ h => h) (by assumption) hS (Or.inl ⟨by rfl, ?_⟩) (fun hcl41 => ?_)
  rotate_left
  · (intro wS hSw; obtain ⟨-, ⟨c2, c3⟩, ⟨x0, x1, x2⟩, ⟨y0, y1, y2⟩, ⟨z0, z1, z2⟩⟩ := hSw; go_simp; (try with_reducible rfl))
  clear hcl40
  try simp only [Act.put, List.getElem_toArray, List.getElem_cons_succ, List.getElem_cons_zero, List.setIfInBounds_toArray, List.set_cons_zero, List.set_cons_succ]
  refine wpAnyN_take (i := 42) (v := ?_) rfl (by as_aux_lemma => kernel_rfl) (by as_aux_lemma => kernel_rfl) (by as_aux_lemma => kernel_rfl) (by as_aux_lemma => kernel_rfl) (fun _ _ _ h => h) (by assumption) hS (Or.inl ⟨by rfl, ?_⟩) (fun hcl42 => ?_)
  rotate_left
  · (intro wS hSw; obtain ⟨-, ⟨c2, c3⟩, ⟨x0, x1, x2⟩, ⟨y0, y1, y2⟩, ⟨z0, z1, z2⟩⟩ := hSw; go_simp; (try with_reducible rfl))
  clear hcl41
  try simp only [Act.put, List.getElem_toArray, List.getElem_cons_succ, List.getElem_cons_zero, List.setIfInBounds_toArray, List.set_cons_zero, List.set_cons_succ]
  refine wpAnyN_oneC (i := 43) (by as_aux_lemma => kernel_rfl) rfl (by assumption) (fun hcl43 K' hK' => ?_)
  clear hcl42
  go_simp
  go_at_call 19
  refine (cut_nil o.n _).mono ?_
  rintro e w143 ⟨rfl, hs43⟩
  replace hS := hS.same hs43
  clear hs43
  refine hK'.out _ _ (fun _ => hS) ?_
  clear hK' K'
  refine wpAnyN_oneC (i := 44) (by as_aux_lemma => kernel_rfl) rfl (by assumption) (fun hcl44 K' hK' => ?_)
  clear hcl43
  go_simp
  refine hK'.out _ _ (fun _ => hS) ?_
  clear hK' K'
  refine wpAnyN_oneC (i := 45) (by as_aux_lemma => kernel_rfl) rfl (by assumption) (fun hcl45 K' hK' => ?_)
  clear hcl44
  go_simp
  refine hK'.out _ _ (fun _ => hS) ?_
  clear hK' K'
  refine wpAnyN_oneC (i := 46) (by as_aux_lemma => kernel_rfl) rfl (by assumption) (fun hcl46 K' hK' => ?_)
  clear hcl45
  go_simp
  refine hK'.out _ _ (fun _ => hS) ?_
  clear hK' K'
  refine wpAnyN_take (i := 47) (v := ?_) rfl (by as_aux_lemma => kernel_rfl) (by as_aux_lemma => kernel_rfl) (by as_aux_lemma => kernel_rfl) (by as_aux_lemma => kernel_rfl) (fun _ _ _ h => h) (by assumption) hS (Or.inl ⟨by rfl, ?_⟩) (fun hcl47 => ?_)
  rotate_left
  · (intro wS hSw; obtain ⟨-, ⟨c2, c3⟩, ⟨x0, x1, x2⟩, ⟨y0, y1, y2⟩, ⟨z0, z1, z2⟩⟩ := hSw; go_simp; (try with_reducible rfl))
  clear hcl46
  try simp only [Act.put, List.getElem_toArray, List.getElem_cons_succ, List.getElem_cons_zero, List.setIfInBounds_toArray, List.set_cons_zero, List.set_cons_succ]
  refine wpAnyN_take (i := 48) (v := ?_) rfl (by as_aux_lemma => kernel_rfl) (by as_aux_lemma => kernel_rfl) (by as_aux_lemma => kernel_rfl) (by as_aux_lemma => kernel_rfl) (fun _ _ _ h => h) (by assumption) hS (Or.inl ⟨by rfl, ?_⟩) (fun hcl48 => ?_)
  rotate_left
  · (intro wS hSw; obtain ⟨-, ⟨c2, c3⟩, ⟨x0, x1, x2⟩, ⟨y0, y1, y2⟩, ⟨z0, z1, z2⟩⟩ := hSw; go_simp; (try with_reducible rfl))
  clear hcl47
  try simp only [Act.put, List.getElem_toArray, List.getElem_cons_succ, List.getElem_cons_zero, List.setIfInBounds_toArray, List.set_cons_zero, List.set_cons_succ]
  refine wpAnyN_take (i := 49) (v := ?_) rfl (by as_aux_lemma => kernel_rfl) (by as_aux_lemma => kernel_rfl) (by as_aux_lemma => kernel_rfl) (by as_aux_lemma => kernel_rfl) (fun _ _ _ h => h) (by assumption) hS (Or.inl ⟨by rfl, ?_⟩) (fun hcl49 => ?_)
  rotate_left
  · (intro wS hSw; obtain ⟨-, ⟨c2, c3⟩, ⟨x0, x1, x2⟩, ⟨y0, y1, y2⟩, ⟨z0, z1, z2⟩⟩ := hSw; go_simp; (try with_reducible rfl))
  clear hcl48
  try simp only [Act.put, List.getElem_toArray, List.getElem_cons_succ, List.getElem_cons_zero, List.setIfInBounds_toArray, List.set_cons_zero, List.set_cons_succ]
  refine wpAnyN_oneC (i := 50) (by as_aux_lemma => kernel_rfl) rfl (by assumption) (fun hcl50 K' hK' => ?_)
  clear hcl49
  go_simp
  go_at_call 10
  refine (tick_nil o.n _).mono ?_
  rintro e w150 ⟨rfl, hs50⟩
  replace hS := hS.same hs50
  clear hs50
  refine hK'.out _ _ (fun _ => hS) ?_
  clear hK' K'
  refine wpAnyN_oneC (i := 51) (by as_aux_lemma => kernel_rfl) rfl (by assumption) (fun hcl51 K' hK' => ?_)
  clear hcl50
  go_simp
  refine hK'.out _ _ (fun _ => hS) ?_
  clear hK' K'
  refine wpAnyN_oneC (i := 52) (by as_aux_lemma => kernel_rfl) rfl (by assumption) (fun hcl52 K' hK' => ?_)
  clear hcl51
  go_simp
  refine hK'.out _ _ (fun _ => hS) ?_
  clear hK' K'
  refine wpAnyN_oneC (i := 53) (by as_aux_lemma => kernel_rfl) rfl (by assumption) (fun hcl53 K' hK' => ?_)
  clear hcl52
  go_simp
  refine hK'.out _ _ (fun _ => hS) ?_
  clear hK' K'
  refine wpAnyN_oneC (i := 54) (by as_aux_lemma => kernel_rfl) rfl (by assumption) (fun hcl54 K' hK' => ?_)
  clear hcl53
  go_simp
  refine hK'.out _ _ (fun _ => hS) ?_
  clear hK' K'
  refine wpAnyN_oneC (i := 55) (by as_aux_lemma => kernel_rfl) rfl (by assumption) (fun hcl55 K' hK' => ?_)
  clear hcl54
  go_simp
  go_at_call 25
  refine (len_nil _).mono ?_
  rintro e wx ⟨rfl, rfl⟩
  refine hK'.out _ _ (fun _ => hS) ?_
  clear hK' K'
  refine wpAnyN_oneC (i := 56) (by as_aux_lemma => kernel_rfl) rfl (by assumption) (fun hcl56 K' hK' => ?_)
  clear hcl55
  go_simp
  refine hK'.out _ _ (fun _ => hS) ?_
  clear hK' K'
  refine wpAnyN_oneC (i := 57) (by as_aux_lemma => kernel_rfl) rfl (by assumption) (fun hcl57 K' hK' => ?_)
  clear hcl56
  go_simp
  refine hK'.out _ _ (fun _ => hS) ?_
  clear hK' K'
  refine wpAnyN_oneC (i := 58) (by as_aux_lemma => kernel_rfl) rfl (by assumption) (fun hcl58 K' hK' => ?_)
  clear hcl57
  go_simp
  refine hK'.out _ _ (fun _ => hS) ?_
  clear hK' K'
  refine wpAnyN_oneC (i := 59) (by as_aux_lemma => kernel_rfl) rfl (by assumption) (fun hcl59 K' hK' => ?_)
  clear hcl58
  go_simp
  refine hK'.out _ _ (fun _ => hS) ?_
  clear hK' K'
  refine wpAnyN_oneC (i := 60) (by as_aux_lemma => kernel_rfl) rfl (by assumption) (fun hcl60 K' hK' => ?_)
  clear hcl59
  go_simp
  go_at_call 15
  refine (apart_nil 0 1 _).mono ?_
  rintro e w160 ⟨rfl, hs60⟩
  replace hS := hS.same hs60
  clear hs60
  refine hK'.out _ _ (fun _ => hS) ?_
  clear hK' K'
  refine wpAnyN_oneC (i := 61) (by as_aux_lemma => kernel_rfl) rfl (by assumption) (fun hcl61 K' hK' => ?_)
  clear hcl60
  go_simp
  refine hK'.out _ _ (fun _ => hS) ?_
  clear hK' K'
  refine wpAnyN_oneC (i := 62) (by as_aux_lemma => kernel_rfl) rfl (by assumption) (fun hcl62 K' hK' => ?_)
  clear hcl61
  go_simp
  refine hK'.out _ _ (fun _ => hS) ?_
  clear hK' K'
  refine wpAnyN_oneC (i := 63) (by as_aux_lemma => kernel_rfl) rfl (by assumption) (fun hcl63 K' hK' => ?_)
  clear hcl62
  go_simp
  refine hK'.out _ _ (fun _ => hS) ?_
  clear hK' K'
  refine wpAnyN_oneC (i := 64) (by as_aux_lemma => kernel_rfl) rfl (by assumption) (fun hcl64 K' hK' => ?_)
  clear hcl63
  go_simp
  refine hK'.out _ _ (fun _ => hS) ?_
  clear hK' K'
  refine wpAnyN_oneC (i := 65) (by as_aux_lemma => kernel_rfl) rfl (by assumption) (fun hcl65 K' hK' => ?_)
  clear hcl64
  go_simp
  go_at_call 11
  refine (may_nil 0 _).mono ?_
  rintro e w165 ⟨rfl, hs65⟩
  replace hS := hS.same hs65
  clear hs65
  refine hK'.out _ _ (fun _ => hS) ?_
  clear hK' K'
  refine wpAnyN_oneC (i := 66) (by as_aux_lemma => kernel_rfl) rfl (by assumption) (fun hcl66 K' hK' => ?_)
  clear hcl65
  go_simp
  refine hK'.out _ _ (fun _ => hS) ?_
  clear hK' K'
  refine wpAnyN_oneC (i := 67) (by as_aux_lemma => kernel_rfl) rfl (by assumption) (fun hcl67 K' hK' => ?_)
  clear hcl66
  go_simp
  refine hK'.out _ _ (fun _ => hS) ?_
  clear hK' K'
  refine wpAnyN_oneC (i := 68) (by as_aux_lemma => kernel_rfl) rfl (by assumption) (fun hcl68 K' hK' => ?_)
  clear hcl67
  go_simp
  refine hK'.out _ _ (fun _ => hS) ?_
  clear hK' K'
  refine wpAnyN_oneC (i := 69) (by as_aux_lemma => kernel_rfl) rfl (by assumption) (fun hcl69 K' hK' => ?_)
  clear hcl68
  go_simp
  refine hK'.out _ _ (fun _ => hS) ?_
  clear hK' K'
  refine wpAnyN_oneC (i := 70) (by as_aux_lemma => kernel_rfl) rfl (by assumption) (fun hcl70 K' hK' => ?_)
  clear hcl69
  go_simp
  go_at_call 9
  refine (clock_nil 0 _).mono ?_
  rintro e w170 ⟨rfl, hs70⟩
  replace hS := hS.same hs70
  clear hs70
  refine hK'.out _ _ (fun _ => hS) ?_
  clear hK' K'
  refine wpAnyN_oneC (i := 71) (by as_aux_lemma => kernel_rfl) rfl (by assumption) (fun hcl71 K' hK' => ?_)
  clear hcl70
  go_simp
  refine hK'.out _ _ (fun _ => hS) ?_
  clear hK' K'
  refine wpAnyN_oneC (i := 72) (by as_aux_lemma => kernel_rfl) rfl (by assumption) (fun hcl72 K' hK' => ?_)
  clear hcl71
  go_simp
  refine hK'.out _ _ (fun _ => hS) ?_
  clear hK' K'
  refine wpAnyN_oneC (i := 73) (by as_aux_lemma => kernel_rfl) rfl (by assumption) (fun hcl73 K' hK' => ?_)
  clear hcl72
  go_simp
  refine hK'.out _ _ (fun _ => hS) ?_
  clear hK' K'
  refine wpAnyN_oneC (i := 74) (by as_aux_lemma => kernel_rfl) rfl (by assumption) (fun hcl74 K' hK' => ?_)
  clear hcl73
  go_simp
  refine hK'.out _ _ (fun _ => hS) ?_
  clear hK' K'
  refine wpAnyN_oneC (i := 75) (by as_aux_lemma => kernel_rfl) rfl (by assumption) (fun hcl75 K' hK' => ?_)
  clear hcl74
  go_simp
  go_at_call 26
  refine (taken_nil _).mono ?_
  rintro e wx ⟨rfl, rfl⟩
  refine hK'.out _ _ (fun _ => hS) ?_
  clear hK' K'
  refine wpAnyN_oneC (i := 76) (by as_aux_lemma => kernel_rfl) rfl (by assumption) (fun hcl76 K' hK' => ?_)
  clear hcl75
  go_simp
  refine hK'.out _ _ (fun _ => hS) ?_
  clear hK' K'
  refine wpAnyN_oneC (i := 77) (by as_aux_lemma => kernel_rfl) rfl (by assumption) (fun hcl77 K' hK' => ?_)
  clear hcl76
  go_simp
  refine hK'.out _ _ (fun _ => hS) ?_
  clear hK' K'
  refine wpAnyN_oneC (i := 78) (by as_aux_lemma => kernel_rfl) rfl (by assumption) (fun hcl78 K' hK' => ?_)
  clear hcl77
  go_simp
  refine hK'.out _ _ (fun _ => hS) ?_
  clear hK' K'
  refine wpAnyN_oneC (i := 79) (by as_aux_lemma => kernel_rfl) rfl (by assumption) (fun hcl79 K' hK' => ?_)
  clear hcl78
  go_simp
  refine hK'.out _ _ (fun _ => hS) ?_
  clear hK' K'
  refine wpAnyN_oneC (i := 80) (by as_aux_lemma => kernel_rfl) rfl (by assumption) (fun hcl80 K' hK' => ?_)
  clear hcl79
  go_simp
  go_at_call 27
  refine (lost_nil _).mono ?_
  rintro e wx ⟨rfl, rfl⟩
  refine hK'.out _ _ (fun _ => hS) ?_
  clear hK' K'
  refine wpAnyN_oneC (i := 81) (by as_aux_lemma => kernel_rfl) rfl (by assumption) (fun hcl81 K' hK' => ?_)
  clear hcl80
  go_simp
  refine hK'.out _ _ (fun _ => hS) ?_
  clear hK' K'
  refine wpAnyN_oneC (i := 82) (by as_aux_lemma => kernel_rfl) rfl (by assumption) (fun hcl82 K' hK' => ?_)
  clear hcl81
  go_simp
  refine hK'.out _ _ (fun _ => hS) ?_
  clear hK' K'
  refine wpAnyN_oneC (i := 83) (by as_aux_lemma => kernel_rfl) rfl (by assumption) (fun hcl83 K' hK' => ?_)
  clear hcl82
  go_simp
  refine hK'.out _ _ (fun _ => hS) ?_
  clear hK' K'
  refine wpAnyN_oneC (i := 84) (by as_aux_lemma => kernel_rfl) rfl (by assumption) (fun hcl84 K' hK' => ?_)
  clear hcl83
  go_simp
  refine hK'.out _ _ (fun _ => hS) ?_
  clear hK' K'
  refine wpAnyN_oneC (i := 85) (by as_aux_lemma => kernel_rfl) rfl (by assumption) (fun hcl85 K' hK' => ?_)
  clear hcl84
  go_simp
  go_at_call 28
  refine (close_nil _).mono ?_
  rintro e w185 ⟨rfl, hs85⟩
  replace hS := hS.same hs85
  clear hs85
  refine hK'.out _ _ (fun _ => hS) ?_
  clear hK' K'
  refine wpAnyN_oneC (i := 86) (by as_aux_lemma => kernel_rfl) rfl (by assumption) (fun hcl86 K' hK' => ?_)
  clear hcl85
  go_simp
  refine hK'.out _ _ (fun _ => hS) ?_
  clear hK' K'
  refine wpAnyN_oneC (i := 87) (by as_aux_lemma => kernel_rfl) rfl (by assumption) (fun hcl87 K' hK' => ?_)
  clear hcl86
  go_simp
  refine hK'.out _ _ (fun _ => hS) ?_
  clear hK' K'
  refine wpAnyN_oneC (i := 88) (by as_aux_lemma => kernel_rfl) rfl (by assumption) (fun hcl88 K' hK' => ?_)
  clear hcl87
  go_simp
  refine hK'.out _ _ (fun _ => hS) ?_
  clear hK' K'
  refine wpAnyN_oneC (i := 89) (by as_aux_lemma => kernel_rfl) rfl (by assumption) (fun hcl89 K' hK' => ?_)
  clear hcl88
  go_simp
  go_at_call 12
  refine (known_any _).mono ?_
  rintro e w189 ⟨rfl, hs89⟩
  replace hS := hS.same hs89
  clear hs89
  refine hK'.out _ _ (fun _ => hS) ?_
  clear hK' K'
  refine wpAnyN_oneC (i := 90) (by as_aux_lemma => kernel_rfl) rfl (by assumption) (fun hcl90 K' hK' => ?_)
  clear hcl89
  go_simp
  refine hK'.out _ _ (fun _ => hS) ?_
  clear hK' K'
  refine wpAnyN_oneC (i := 91) (by as_aux_lemma => kernel_rfl) rfl (by assumption) (fun hcl91 K' hK' => ?_)
  clear hcl90
  go_simp
  refine hK'.out _ _ (fun _ => hS) ?_
  clear hK' K'
  refine wpAnyN_done (by as_aux_lemma => kernel_rfl) ?_ _
  refine NoPanic.normal ?_
  go_wp2_with fail
  go_ret
  exact ⟨rfl, hS.1⟩
end Go.Proofs.Ytppphelihimidaa
