/- The world: Apart. -/
import Derived.Test.YtppphelihimidaaWorL
import Derived.Test.YtppphelihimidaaWorK
import Derived.Deep.RegionHeld3
import Derived.Test.YtppphelihimidaaOrd
import Derived.Deep.RegionWith
import Derived.BigRegion
namespace Go.Proofs.Ytppphelihimidaa
open Go.RowKit
set_option linter.unusedVariables false
set_option linter.unusedSimpArgs false
attribute [local go_sem ↓] Go.wp_at_zero Go.wp_at_succ
/-- A box of n elements. -/
theorem Rdr.boxn (W : World) (cs : List Value) (t : TypeId) (g n : Nat) (hg : g = W.heap.size) (sz : Nat) (hs : cs.length = n * sz) (hn : n ≤ 1000) : Rdr (W.alloc (.cells cs.toArray t)) (.slice (some ⟨g, 0, none⟩) n n) sz cs := by
  subst hg
  have h : (W.alloc (.cells cs.toArray t)).heap[W.heap.size]? = some (.cells cs.toArray t) := heap_alloc_new W _
  refine ⟨_, n, n, rfl, hs, Nat.le_refl _, by omega, .inr ⟨_, _, rfl, fun j u hj => ?_⟩⟩
  unfold World.cell?
  rw [h]
  simpa using hj
theorem bits_fin : ∀ x y : Fin 32, (bits .and .i64 (bits .xor .i64 ((x.val : Nat) : Int) ((y.val : Nat) : Int)) 1 == 1) = decide (((x.val : Nat) : Int) % 2 ≠ ((y.val : Nat) : Int) % 2) := by decide +kernel
theorem bits_apart (x y : Int) (hx : 0 ≤ x ∧ x < 32) (hy : 0 ≤ y ∧ y < 32) : (bits .and .i64 (bits .xor .i64 x y) 1 == 1) = decide (x % 2 ≠ y % 2) := by
  have := bits_fin ⟨x.toNat, by omega⟩ ⟨y.toNat, by omega⟩
  simp only at this
  rwa [show ((x.toNat : Nat) : Int) = x by omega, show ((y.toNat : Nat) : Int) = y by omega] at this
theorem div_range (m : Int) (hm : 0 ≤ m ∧ m < 32) (a : Nat) : 0 ≤ m / 2 ^ a ∧ m / 2 ^ a < 32 := by
  have h2 : (1 : Int) ≤ 2 ^ a := by
    have : (0 : Int) < 2 ^ a := Int.pow_pos (by decide)
    omega
  refine ⟨Int.ediv_nonneg hm.1 (by omega), ?_⟩
  have := Int.ediv_le_self (2 ^ a) hm.1
  omega
section
variable {W : World} {p : Nat} {s : WrS} {cs : List Int}
set_option maxHeartbeats 2000000 in
theorem apart_no (hc : WC W p s) (hr : Rdr W s.vc 1 (cs.map nC)) (a b : Int) (h : outB cs.length a = true ∨ outB cs.length b = true) :
    Calls Try.prog 15 #[.pointer (some ⟨p, 0, none⟩), .int .i64 a, .int .i64 b] W fun e w' => e = .returned (.bool false) ∧ Same W w' := by
  have hs0 := ((Upd.refl (fun _ => False) W).alloc (.cells #[.int .i64 a, .int .i64 b] 3)).drew
  have hx0 : Rdr (W.alloc (.cells #[.int .i64 a, .int .i64 b] 3)).drew (.slice (some ⟨W.heap.size, 0, none⟩) 2 2) 1 ([a, b].map nC) := (Rdr.boxn W [nC a, nC b] 3 W.heap.size 2 rfl 1 rfl (by decide)).same (Upd.refl _ _).drew
  have hth := there_any (hc.upd hs0 (fun h => h)) (hr.same hs0) (xs := [a, b]) hx0 (by simp)
  rw [thereL_two, show (!(outB cs.length a) && !(outB cs.length b)) = false by rcases h with h | h <;> simp [h]] at hth
  have HT := Lib.hid hth
  have HS0 := Lib.hid hs0
  clear hth hc hr h hs0 hx0
  go_enter Try.func15, Try.ntmps15
  go_wp2_with fail
  refine wp_region_noPanic ?_
  refine wp_region_need (fun _ => True) (fun _ => true) (by kernel_rfl) (fun hcl => ?_)
  refine wpAnyN_take (i := 0) (v := ?_) rfl (by kernel_rfl) (by kernel_rfl) (by kernel_rfl) (by kernel_rfl) (fun _ _ _ h => h) (by assumption) trivial (Or.inl ⟨by rfl, ?_⟩) (fun hcl0 => ?_)
  rotate_left
  · (intro wS hSw; (try dsimp only at hSw); go_simp; (try with_reducible rfl))
  clear hcl
  try simp only [Act.put, List.setIfInBounds_toArray, List.set_cons_zero, List.set_cons_succ]
  refine wpAnyN_take (i := 1) (v := ?_) rfl (by kernel_rfl) (by kernel_rfl) (by kernel_rfl) (by kernel_rfl) (fun _ _ _ h => h) (by assumption) trivial (Or.inl ⟨by rfl, ?_⟩) (fun hcl1 => ?_)
  rotate_left
  · (intro wS hSw; (try dsimp only at hSw); go_simp; (try with_reducible rfl))
  clear hcl0
  try simp only [Act.put, List.setIfInBounds_toArray, List.set_cons_zero, List.set_cons_succ]
  refine wpAnyN_take (i := 2) (v := ?_) rfl (by kernel_rfl) (by kernel_rfl) (by kernel_rfl) (by kernel_rfl) (fun _ _ _ h => h) (by assumption) trivial (Or.inl ⟨by rfl, ?_⟩) (fun hcl2 => ?_)
  rotate_left
  · (intro wS hSw; (try dsimp only at hSw); go_simp; (try with_reducible rfl))
  clear hcl1
  try simp only [Act.put, List.setIfInBounds_toArray, List.set_cons_zero, List.set_cons_succ]
  refine wpAnyN_take (i := 3) (v := ?_) rfl (by kernel_rfl) (by kernel_rfl) (by kernel_rfl) (by kernel_rfl) (fun _ _ _ h => h) (by assumption) trivial (Or.inl ⟨by rfl, ?_⟩) (fun hcl3 => ?_)
  rotate_left
  · (intro wS hSw; (try dsimp only at hSw); go_simp; (try with_reducible rfl))
  clear hcl2
  try simp only [Act.put, List.setIfInBounds_toArray, List.set_cons_zero, List.set_cons_succ]
  refine wpAnyN_take (i := 4) (v := ?_) rfl (by kernel_rfl) (by kernel_rfl) (by kernel_rfl) (by kernel_rfl) (fun _ _ _ h => h) (by assumption) trivial (Or.inl ⟨by rfl, ?_⟩) (fun hcl4 => ?_)
  rotate_left
  · (intro wS hSw; (try dsimp only at hSw); go_simp; (try with_reducible rfl))
  clear hcl3
  try simp only [Act.put, List.setIfInBounds_toArray, List.set_cons_zero, List.set_cons_succ]
  refine wpAnyN_take (i := 5) (v := ?_) rfl (by kernel_rfl) (by kernel_rfl) (by kernel_rfl) (by kernel_rfl) (fun _ _ _ h => h) (by assumption) trivial (Or.inl ⟨by rfl, ?_⟩) (fun hcl5 => ?_)
  rotate_left
  · (intro wS hSw; (try dsimp only at hSw); go_simp; (try with_reducible rfl))
  clear hcl4
  try simp only [Act.put, List.setIfInBounds_toArray, List.set_cons_zero, List.set_cons_succ]
  refine wpAnyN_oneC (i := 6) (by kernel_rfl) rfl (by assumption) (fun hcl6 K' hK' => ?_)
  clear hcl5
  go_simp
  refine hK'.out _ _ (fun _ => trivial) ?_
  clear hK' K'
  refine wpAnyN_oneC (i := 7) (by kernel_rfl) rfl (by assumption) (fun hcl7 K' hK' => ?_)
  clear hcl6
  go_simp
  go_at_call 29
  refine HT.out.mono ?_
  rintro r w2 ⟨rfl, hs2⟩
  have HS2 := Lib.hid (Same.trans HS0.out hs2)
  clear hs2
  refine hK'.out _ _ (fun _ => trivial) ?_
  clear hK' K'
  refine wpAnyN_oneC (i := 8) (by kernel_rfl) rfl (by assumption) (fun hcl8 K' hK' => ?_)
  clear hcl7
  go_simp
  refine hK'.out _ _ (fun _ => trivial) ?_
  clear hK' K'
  refine wpAnyN_oneC (i := 9) (by kernel_rfl) rfl (by assumption) (fun hcl9 K' hK' => ?_)
  clear hcl8
  go_simp
  refine hK'.out _ _ (fun _ => trivial) ?_
  clear hK' K'
  refine wpAnyN_skip (i := 10) rfl (by kernel_rfl) (by kernel_rfl) (by kernel_rfl) (by kernel_rfl) rfl (fun _ _ _ h => h) (by assumption) trivial rfl (fun hcl10 => ?_)
  clear hcl9
  refine wpAnyN_skip (i := 11) rfl (by kernel_rfl) (by kernel_rfl) (by kernel_rfl) (by kernel_rfl) rfl (fun _ _ _ h => h) (by assumption) trivial rfl (fun hcl11 => ?_)
  clear hcl10
  refine wpAnyN_skip (i := 12) rfl (by kernel_rfl) (by kernel_rfl) (by kernel_rfl) (by kernel_rfl) rfl (fun _ _ _ h => h) (by assumption) trivial rfl (fun hcl12 => ?_)
  clear hcl11
  refine wpAnyN_skip (i := 13) rfl (by kernel_rfl) (by kernel_rfl) (by kernel_rfl) (by kernel_rfl) rfl (fun _ _ _ h => h) (by assumption) trivial rfl (fun hcl13 => ?_)
  clear hcl12
  refine wpAnyN_skip (i := 14) rfl (by kernel_rfl) (by kernel_rfl) (by kernel_rfl) (by kernel_rfl) rfl (fun _ _ _ h => h) (by assumption) trivial rfl (fun hcl14 => ?_)
  clear hcl13
  refine wpAnyN_skip (i := 15) rfl (by kernel_rfl) (by kernel_rfl) (by kernel_rfl) (by kernel_rfl) rfl (fun _ _ _ h => h) (by assumption) trivial rfl (fun hcl15 => ?_)
  clear hcl14
  refine wpAnyN_skip (i := 16) rfl (by kernel_rfl) (by kernel_rfl) (by kernel_rfl) (by kernel_rfl) rfl (fun _ _ _ h => h) (by assumption) trivial rfl (fun hcl16 => ?_)
  clear hcl15
  refine wpAnyN_skip (i := 17) rfl (by kernel_rfl) (by kernel_rfl) (by kernel_rfl) (by kernel_rfl) rfl (fun _ _ _ h => h) (by assumption) trivial rfl (fun hcl17 => ?_)
  clear hcl16
  refine wpAnyN_skip (i := 18) rfl (by kernel_rfl) (by kernel_rfl) (by kernel_rfl) (by kernel_rfl) rfl (fun _ _ _ h => h) (by assumption) trivial rfl (fun hcl18 => ?_)
  clear hcl17
  refine wpAnyN_skip (i := 19) rfl (by kernel_rfl) (by kernel_rfl) (by kernel_rfl) (by kernel_rfl) rfl (fun _ _ _ h => h) (by assumption) trivial rfl (fun hcl19 => ?_)
  clear hcl18
  refine wpAnyN_skip (i := 20) rfl (by kernel_rfl) (by kernel_rfl) (by kernel_rfl) (by kernel_rfl) rfl (fun _ _ _ h => h) (by assumption) trivial rfl (fun hcl20 => ?_)
  clear hcl19
  refine wpAnyN_skip (i := 21) rfl (by kernel_rfl) (by kernel_rfl) (by kernel_rfl) (by kernel_rfl) rfl (fun _ _ _ h => h) (by assumption) trivial rfl (fun hcl21 => ?_)
  clear hcl20
  refine wpAnyN_skip (i := 22) rfl (by kernel_rfl) (by kernel_rfl) (by kernel_rfl) (by kernel_rfl) rfl (fun _ _ _ h => h) (by assumption) trivial rfl (fun hcl22 => ?_)
  clear hcl21
  refine wpAnyN_skip (i := 23) rfl (by kernel_rfl) (by kernel_rfl) (by kernel_rfl) (by kernel_rfl) rfl (fun _ _ _ h => h) (by assumption) trivial rfl (fun hcl23 => ?_)
  clear hcl22
  refine wpAnyN_skip (i := 24) rfl (by kernel_rfl) (by kernel_rfl) (by kernel_rfl) (by kernel_rfl) rfl (fun _ _ _ h => h) (by assumption) trivial rfl (fun hcl24 => ?_)
  clear hcl23
  refine wpAnyN_oneC (i := 25) (by kernel_rfl) rfl (by assumption) (fun hcl25 K' hK' => ?_)
  clear hcl24
  go_simp
  refine hK'.out _ _ (fun _ => trivial) ?_
  clear hK' K'
  refine wpAnyN_oneC (i := 26) (by kernel_rfl) rfl (by assumption) (fun hcl26 K' hK' => ?_)
  clear hcl25
  go_simp
  refine hK'.out _ _ (fun _ => trivial) ?_
  clear hK' K'
  refine wpAnyN_done (by kernel_rfl) ?_ _
  refine NoPanic.normal ?_
  all_goals
    go_wp2_with fail
    go_ret
    exact ⟨rfl, HS2.out⟩
theorem apart_nil (a b : Int) (w : World) : Calls Try.prog 15 #[.pointer none, .int .i64 a, .int .i64 b] w fun e w' => e = .returned (.bool false) ∧ Same w w' := by
  go_enter Try.func15, Try.ntmps15
  go_wp2_with fail
  first | go_region | fail
  all_goals
    go_wp2_with fail
    go_ret
    exact ⟨rfl, (Upd.refl _ _).drew⟩
set_option maxHeartbeats 2000000 in
theorem apart_in (hc : WC W p s) (hr : Rdr W s.vc 1 (cs.map nC)) (a b : Nat) (ha : a < cs.length) (hb : b < cs.length) (hl : cs.length ≤ 5) (hm : 0 ≤ s.mask ∧ s.mask < 32) :
    Calls Try.prog 15 #[.pointer (some ⟨p, 0, none⟩), .int .i64 a, .int .i64 b] W fun e w' => e = .returned (.bool (decide (s.mask / 2 ^ a % 2 ≠ s.mask / 2 ^ b % 2))) ∧ Same W w' := by
  have hs0 := ((Upd.refl (fun _ => False) W).alloc (.cells #[.int .i64 a, .int .i64 b] 3)).drew
  have hx0 : Rdr (W.alloc (.cells #[.int .i64 a, .int .i64 b] 3)).drew (.slice (some ⟨W.heap.size, 0, none⟩) 2 2) 1 ([(a : Int), (b : Int)].map nC) := (Rdr.boxn W [nC a, nC b] 3 W.heap.size 2 rfl 1 rfl (by decide)).same (Upd.refl _ _).drew
  have hth := there_any (hc.upd hs0 (fun h => h)) (hr.same hs0) (xs := [(a : Int), (b : Int)]) hx0 (by simp)
  rw [thereL_two, outB_no (by omega) (by omega), outB_no (by omega) (by omega)] at hth
  simp only [Bool.not_false, Bool.and_self] at hth
  have HT := Lib.hid hth
  have c2 := hc.1.2.2.1
  have hp := hc.lt
  generalize s.mask = m at c2 hm ⊢
  have HS0 := Lib.hid hs0
  clear hth hc hr hs0 hx0
  go_enter Try.func15, Try.ntmps15
  go_wp2_with fail
  first | (go_region_held3 (fun w' => w'.cell? ⟨p, 2, none⟩ = some (.int .i64 m)) (first | assumption | exact (Upd.refl (fun _ => False) _).drew.cell c2 (fun h => h) | exact ((Upd.refl (fun _ => False) _).alloc _).drew.cell c2 (fun h => h) | exact d2) (first | (go_at_call 29; refine HT.out.mono ?_; rintro r w2 ⟨rfl, hs2⟩; have hs3 := Same.trans HS0.out hs2; have d2 := hs3.cell c2 (fun h => h); have HS2 := Lib.hid hs3; clear hs2 hs3))) | fail
  all_goals
    go_wp2_with fail
    go_ret
    exact ⟨ret_bool (bits_apart _ _ (div_range m hm a) (div_range m hm b)), HS2.out⟩
/-- Are two machines apart? -/
def apartB (m : Int) (n : Nat) (a b : Int) : Bool := !outB n a && !outB n b && decide (m / 2 ^ a.toNat % 2 ≠ m / 2 ^ b.toNat % 2)
theorem apart_any (hc : WC W p s) (hr : Rdr W s.vc 1 (cs.map nC)) (a b : Int) (hl : cs.length ≤ 5) (hm : 0 ≤ s.mask ∧ s.mask < 32) :
    Calls Try.prog 15 #[.pointer (some ⟨p, 0, none⟩), .int .i64 a, .int .i64 b] W fun e w' => e = .returned (.bool (apartB s.mask cs.length a b)) ∧ Same W w' := by
  unfold apartB
  cases ha : outB cs.length a with
  | true => simpa using apart_no hc hr a b (.inl ha)
  | false =>
    cases hb : outB cs.length b with
    | true => simpa using apart_no hc hr a b (.inr hb)
    | false =>
      have ha2 : ¬ (a < 0 ∨ (cs.length : Int) ≤ a) := fun h => by rw [outB_yes h] at ha; cases ha
      have hb2 : ¬ (b < 0 ∨ (cs.length : Int) ≤ b) := fun h => by rw [outB_yes h] at hb; cases hb
      obtain ⟨i, rfl⟩ : ∃ i : Nat, a = i := ⟨a.toNat, by omega⟩
      obtain ⟨j, rfl⟩ : ∃ j : Nat, b = j := ⟨b.toNat, by omega⟩
      simpa using apart_in hc hr i j (by omega) (by omega) hl hm
end
end Go.Proofs.Ytppphelihimidaa
