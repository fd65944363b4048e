/- The law's same; calls on no reads. -/
import Derived.Test.YtoepflfchcoogaaReadY
import Derived.Test.YtoepflfchcoogaaReadR
namespace Go.Proofs.Ytoepflfchcoogaa
open Go.RowKit
set_option linter.unusedVariables false
set_option linter.unusedSimpArgs false
attribute [local go_sem ↓] Go.wp_at_zero Go.wp_at_succ
theorem rows_open {W : World} {v : Value} {xs : List Int} (h : Rdr W v 1 (xs.map numC)) : ∃ A cap, v = .slice A xs.length cap := by
  obtain ⟨A, n, cap, rfl, h1, h2, h3, h4⟩ := h
  exact ⟨A, cap, by congr 1; simpa using h1.symm⟩
theorem same_any {W : World} {va vb : Value} {xs : List Int} (ha : Rdr W va 1 (xs.map numC)) (hb : Rdr W vb 1 (xs.map numC)) (hlen : xs.length ≤ 100000) :
    Calls Try.prog 22 #[va, vb] W fun e w' => e = .returned (.bool true) ∧ Same W w' := by
  obtain ⟨A, ca, rfl⟩ := rows_open ha
  obtain ⟨B, cb, rfl⟩ := rows_open hb
  have HA := Lib.hid (RowNums.of ha)
  have HB := Lib.hid (RowNums.of hb)
  obtain ⟨N, hN⟩ : ∃ N, N = xs.length := ⟨_, rfl⟩
  rw [show xs.length = N from hN.symm] at hlen ⊢
  have HN := Lib.hid hN
  clear ha hb hN
  go_enter Try.func22, Try.ntmps22
  go_wp2_with fail
  go_loopw [5] (fun v5 wr => ∃ k : Nat, k ≤ N ∧ v5 = .int .i64 k ∧ Same W wr) (fun v5 _ => N - (intOf v5).toNat)
  case atStart => exact ⟨0, by omega, rfl, Upd.refl _ W⟩
  case round =>
    obtain ⟨k, hk, rfl, hs⟩ := hrel
    by_cases hlt : k < N
    · obtain ⟨b1, o1, rfl, c1⟩ := HA.out k (by have := HN.out; omega)
      obtain ⟨b2, o2, rfl, c2⟩ := HB.out k (by have := HN.out; omega)
      have d1 := hs.cell c1 (fun h => h)
      have d2 := hs.cell c2 (fun h => h)
      generalize xs.getD k 0 = x at d1 d2
      have g1 : (k : Int) < (N : Int) := by omega
      have HS := Lib.hid hs
      clear c1 c2 hs
      go_wp2_with fail
      go_quiet (fail)
      go_wp2_with fail
      go_roundw
      case rel => exact ⟨k + 1, by omega, by go_num, HS.out.drewN _⟩
      case measure => simp [intOf]; omega
    · obtain rfl : k = N := by omega
      have HS := Lib.hid hs
      clear hs
      go_wp2_with fail
      go_ret
      exact ⟨rfl, HS.out⟩
theorem nilask (w : World) : Calls Try.prog 20 #[.pointer none, .int .i64 1, .int .i64 1] w fun r w' => r = .returned (.int .i64 2) ∧ Same w w' := by
  go_enter Try.func20, Try.ntmps20
  go_wp2
  go_ret
  exact ⟨rfl, (Upd.refl _ _).alloc _⟩
theorem nillen (w : World) : Calls Try.prog 27 #[.pointer none] w fun r w' => r = .returned (.int .i64 0) ∧ Same w w' := by
  go_enter Try.func27, Try.ntmps27
  go_wp2
  go_ret
  exact ⟨rfl, Upd.refl _ _⟩
theorem niltake (w : World) (f : Value) : Calls Try.prog 42 #[.pointer none, f] w fun r w' => r = .returned (.slice none 0 0) ∧ w' = w := by
  go_enter Try.func42, Try.ntmps42
  go_wp2
  go_ret
  exact ⟨rfl, rfl⟩
theorem nildrop (w : World) : Calls Try.prog 25 #[.pointer none] w fun r w' => r = .returned (.slice none 0 0) ∧ Same w w' := by
  go_enter Try.func25, Try.ntmps25
  go_wp2_with fail
  refine (niltake _ _).mono ?_
  rintro r w1 ⟨rfl, rfl⟩
  go_wp2_with fail
  go_ret
  exact ⟨rfl, Upd.refl _ _⟩
theorem nilready (w : World) (ap : Int) : Calls Try.prog 41 #[.pointer none, .int .i64 ap] w fun e w' => ∃ Bs, e = .returned (.func (.func 55) #[] #[.pointer (some ⟨Bs, 0, none⟩)]) ∧ w'.cell? ⟨Bs, 0, none⟩ = some (.slice none 0 0) ∧ Same w w' := by
  go_enter Try.func41, Try.ntmps41
  go_wp2_with fail
  refine (niltake _ _).mono ?_
  rintro r w1 ⟨rfl, rfl⟩
  go_wp2_with fail
  refine (values_any _ _ _ _).mono ?_
  rintro r w1 ⟨rfl, rfl⟩
  go_wp2_with fail
  go_ret
  exact ⟨_, rfl, by rw [show w.heap.size + 1 = (w.alloc (.cells #[.int .i64 ap] 2)).heap.size from (World.size_alloc w _).symm]; exact box_cell _ _ _, ((Upd.refl _ _).alloc _).alloc _⟩
section
open Go.Shelf
attribute [local go_sem] Oper.semAt_some
set_option maxRecDepth 100000 in
set_option maxHeartbeats 2000000 in
theorem nilreadyLaw_in (W : World) (ap : Int) :
    CallsIn Fence.wide 3 Try.prog 23 #[.pointer none, .int .i64 ap] W fun e w' => ∃ A c, e = .returned (.slice A 0 c) ∧ Same W w' := by
  have h41 : Fence.wide.fn 41 := trivial
  have h55 : Fence.wide.fn 55 := trivial
  obtain ⟨i0, hi, hz0, hz1, hz2⟩ := info_parts hinfo_num3
  have hs0 := (Upd.refl (fun _ => False) W).alloc (.cells #[.slice none 0 0] 22)
  have hR := Lib.hid ((callsIn_wide (n := 2)).2 (nilready (W.alloc (.cells #[.slice none 0 0] 22)) ap))
  have HS0 := Lib.hid hs0
  clear hs0
  refine callsIn_of_wp_marks Try.func23 rfl trivial ?_ rfl
  simp only [Try.ntmps23, List.size_toArray, List.length_cons, List.length_nil, Nat.reduceAdd, Nat.reduceSub, Array.replicate_succ, Array.replicate_zero, List.push_toArray, List.append_toArray, List.nil_append, List.cons_append]
  gi_wp2_with (gi_at_call 41; refine hR.out.mono ?_; rintro e w1 ⟨Bs, rfl, r1, r4⟩)
  rw [binOp_func_nil]
  simp only [Result.andThen, Oper.uponIn]
  gi_wp2
  have bO : Boxed w1 W.heap.size 22 (.slice none 0 0) := r4.heap (Boxed.new W _ _) (fun h => h)
  have hrow : RowNums w1 none [] := fun j hj => by simp at hj
  have hsz1 := r4.size
  simp only [World.size_alloc] at hsz1
  have h200 : (200 : Nat) ≤ maxLen := by decide
  refine wpIn_rangeFunc_ownG (F := Fence.wide) rfl (by decide) (gf := 55) (lb := #[.pointer (some ⟨Bs, 0, none⟩)]) rfl h55 (enters_of Try.func55 (by kernel_rfl) rfl)
    (values_stops Fence.wide 2 h55 rfl (by decide) Bs none 0 [] (by simp) w1 r1 hrow) KRow.trans KRow.book (Below.refl _ _) (fun _ => rfl)
    (fun pre Wx => (∃ v', Boxed Wx W.heap.size 22 v' ∧ Wx.ownsRow w1.heap.size 2 1 v' pre.length (pre.map numC) ∧ True) ∧ Upd (fun k => k = W.heap.size) w1 Wx)
    (fun _ _ _ => False)
    (OwnFrom.and (Own.from (holdsRow_own w1.heap.size W.heap.size 22 2 1 (fun pre : List Int => pre.length) (fun pre => pre.map numC) (fun _ _ => True)) _) (fun s A B row hs hg hr => Upd.trans hs (Upd.of_grown hg) (fun k hk e => by have := (hr k e.symm).1; omega)))
    (fun _ _ _ _ _ hs _ _ => hs)
    ⟨⟨_, bO, World.ownsRow_nil _ _ _ _, trivial⟩, Upd.refl _ _⟩
    (fun x => { tmps := #[.pointer none, .int .i64 ap, undef, undef, .slice none 0 0, .pointer (some ⟨W.heap.size, 0, none⟩), .func (.func 55) #[] #[.pointer (some ⟨Bs, 0, none⟩)], .int .i64 x, .pointer none, .int .i64 ap, .func (.func 55) #[] #[.pointer (some ⟨Bs, 0, none⟩)], .func (.func 55) #[] #[.pointer (some ⟨Bs, 0, none⟩)], .bool false, .func (.func 55) #[] #[.pointer (some ⟨Bs, 0, none⟩)], .int .i64 x, undef, undef, undef, undef, undef], defers := [] }) ?assign ?body ?done ?stop
  case assign =>
    intro l x Wx K hK
    gi_wp2
    exact hK
  case body =>
    rintro l pre x Wx ⟨⟨v', hv', hrow', -⟩, hU⟩ hlt
    simp at hlt
  case done =>
    rintro D ys Wx hD rfl ⟨⟨v', hv', hrow', -⟩, hU⟩ hK
    have hc := hv'.cell
    gi_wp2
    refine ⟨by simp, .inl ⟨_, _, rfl, run_takeDeferred hK, ?_⟩⟩
    have hU2 : Upd (fun k => k = W.heap.size) w1 (Wx.putObj D (.deferred none)) := Upd.trans hU (Upd.of_grown (grownBy_putObj' Wx D (.deferred none))) (fun k hk e => by injection e with e; omega)
    have hown := (Own.of_row (ownsRow_putObj hrow' (.deferred none) hK rfl)).1
    obtain ⟨A', n', c', rfl, q1, q2, q3⟩ := hown.open_
    obtain rfl : n' = 0 := by simp at q1; omega
    exact ⟨_, results_tmp rfl _ _ _, A', c', rfl, Upd.trans (Same.trans HS0.out r4) hU2 (fun k hk e => by omega)⟩
  case stop =>
    rintro D c pre Wx _ _ h _
    exact h.elim
theorem nilreadyLaw (W : World) (ap : Int) : Calls Try.prog 23 #[.pointer none, .int .i64 ap] W fun e w' => ∃ A c, e = .returned (.slice A 0 c) ∧ Same W w' := (callsIn_wide (n := 3)).1 (nilreadyLaw_in W ap)
end
end Go.Proofs.Ytoepflfchcoogaa
