/- The law's ready: what is ready, as a list. -/
import Derived.Test.YtoepflfchcoogaaReadD
namespace Go.Proofs.Ytoepflfchcoogaa
open Go.RowKit Go.Shelf
set_option linter.unusedVariables false
set_option linter.unusedSimpArgs false
attribute [local go_sem] Oper.semAt_some
theorem boxed_appended {W w1 : World} {n₀ B : Nat} {t e : TypeId} {size : Nat} {v v' : Value} {k m : Nat} {xs ys : List Value} {tmp : Obj}
    (hv : Boxed W B t v) (hte : t ≠ e) (hrow : W.ownsRow n₀ e size v k xs) (hn₀ : n₀ ≤ W.heap.size)
    (hown' : w1.ownsRow n₀ e size v' m ys) (hgrow : (W.alloc tmp).grownBy w1 v.ownBlock) :
    Boxed w1 B t v ∧ Boxed (w1.setCell ⟨B, 0, none⟩ v') B t v' ∧ (w1.setCell ⟨B, 0, none⟩ v').ownsRow n₀ e size v' m ys ∧ KeepsOthers W (w1.setCell ⟨B, 0, none⟩ v') ∧ Upd (fun k => k = B ∨ n₀ ≤ k) W (w1.setCell ⟨B, 0, none⟩ v') := by
  have hv1 : Boxed w1 B t v := (hv.alloc tmp).kept hgrow (hv.not_row hte hrow)
  refine ⟨hv1, hv1.set v', hown'.kept (grownBy_setCell' w1 B v') (.inr (hv1.not_row hte hown').symm), ?_, ?_⟩
  · refine ((KeepsOthers.alloc W tmp).trans (KeepsOthers.of_grownBy hgrow fun j o ej hj => ?_)).trans (KeepsOthers.setCell _ _ _)
    rcases (hrow.alloc tmp).2 with ⟨rfl, _⟩ | ⟨g, cap, cur, rfl, _, hgb, _⟩
    · simp [Value.ownBlock] at ej
    · obtain rfl : g = j := by simpa [Value.ownBlock] using ej
      rw [hgb] at hj; cases hj; rfl
  · refine Upd.setCell (p := ⟨B, 0, none⟩) (Upd.trans ((Upd.refl _ W).alloc tmp) (Upd.of_grown hgrow) fun j _ ej => ?_) (fun _ => .inl rfl) v'
    rcases hrow.2 with ⟨rfl, _⟩ | ⟨g, cap, cur, rfl, hb, _, _⟩
    · simp [Value.ownBlock] at ej
    · obtain rfl : j = g := by simpa [Value.ownBlock] using ej
      exact .inr hb
theorem hinfo_num3 : (Try.prog.info? 2).map (fun i => (i.zero, i.size, i.bytes)) = some (some (.int .i64 0), 1, 8) := by kernel_rfl
theorem equalIn_func_nil (d : Nat) (w : World) (f : Fn) (x y : Array Value) : (Op.equalIn (d + 1) 90 (.func f x y) .nilFunc).run Try.prog w = .ok false w := by
  simp [Op.equalIn, run_underlying Try.underlying90]
theorem equal_func_nil (w : World) (f : Fn) (x y : Array Value) : (Op.equal 90 (.func f x y) .nilFunc).run Try.prog w = .ok false w := equalIn_func_nil 9999 w f x y
theorem binOp_func_nil (w : World) (f : Fn) (x y : Array Value) : (binOp .eql 90 (.func f x y) .nilFunc).run Try.prog w = .ok (.bool false) w := by
  simp [binOp, Op.intCmp, equal_func_nil, Result.andThen]
set_option maxRecDepth 100000 in
set_option maxHeartbeats 2000000 in
theorem readyLaw_in {base : Nat} {W : World} {p : Nat} {v : Value} {ls : List (Int × Int)} (hv : RdV base W p v ls) (hb : base ≤ W.heap.size) (hlen : ls.length ≤ 100) (ap : Int) :
    CallsIn Fence.wide 3 Try.prog 23 #[.pointer (some ⟨p, 0, none⟩), .int .i64 ap] W fun e w' => ∃ vo, e = .returned vo ∧ Own W.heap.size w' vo 1 (((ls.filter fun x : Int × Int => decide (x.2 ≤ ap)).map (·.1)).map numC) ∧
      (∃ vl, RdV base w' p vl (ls.filter fun x => !(decide (x.2 ≤ ap))) ∧ (∀ k, rdfoot p vl k → rdfoot p v k ∨ W.heap.size ≤ k) ∧ ∀ k, room vo = some k → ¬ rdfoot p vl k) ∧ Upd (rdfoot p v) W w' := by
  have h41 : Fence.wide.fn 41 := trivial
  have h55 : Fence.wide.fn 55 := trivial
  obtain ⟨i0, hi, hz0, hz1, hz2⟩ := info_parts hinfo_num3
  have hs0 := (Upd.refl (fun _ => False) W).alloc (.cells #[.slice none 0 0] 22)
  have hR := Lib.hid ((callsIn_wide (n := 2)).2 (ready_any (hv.upd hs0 (fun _ _ h => h)) (by simp; omega) hlen ap))
  have hfl : ((ls.filter fun x : Int × Int => decide (x.2 ≤ ap)).map (·.1)).length ≤ 100 := by
    rw [List.length_map]
    exact Nat.le_trans (List.length_filter_le _ _) hlen
  generalize (ls.filter fun x : Int × Int => decide (x.2 ≤ ap)).map (·.1) = out at hR hfl ⊢
  generalize (ls.filter fun x : Int × Int => !(decide (x.2 ≤ ap))) = left at hR ⊢
  have hp := hv.2.1.lt
  have HV := Lib.hid hv
  have HB := Lib.hid hb
  have HS0 := Lib.hid hs0
  clear hv hs0 hb hlen
  refine callsIn_of_wp_marks Try.func23 rfl trivial ?_ rfl
  simp only [Try.ntmps23, List.size_toArray, List.length_cons, List.length_nil, Nat.reduceAdd, Nat.reduceSub, Array.replicate_succ, Array.replicate_zero, List.push_toArray, List.append_toArray, List.nil_append, List.cons_append]
  gi_wp2_with (gi_at_call 41; refine hR.out.mono ?_; rintro e w1 ⟨Bs, oA, oc, rfl, r1, r2, r3, r4⟩)
  rw [binOp_func_nil]
  simp only [Result.andThen, Oper.uponIn]
  gi_wp2
  obtain ⟨vl, s1, s2⟩ := r3
  have hn : ¬ rdfoot p v W.heap.size := fun e => by have := (HV.out.foot _ e).2; omega
  have bO : Boxed w1 W.heap.size 22 (.slice none 0 0) := r4.heap (Boxed.new W _ _) hn
  have hA : ∀ b off, 0 < out.length → oA = some (⟨b, off, none⟩ : Addr) → W.heap.size < b ∧ b < w1.heap.size := fun b off h0 e => by
    subst e
    obtain ⟨A', m', cap', e', q1, q2, q3⟩ := r2.open_
    injection e' with e1 e2 e3
    have := r2.ge (by decide) b (by simp [room]; omega)
    simp at this
    omega
  have hrow := RowNums.of r2.rdr
  have hsz1 := r4.size
  simp only [World.size_alloc] at hsz1
  have h200 : (200 : Nat) ≤ maxLen := by decide
  refine wpIn_rangeFunc_ownG (F := Fence.wide) rfl (by decide) (gf := 55) (lb := #[.pointer (some ⟨Bs, 0, none⟩)]) rfl h55 (enters_of Try.func55 (by kernel_rfl) rfl)
    (values_stops Fence.wide 2 h55 rfl (by decide) Bs oA oc out (by omega) w1 r1 hrow) KRow.trans KRow.book (Below.refl _ _) (fun _ => rfl)
    (fun pre Wx => (∃ v', Boxed Wx W.heap.size 22 v' ∧ Wx.ownsRow w1.heap.size 2 1 v' pre.length (pre.map numC) ∧ True) ∧ Upd (fun k => k = W.heap.size) w1 Wx)
    (fun _ _ _ => False)
    (OwnFrom.and (Own.from (holdsRow_own w1.heap.size W.heap.size 22 2 1 (fun pre : List Int => pre.length) (fun pre => pre.map numC) (fun _ _ => True)) _) (fun s A B row hs hg hr => Upd.trans hs (Upd.of_grown hg) (fun k hk e => by have := (hr k e.symm).1; omega)))
    (fun _ _ _ _ _ hs _ _ => hs)
    ⟨⟨_, bO, World.ownsRow_nil _ _ _ _, trivial⟩, Upd.refl _ _⟩
    (fun x => { tmps := #[.pointer (some ⟨p, 0, none⟩), .int .i64 ap, undef, undef, .slice none 0 0, .pointer (some ⟨W.heap.size, 0, none⟩), .func (.func 55) #[] #[.pointer (some ⟨Bs, 0, none⟩)], .int .i64 x, .pointer (some ⟨p, 0, none⟩), .int .i64 ap, .func (.func 55) #[] #[.pointer (some ⟨Bs, 0, none⟩)], .func (.func 55) #[] #[.pointer (some ⟨Bs, 0, none⟩)], .bool false, .func (.func 55) #[] #[.pointer (some ⟨Bs, 0, none⟩)], .int .i64 x, undef, undef, undef, undef, undef], defers := [] }) ?assign ?body ?done ?stop
  case assign =>
    intro l x Wx K hK
    gi_wp2
    exact hK
  case body =>
    rintro l pre x Wx ⟨⟨v', hv', hrow', -⟩, hU⟩ hlt
    have hc := hv'.cell
    have hz := hU.size
    gi_wp2_with (gi_at_builtin; refine wpListIn_append_own _ rfl _ _ 22 rfl w1.heap.size 2 i0 (.int .i64 0) 1 8 Try.underlying22 hi hz0 hz1 hz2 rfl (by decide) _ _ _ rfl (hrow'.alloc _) ⟨Wx.heap.size, 0, none⟩ 1 1 [.int .i64 x] rfl rfl (cell_one_new _ _ _) (by simp [Value.oneCell']) (by omega) (by omega) (by simp; omega) ?_; intro v'' wa hown' hgrow _; obtain ⟨g', cap', rfl⟩ := ownsRow_succ hown'; obtain ⟨hv1, hv2, hr2, hk2, hb2⟩ := boxed_appended hv' (by decide) hrow' hz hown' hgrow; have hc1 := hv1.cell; have hf1 := hv1.frozen)
    exact ⟨hk2.from _, KRow.of hb2 (fun b off h0 e => by have := hA b off h0 e; omega), ⟨_, hv2, by simpa [numC] using hr2, trivial⟩, Upd.trans hU hb2 (fun k hk e => by omega)⟩
  case done =>
    rintro D ys Wx hD rfl ⟨⟨v', hv', hrow', -⟩, hU⟩ hK
    have hc := hv'.cell
    gi_wp2
    refine ⟨by simp, .inl ⟨_, _, rfl, run_takeDeferred hK, ?_⟩⟩
    have hU2 : Upd (fun k => k = W.heap.size) w1 (Wx.putObj D (.deferred none)) := Upd.trans hU (Upd.of_grown (grownBy_putObj' Wx D (.deferred none))) (fun k hk e => by injection e with e; omega)
    have hown := (Own.of_row (ownsRow_putObj hrow' (.deferred none) hK rfl)).1
    refine ⟨_, results_tmp rfl _ _ _, v', rfl, hown.mono (by omega), ⟨vl, s1.upd hU2 (fun k hk e => ?_), fun k hk => ?_, fun k hk e => ?_⟩, ?_⟩
    · rcases s2 k hk with e2 | e2
      · exact hn (by rw [← e]; exact e2)
      · simp at e2; omega
    · rcases s2 k hk with e2 | e2
      · exact .inl e2
      · simp at e2; exact .inr (by omega)
    · have := (hown.ge (by decide) k hk).1
      have := (s1.foot k e).2
      omega
    · exact Upd.trans (Upd.trans (HS0.out.mono fun _ _ h => h.elim) r4 fun k _ e => e) hU2 fun k hk e => by omega
  case stop =>
    rintro D c pre Wx _ _ h _
    exact h.elim
theorem readyLaw_any {base : Nat} {W : World} {p : Nat} {v : Value} {ls : List (Int × Int)} (hv : RdV base W p v ls) (hb : base ≤ W.heap.size) (hlen : ls.length ≤ 100) (ap : Int) :
    Calls Try.prog 23 #[.pointer (some ⟨p, 0, none⟩), .int .i64 ap] W fun e w' => ∃ vo, e = .returned vo ∧ Own W.heap.size w' vo 1 (((ls.filter fun x : Int × Int => decide (x.2 ≤ ap)).map (·.1)).map numC) ∧
      (∃ vl, RdV base w' p vl (ls.filter fun x => !(decide (x.2 ≤ ap))) ∧ (∀ k, rdfoot p vl k → rdfoot p v k ∨ W.heap.size ≤ k) ∧ ∀ k, room vo = some k → ¬ rdfoot p vl k) ∧ Upd (rdfoot p v) W w' := (callsIn_wide (n := 3)).1 (readyLaw_in hv hb hlen ap)
end Go.Proofs.Ytoepflfchcoogaa
