/- slices.Values over a row of int: its contract; the law's missing. -/
import Derived.Test.YtccbkagmglddfaaChkX
import Derived.RangeFuncNested
import Derived.RangeFuncBound
import Derived.RangeFuncCalls
import Derived.RangeFuncLeaves
import Derived.RangeFuncBox
import Derived.Shelf.Abstract
import Derived.Shelf.RegionOpen
import Derived.OwnWalkIn
import Derived.TacticsInMore
import Derived.LoopNIn
import Derived.LoopIn
namespace Go.Proofs.Ytccbkagmglddfaa
open Go.RowKit Go.Shelf
set_option linter.unusedVariables false
set_option linter.unusedSimpArgs false
attribute [local go_sem] Oper.semAt_some
def numC (z : Int) : Value := .int .i64 z
/-- The cells of the row's block lie as they lay. -/
def KRow (N : Nat) (A : Option Addr) (X Y : World) : Prop := ∀ b off i u, 0 < N → A = some (⟨b, off, none⟩ : Addr) → X.cell? ⟨b, i, none⟩ = some u → Y.cell? ⟨b, i, none⟩ = some u
theorem KRow.refl (N : Nat) (A : Option Addr) (X : World) : KRow N A X X := fun _ _ _ _ _ _ h => h
theorem KRow.trans {N : Nat} {A : Option Addr} {X Y Z : World} (h : KRow N A X Y) (k : KRow N A Y Z) : KRow N A X Z := fun b off i u z e c => k b off i u z e (h b off i u z e c)
theorem KRow.book {N : Nat} {w : World} {A : Option Addr} (W : World) (l : Nat) (o o' : Obj) (_ : w.heap.size ≤ l) (h : W.heap[l]? = some o) (hc : o.isCells = false) (_ : o.isWalk = false) : KRow N A W (W.putObj l o') := fun b off i u _ _ c =>
  cell_kept c (grownBy_putObj' W l o') (fun r e => by cases e; exact ⟨_, h, hc⟩)
theorem KRow.of {N : Nat} {A : Option Addr} {S : Nat → Prop} {X Y : World} (h : Upd S X Y) (hA : ∀ b off, 0 < N → A = some (⟨b, off, none⟩ : Addr) → ¬ S b) : KRow N A X Y := fun b off i u z e c => h.cell c (hA b off z e)
/-- A row of numbers: where its cells lie. -/
def RowNums (W : World) (A : Option Addr) (xs : List Int) : Prop := ∀ j, j < xs.length → ∃ b off, A = some (⟨b, off, none⟩ : Addr) ∧ W.cell? ⟨b, off + j, none⟩ = some (.int .i64 (xs.getD j 0))
theorem RowNums.keep {A : Option Addr} {X Y : World} {xs : List Int} (h : RowNums X A xs) (hk : KRow xs.length A X Y) : RowNums Y A xs := fun j hj => by
  obtain ⟨b, off, e, c⟩ := h j hj
  exact ⟨b, off, e, hk b off _ _ (by omega) e c⟩
theorem RowNums.of {W : World} {A : Option Addr} {n cap : Nat} {xs : List Int} (h : Rdr W (.slice A n cap) 1 (xs.map numC)) : RowNums W A xs := by
  intro j hj
  obtain ⟨A', n', cap', e, h1, h2, h3, h4⟩ := h
  injection e with e1 e2 e3
  subst e1
  rcases h4 with h4 | ⟨b, off, rfl, hc⟩
  · simp at h4
    subst h4
    simp at hj
  · refine ⟨b, off, rfl, hc _ _ ?_⟩
    rw [List.getElem?_map, List.getElem?_eq_getElem hj, List.getD_eq_getElem?_getD, List.getElem?_eq_getElem hj]
    rfl
set_option maxRecDepth 100000 in
set_option maxHeartbeats 2000000 in
theorem values1_in (F : Fence) (n : Nat) (h7 : F.fn 80) (hro : F.round = none) (hn : 1 ≤ n) (l Bs : Nat) (A : Option Addr) (cap : Nat) (xs : List Int) (hlen : xs.length ≤ 100000) (J Jx : List Int → World → Prop)
    (hY : ∀ pre x W, J pre W → pre.length < xs.length → YieldAt F (n - 1) Try.prog l #[.int .i64 x] W fun e W' =>
      (e = .returned (.bool true) ∧ J (pre ++ [x]) W' ∧ KRow xs.length A W W') ∨ (e = .returned (.bool false) ∧ Jx (pre ++ [x]) W'))
    (W : World) (hBs : W.cell? ⟨Bs, 0, none⟩ = some (.slice A xs.length cap)) (hc : RowNums W A xs) (h0 : J [] W) :
    CallsIn F n Try.prog 80 #[.func (.yield l) #[] #[], .pointer (some ⟨Bs, 0, none⟩)] W fun e W' => (∃ v, e = .returned v) ∧
      ((J xs W') ∨ (∃ k, k < xs.length ∧ Jx (xs.take (k + 1)) W')) := by
  refine callsIn_of_wp Try.func80 rfl h7 ?_ hro
  simp only [Try.ntmps80, List.size_toArray, List.length_cons, List.length_nil, Nat.reduceAdd, Nat.reduceSub, Array.replicate_succ, Array.replicate_zero, List.push_toArray, List.append_toArray, List.nil_append, List.cons_append]
  gi_wp2
  gi_loopw [7] (fun i wr => ∃ k : Nat, k ≤ xs.length ∧ i = .int .i64 (k : Int) ∧ J (xs.take k) wr ∧ KRow xs.length A W wr) (fun i _ => xs.length - (intOf i).toNat)
  case atStart => exact ⟨0, Nat.zero_le _, rfl, by simpa using h0, KRow.refl _ _ _⟩
  case round =>
    obtain ⟨k, hk, rfl, hJs, hnx⟩ := hrel
    by_cases hlt : k < xs.length
    · obtain ⟨b, off, rfl, c0⟩ := hc k hlt
      have d0 := hnx b off _ _ (by omega) rfl c0
      have hcs : xs.take (k + 1) = xs.take k ++ [xs.getD k 0] := by
        rw [List.take_succ_eq_append_getElem hlt, List.getD_eq_getElem?_getD, List.getElem?_eq_getElem hlt]
        rfl
      obtain ⟨fn, tmps, assign, body, hy, hR⟩ := hY _ (xs.getD k 0) wr hJs (by simp; omega)
      generalize xs.getD k 0 = x at d0 hy hR hcs
      have g2 : (k : Int) < (xs.length : Int) := by omega
      have HCS := Lib.hid hcs
      have HJ := Lib.hid hJs
      have HNX := Lib.hid hnx
      clear hJs hY hc hcs c0 hnx
      gi_wp2
      refine hR.mono ?_
      rintro e W3 (⟨rfl, hJ3, hk3⟩ | ⟨rfl, hJx3⟩)
      · have HJ3 := Lib.hid hJ3
        have HK3 := Lib.hid hk3
        clear hJ3 hk3
        gi_wp2
        go_roundw
        case rel => exact ⟨k + 1, by omega, by go_num, by rw [HCS.out]; exact HJ3.out, KRow.trans HNX.out HK3.out⟩
        case measure => simp [intOf]; omega
      · have HJ3 := Lib.hid hJx3
        clear hJx3
        gi_wp2
        refine bodyPost_ret (results_none rfl _ _ _) rfl ?_
        exact ⟨⟨_, rfl⟩, .inr ⟨k, hlt, by rw [HCS.out]; exact HJ3.out⟩⟩
    · obtain rfl : k = xs.length := by omega
      have HJ := Lib.hid hJs
      clear hJs hY hc
      gi_wp2
      go_end0
      exact ⟨⟨_, rfl⟩, .inl (by simpa using HJ.out)⟩
theorem values_stops (F : Fence) (n : Nat) (h7 : F.fn 80) (hro : F.round = none) (hn : 1 ≤ n) (Bs : Nat) (A : Option Addr) (cap : Nat) (xs : List Int) (hlen : xs.length ≤ 100000) (w : World)
    (hc : w.cell? ⟨Bs, 0, none⟩ = some (.slice A xs.length cap)) (hI : RowNums w A xs) :
    SeqStopsK F n Try.prog 80 #[.pointer (some ⟨Bs, 0, none⟩)] (fun x : Int => #[Value.int .i64 x]) (KRow xs.length A) (fun ys => ys = xs) (fun pre => ∃ k, k < xs.length ∧ pre = xs.take (k + 1)) xs.length w := fun l J Jx W hW _ _ hY h0 => by
  refine (values1_in F n h7 hro hn l Bs A cap xs hlen J Jx hY W ((hW.cell (p := ⟨Bs, 0, none⟩) (World.block_lt_of_cell? w _ hc)).trans hc) (fun j hj => ?_) h0).mono ?_
  · obtain ⟨b, off, e, k0⟩ := hI j hj
    exact ⟨b, off, e, (hW.cell (p := ⟨b, off + j, none⟩) (World.block_lt_of_cell? w _ k0)).trans k0⟩
  · rintro e W' ⟨he, hj | ⟨k, hk, hj⟩⟩
    · exact ⟨he, .inl ⟨_, rfl, hj⟩⟩
    · exact ⟨he, .inr ⟨_, ⟨k, hk, rfl⟩, hj⟩⟩
theorem values_any (A : Option Addr) (n cap : Nat) (w : World) : Calls Try.prog 67 #[.slice A n cap] w fun e w' => e = .returned (.func (.func 80) #[] #[.pointer (some ⟨w.heap.size, 0, none⟩)]) ∧ w' = w.alloc (.cells #[.slice A n cap] 43) := by
  go_enter Try.func67, Try.ntmps67
  go_wp2
  go_ret
  exact ⟨rfl, rfl⟩
theorem boxed_appended {W w1 : World} {n₀ B : Nat} {t e : TypeId} {size : Nat} {v v' : Value} {k m : Nat} {xs ys : List Value} {tmp : Obj}
    (hv : Boxed W B t v) (hte : t ≠ e) (hrow : W.ownsRow n₀ e size v k xs) (hn₀ : n₀ ≤ W.heap.size)
    (hown' : w1.ownsRow n₀ e size v' m ys) (hgrow : (W.alloc tmp).grownBy w1 v.ownBlock) :
    Boxed w1 B t v ∧ Boxed (w1.setCell ⟨B, 0, none⟩ v') B t v' ∧ (w1.setCell ⟨B, 0, none⟩ v').ownsRow n₀ e size v' m ys ∧ KeepsOthers W (w1.setCell ⟨B, 0, none⟩ v') ∧ Upd (fun k => k = B ∨ n₀ ≤ k) W (w1.setCell ⟨B, 0, none⟩ v') := by
  have hv1 : Boxed w1 B t v := (hv.alloc tmp).kept hgrow (hv.not_row hte hrow)
  refine ⟨hv1, hv1.set v', hown'.kept (grownBy_setCell' w1 B v') (.inr (hv1.not_row hte hown').symm), ?_, ?_⟩
  · refine ((KeepsOthers.alloc W tmp).trans (KeepsOthers.of_grownBy hgrow fun j o ej hj => ?_)).trans (KeepsOthers.setCell _ _ _)
    rcases (hrow.alloc tmp).2 with ⟨rfl, _⟩ | ⟨g, cap, cur, rfl, _, hgb, _⟩
    · simp [Value.ownBlock] at ej
    · obtain rfl : g = j := by simpa [Value.ownBlock] using ej
      rw [hgb] at hj; cases hj; rfl
  · refine Upd.setCell (p := ⟨B, 0, none⟩) (Upd.trans ((Upd.refl _ W).alloc tmp) (Upd.of_grown hgrow) fun j _ ej => ?_) (fun _ => .inl rfl) v'
    rcases hrow.2 with ⟨rfl, _⟩ | ⟨g, cap, cur, rfl, hb, _, _⟩
    · simp [Value.ownBlock] at ej
    · obtain rfl : j = g := by simpa [Value.ownBlock] using ej
      exact .inr hb
theorem hinfo_num3 : (Try.prog.info? 3).map (fun i => (i.zero, i.size, i.bytes)) = some (some (.int .i64 0), 1, 8) := by kernel_rfl
theorem equalIn_func_nil (d : Nat) (w : World) (f : Fn) (x y : Array Value) : (Op.equalIn (d + 1) 91 (.func f x y) .nilFunc).run Try.prog w = .ok false w := by
  simp [Op.equalIn, run_underlying Try.underlying91]
theorem equal_func_nil (w : World) (f : Fn) (x y : Array Value) : (Op.equal 91 (.func f x y) .nilFunc).run Try.prog w = .ok false w := equalIn_func_nil 9999 w f x y
theorem binOp_func_nil (w : World) (f : Fn) (x y : Array Value) : (binOp .eql 91 (.func f x y) .nilFunc).run Try.prog w = .ok (.bool false) w := by
  simp [binOp, Op.intCmp, equal_func_nil, Result.andThen]
set_option maxRecDepth 100000 in
set_option maxHeartbeats 2000000 in
theorem missLaw_in (v : Value) (out : List Int) (hlen : out.length ≤ 300) (W : World)
    (hM : Calls Try.prog 44 #[v] (W.alloc (.cells #[.slice none 0 0] 43)) fun e w' => ∃ Bs oA oc, e = .returned (.func (.func 80) #[] #[.pointer (some ⟨Bs, 0, none⟩)]) ∧ w'.cell? ⟨Bs, 0, none⟩ = some (.slice oA out.length oc) ∧
      Own (W.heap.size + 1) w' (.slice oA out.length oc) 1 (out.map numC) ∧ Same (W.alloc (.cells #[.slice none 0 0] 43)) w') :
    CallsIn Fence.wide 3 Try.prog 23 #[v] W fun e w' => ∃ vo, e = .returned vo ∧ Own W.heap.size w' vo 1 (out.map numC) ∧ Same W w' := by
  have h41 : Fence.wide.fn 44 := trivial
  have h55 : Fence.wide.fn 80 := trivial
  obtain ⟨i0, hi, hz0, hz1, hz2⟩ := info_parts hinfo_num3
  have hs0 := (Upd.refl (fun _ => False) W).alloc (.cells #[.slice none 0 0] 43)
  have hR := Lib.hid ((callsIn_wide (n := 2)).2 hM)
  have HS0 := Lib.hid hs0
  clear hs0 hM
  refine callsIn_of_wp_marks Try.func23 rfl trivial ?_ rfl
  simp only [Try.ntmps23, List.size_toArray, List.length_cons, List.length_nil, Nat.reduceAdd, Nat.reduceSub, Array.replicate_succ, Array.replicate_zero, List.push_toArray, List.append_toArray, List.nil_append, List.cons_append]
  gi_wp2_with (gi_at_call 44; refine hR.out.mono ?_; rintro e w1 ⟨Bs, oA, oc, rfl, r1, r2, r4⟩)
  rw [binOp_func_nil]
  simp only [Result.andThen, Oper.uponIn]
  gi_wp2
  have bO : Boxed w1 W.heap.size 43 (.slice none 0 0) := r4.heap (Boxed.new W _ _) id
  have hA : ∀ b off, 0 < out.length → oA = some (⟨b, off, none⟩ : Addr) → W.heap.size < b ∧ b < w1.heap.size := fun b off h0 e => by
    subst e
    obtain ⟨A', m', cap', e', q1, q2, q3⟩ := r2.open_
    injection e' with e1 e2 e3
    have := r2.ge (by decide) b (by simp [room]; omega)
    omega
  have hrow := RowNums.of r2.rdr
  have hsz1 := r4.size
  simp only [World.size_alloc] at hsz1
  have h400 : (400 : Nat) ≤ maxLen := by decide
  refine wpIn_rangeFunc_ownG (F := Fence.wide) rfl (by decide) (gf := 80) (lb := #[.pointer (some ⟨Bs, 0, none⟩)]) rfl h55 (enters_of Try.func80 (by kernel_rfl) rfl)
    (values_stops Fence.wide 2 h55 rfl (by decide) Bs oA oc out (by omega) w1 r1 hrow) KRow.trans KRow.book (Below.refl _ _) (fun _ => rfl)
    (fun pre Wx => (∃ v', Boxed Wx W.heap.size 43 v' ∧ Wx.ownsRow w1.heap.size 3 1 v' pre.length (pre.map numC) ∧ True) ∧ Upd (fun k => k = W.heap.size) w1 Wx)
    (fun _ _ _ => False)
    (OwnFrom.and (Own.from (holdsRow_own w1.heap.size W.heap.size 43 3 1 (fun pre : List Int => pre.length) (fun pre => pre.map numC) (fun _ _ => True)) _) (fun s A B row hs hg hr => Upd.trans hs (Upd.of_grown hg) (fun k hk e => by have := (hr k e.symm).1; omega)))
    (fun _ _ _ _ _ hs _ _ => hs)
    ⟨⟨_, bO, World.ownsRow_nil _ _ _ _, trivial⟩, Upd.refl _ _⟩
    (fun x => { tmps := #[v, undef, .slice none 0 0, .pointer (some ⟨W.heap.size, 0, none⟩), .func (.func 80) #[] #[.pointer (some ⟨Bs, 0, none⟩)], .int .i64 x, v, .func (.func 80) #[] #[.pointer (some ⟨Bs, 0, none⟩)], .func (.func 80) #[] #[.pointer (some ⟨Bs, 0, none⟩)], .bool false, .func (.func 80) #[] #[.pointer (some ⟨Bs, 0, none⟩)], .int .i64 x, undef, undef, undef, undef, undef], defers := [] }) ?assign ?body ?done ?stop
  case assign =>
    intro l x Wx K hK
    gi_wp2
    exact hK
  case body =>
    rintro l pre x Wx ⟨⟨v', hv', hrow', -⟩, hU⟩ hlt
    have hc := hv'.cell
    have hz := hU.size
    gi_wp2_with (gi_at_builtin; refine wpListIn_append_own _ rfl _ _ 43 rfl w1.heap.size 3 i0 (.int .i64 0) 1 8 Try.underlying43 hi hz0 hz1 hz2 rfl (by decide) _ _ _ rfl (hrow'.alloc _) ⟨Wx.heap.size, 0, none⟩ 1 1 [.int .i64 x] rfl rfl (cell_one_new _ _ _) (by simp [Value.oneCell']) (by omega) (by omega) (by simp; omega) ?_; intro v'' wa hown' hgrow _; obtain ⟨g', cap', rfl⟩ := ownsRow_succ hown'; obtain ⟨hv1, hv2, hr2, hk2, hb2⟩ := boxed_appended hv' (by decide) hrow' hz hown' hgrow; have hc1 := hv1.cell; have hf1 := hv1.frozen)
    exact ⟨hk2.from _, KRow.of hb2 (fun b off h0 e => by have := hA b off h0 e; omega), ⟨_, hv2, by simpa [numC] using hr2, trivial⟩, Upd.trans hU hb2 (fun k hk e => by omega)⟩
  case done =>
    rintro D ys Wx hD rfl ⟨⟨v', hv', hrow', -⟩, hU⟩ hK
    have hc := hv'.cell
    gi_wp2
    refine ⟨by simp, .inl ⟨_, _, rfl, run_takeDeferred hK, ?_⟩⟩
    have hU2 : Upd (fun k => k = W.heap.size) w1 (Wx.putObj D (.deferred none)) := Upd.trans hU (Upd.of_grown (grownBy_putObj' Wx D (.deferred none))) (fun k hk e => by injection e with e; omega)
    have hown := (Own.of_row (ownsRow_putObj hrow' (.deferred none) hK rfl)).1
    refine ⟨_, results_tmp rfl _ _ _, v', rfl, hown.mono (by omega), ?_⟩
    exact Same.into (Same.trans HS0.out r4) hU2 (fun k e => by omega)
  case stop =>
    rintro D c pre Wx _ _ h _
    exact h.elim
theorem missLaw_any (v : Value) (out : List Int) (hlen : out.length ≤ 300) (W : World)
    (hM : Calls Try.prog 44 #[v] (W.alloc (.cells #[.slice none 0 0] 43)) fun e w' => ∃ Bs oA oc, e = .returned (.func (.func 80) #[] #[.pointer (some ⟨Bs, 0, none⟩)]) ∧ w'.cell? ⟨Bs, 0, none⟩ = some (.slice oA out.length oc) ∧
      Own (W.heap.size + 1) w' (.slice oA out.length oc) 1 (out.map numC) ∧ Same (W.alloc (.cells #[.slice none 0 0] 43)) w') :
    Calls Try.prog 23 #[v] W fun e w' => ∃ vo, e = .returned vo ∧ Own W.heap.size w' vo 1 (out.map numC) ∧ Same W w' := (callsIn_wide (n := 3)).1 (missLaw_in v out hlen W hM)
end Go.Proofs.Ytccbkagmglddfaa
