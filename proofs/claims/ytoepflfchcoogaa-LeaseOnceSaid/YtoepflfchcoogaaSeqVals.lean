/- slices.Values over a row of int64: its contract, for whatever loop body keeps the row. -/
import Derived.Test.YtoepflfchcoogaaLeaseFind
import Derived.Test.YtoepflfchcoogaaLeaseR
namespace Go.Proofs.Ytoepflfchcoogaa
open Go.RowKit Go.Shelf
set_option linter.unusedVariables false
set_option linter.unusedSimpArgs false
attribute [local go_sem] Oper.semAt_some
/-- The cells of the row's block lie as they lay. -/
def KRow (N : Nat) (A : Option Addr) (X Y : World) : Prop := ∀ b off i u, 0 < N → A = some (⟨b, off, none⟩ : Addr) → X.cell? ⟨b, i, none⟩ = some u → Y.cell? ⟨b, i, none⟩ = some u
theorem KRow.refl (N : Nat) (A : Option Addr) (X : World) : KRow N A X X := fun _ _ _ _ _ _ h => h
theorem KRow.trans {N : Nat} {A : Option Addr} {X Y Z : World} (h : KRow N A X Y) (k : KRow N A Y Z) : KRow N A X Z := fun b off i u z e c => k b off i u z e (h b off i u z e c)
theorem KRow.book {N : Nat} {w : World} {A : Option Addr} (W : World) (l : Nat) (o o' : Obj) (_ : w.heap.size ≤ l) (h : W.heap[l]? = some o) (hc : o.isCells = false) (_ : o.isWalk = false) : KRow N A W (W.putObj l o') := fun b off i u _ _ c =>
  cell_kept c (grownBy_putObj' W l o') (fun r e => by cases e; exact ⟨_, h, hc⟩)
theorem KRow.of {N : Nat} {A : Option Addr} {S : Nat → Prop} {X Y : World} (h : Upd S X Y) (hA : ∀ b off, 0 < N → A = some (⟨b, off, none⟩ : Addr) → ¬ S b) : KRow N A X Y := fun b off i u z e c => h.cell c (hA b off z e)
/-- A row of numbers: where its cells lie. -/
def RowNums (W : World) (A : Option Addr) (xs : List Int) : Prop := ∀ j, j < xs.length → ∃ b off, A = some (⟨b, off, none⟩ : Addr) ∧ W.cell? ⟨b, off + j, none⟩ = some (.int .i64 (xs.getD j 0))
theorem RowNums.keep {A : Option Addr} {X Y : World} {xs : List Int} (h : RowNums X A xs) (hk : KRow xs.length A X Y) : RowNums Y A xs := fun j hj => by
  obtain ⟨b, off, e, c⟩ := h j hj
  exact ⟨b, off, e, hk b off _ _ (by omega) e c⟩
theorem RowNums.of {W : World} {A : Option Addr} {n cap : Nat} {xs : List Int} (h : Rdr W (.slice A n cap) 1 (xs.map numC)) : RowNums W A xs := by
  intro j hj
  obtain ⟨A', n', cap', e, h1, h2, h3, h4⟩ := h
  injection e with e1 e2 e3
  subst e1
  rcases h4 with h4 | ⟨b, off, rfl, hc⟩
  · simp at h4
    subst h4
    simp at hj
  · refine ⟨b, off, rfl, hc _ _ ?_⟩
    rw [List.getElem?_map, List.getElem?_eq_getElem hj, List.getD_eq_getElem?_getD, List.getElem?_eq_getElem hj]
    rfl
set_option maxRecDepth 100000 in
set_option maxHeartbeats 2000000 in
theorem values1_in (F : Fence) (n : Nat) (h7 : F.fn 55) (hro : F.round = none) (hn : 1 ≤ n) (l Bs : Nat) (A : Option Addr) (cap : Nat) (xs : List Int) (hlen : xs.length ≤ 100000) (J Jx : List Int → World → Prop)
    (hY : ∀ pre x W, J pre W → pre.length < xs.length → YieldAt F (n - 1) Try.prog l #[.int .i64 x] W fun e W' =>
      (e = .returned (.bool true) ∧ J (pre ++ [x]) W' ∧ KRow xs.length A W W') ∨ (e = .returned (.bool false) ∧ Jx (pre ++ [x]) W'))
    (W : World) (hBs : W.cell? ⟨Bs, 0, none⟩ = some (.slice A xs.length cap)) (hc : RowNums W A xs) (h0 : J [] W) :
    CallsIn F n Try.prog 55 #[.func (.yield l) #[] #[], .pointer (some ⟨Bs, 0, none⟩)] W fun e W' => (∃ v, e = .returned v) ∧
      ((J xs W') ∨ (∃ k, k < xs.length ∧ Jx (xs.take (k + 1)) W')) := by
  refine callsIn_of_wp Try.func55 rfl h7 ?_ hro
  simp only [Try.ntmps55, List.size_toArray, List.length_cons, List.length_nil, Nat.reduceAdd, Nat.reduceSub, Array.replicate_succ, Array.replicate_zero, List.push_toArray, List.append_toArray, List.nil_append, List.cons_append]
  gi_wp2
  gi_loopw [7] (fun i wr => ∃ k : Nat, k ≤ xs.length ∧ i = .int .i64 (k : Int) ∧ J (xs.take k) wr ∧ KRow xs.length A W wr) (fun i _ => xs.length - (intOf i).toNat)
  case atStart => exact ⟨0, Nat.zero_le _, rfl, by simpa using h0, KRow.refl _ _ _⟩
  case round =>
    obtain ⟨k, hk, rfl, hJs, hnx⟩ := hrel
    by_cases hlt : k < xs.length
    · obtain ⟨b, off, rfl, c0⟩ := hc k hlt
      have d0 := hnx b off _ _ (by omega) rfl c0
      have hcs : xs.take (k + 1) = xs.take k ++ [xs.getD k 0] := by
        rw [List.take_succ_eq_append_getElem hlt, List.getD_eq_getElem?_getD, List.getElem?_eq_getElem hlt]
        rfl
      obtain ⟨fn, tmps, assign, body, hy, hR⟩ := hY _ (xs.getD k 0) wr hJs (by simp; omega)
      generalize xs.getD k 0 = x at d0 hy hR hcs
      have g2 : (k : Int) < (xs.length : Int) := by omega
      have HCS := Lib.hid hcs
      have HJ := Lib.hid hJs
      have HNX := Lib.hid hnx
      clear hJs hY hc hcs c0 hnx
      gi_wp2
      refine hR.mono ?_
      rintro e W3 (⟨rfl, hJ3, hk3⟩ | ⟨rfl, hJx3⟩)
      · have HJ3 := Lib.hid hJ3
        have HK3 := Lib.hid hk3
        clear hJ3 hk3
        gi_wp2
        go_roundw
        case rel => exact ⟨k + 1, by omega, by go_num, by rw [HCS.out]; exact HJ3.out, KRow.trans HNX.out HK3.out⟩
        case measure => simp [intOf]; omega
      · have HJ3 := Lib.hid hJx3
        clear hJx3
        gi_wp2
        refine bodyPost_ret (results_none rfl _ _ _) rfl ?_
        exact ⟨⟨_, rfl⟩, .inr ⟨k, hlt, by rw [HCS.out]; exact HJ3.out⟩⟩
    · obtain rfl : k = xs.length := by omega
      have HJ := Lib.hid hJs
      clear hJs hY hc
      gi_wp2
      go_end0
      exact ⟨⟨_, rfl⟩, .inl (by simpa using HJ.out)⟩
theorem values_stops (F : Fence) (n : Nat) (h7 : F.fn 55) (hro : F.round = none) (hn : 1 ≤ n) (Bs : Nat) (A : Option Addr) (cap : Nat) (xs : List Int) (hlen : xs.length ≤ 100000) (w : World)
    (hc : w.cell? ⟨Bs, 0, none⟩ = some (.slice A xs.length cap)) (hI : RowNums w A xs) :
    SeqStopsK F n Try.prog 55 #[.pointer (some ⟨Bs, 0, none⟩)] (fun x : Int => #[Value.int .i64 x]) (KRow xs.length A) (fun ys => ys = xs) (fun pre => ∃ k, k < xs.length ∧ pre = xs.take (k + 1)) xs.length w := fun l J Jx W hW _ _ hY h0 => by
  refine (values1_in F n h7 hro hn l Bs A cap xs hlen J Jx hY W ((hW.cell (p := ⟨Bs, 0, none⟩) (World.block_lt_of_cell? w _ hc)).trans hc) (fun j hj => ?_) h0).mono ?_
  · obtain ⟨b, off, e, k0⟩ := hI j hj
    exact ⟨b, off, e, (hW.cell (p := ⟨b, off + j, none⟩) (World.block_lt_of_cell? w _ k0)).trans k0⟩
  · rintro e W' ⟨he, hj | ⟨k, hk, hj⟩⟩
    · exact ⟨he, .inl ⟨_, rfl, hj⟩⟩
    · exact ⟨he, .inr ⟨_, ⟨k, hk, rfl⟩, hj⟩⟩
end Go.Proofs.Ytoepflfchcoogaa
