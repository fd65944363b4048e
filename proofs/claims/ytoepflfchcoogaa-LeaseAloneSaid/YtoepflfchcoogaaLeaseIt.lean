/- slices.Backward over a row of rounds: its contract, for whatever loop body keeps what lay. -/
import Derived.Test.YtoepflfchcoogaaFoot
import Derived.RangeFuncNested
import Derived.RangeFuncBound
import Derived.RangeFuncCalls
import Derived.RangeFuncLeaves
import Derived.RangeFuncBox
import Derived.Shelf.Abstract
import Derived.Shelf.RegionOpen
import Derived.OwnWalkIn
import Derived.TacticsInMore
import Derived.LoopNIn
import Derived.LoopIn
namespace Go.Proofs.Ytoepflfchcoogaa
open Go.RowKit Go.Shelf
set_option linter.unusedVariables false
set_option linter.unusedSimpArgs false
attribute [local go_sem] Oper.semAt_some

/-- A round's two cells. -/
def sentC (h : Int × Int) : List Value := [.int .i64 h.1, .int .i64 h.2]
theorem sent_length (ls : List (Int × Int)) : (ls.flatMap sentC).length = ls.length * 2 := by
  induction ls with
  | nil => rfl
  | cons h t ih => simp [sentC, ih]; omega
theorem sent_get (ls : List (Int × Int)) (k : Nat) (hk : k < ls.length) : (ls.flatMap sentC)[k * 2]? = some (.int .i64 (ls[k]'hk).1) ∧ (ls.flatMap sentC)[k * 2 + 1]? = some (.int .i64 (ls[k]'hk).2) := by
  induction ls generalizing k with
  | nil => simp at hk
  | cons h t ih =>
    cases k with
    | zero => simp [sentC]
    | succ k =>
      have := ih k (by simpa using hk)
      rw [show (k + 1) * 2 = k * 2 + 2 by omega, show k * 2 + 2 + 1 = (k * 2 + 1) + 2 by omega]
      simpa [sentC] using this
/-- What Backward hands out: the place, the round, its time. -/
abbrev BX := Nat × Int × Int
def bxV (x : BX) : Array Value := #[.int .i64 (x.1 : Int), .agg #[.int .i64 x.2.1, .int .i64 x.2.2]]
/-- What has come when k places are left. -/
def come (ls : List (Int × Int)) (k : Nat) : List BX := ((List.range ls.length).drop k).reverse.map fun j => (j, ls.getD j (0, 0))
theorem come_all (ls : List (Int × Int)) : come ls ls.length = [] := by
  unfold come
  rw [List.drop_eq_nil_of_le (by simp)]
  rfl
theorem come_succ (ls : List (Int × Int)) (k : Nat) (hk : k < ls.length) : come ls k = come ls (k + 1) ++ [(k, ls.getD k (0, 0))] := by
  unfold come
  rw [List.drop_eq_getElem_cons (by simpa using hk)]
  simp
theorem come_length (ls : List (Int × Int)) (k : Nat) (hk : k ≤ ls.length) : (come ls k).length = ls.length - k := by
  simp [come]
set_option maxRecDepth 100000 in
set_option maxHeartbeats 2000000 in
theorem backward1_in (F : Fence) (n : Nat) (h7 : F.fn 54) (hro : F.round = none) (hn : 1 ≤ n) (l Bs n₀ : Nat) (A : Option Addr) (cap : Nat) (ls : List (Int × Int)) (hlen : ls.length ≤ 100000) (J Jx : List BX → World → Prop)
    (hY : ∀ pre x W, J pre W → pre.length < ls.length → YieldAt F (n - 1) Try.prog l (bxV x) W fun e W' =>
      (e = .returned (.bool true) ∧ J (pre ++ [x]) W' ∧ Below n₀ W W') ∨ (e = .returned (.bool false) ∧ Jx (pre ++ [x]) W'))
    (W : World) (hBs : W.cell? ⟨Bs, 0, none⟩ = some (.slice A ls.length cap)) (hBl : Bs < n₀) (hc : ∀ j, j < ls.length → ∃ b off, A = some ⟨b, off, none⟩ ∧ b < n₀ ∧ W.cell? ⟨b, off + j * 2, none⟩ = some (.int .i64 (ls.getD j (0, 0)).1) ∧ W.cell? ⟨b, off + j * 2 + 1, none⟩ = some (.int .i64 (ls.getD j (0, 0)).2)) (h0 : J [] W) :
    CallsIn F n Try.prog 54 #[.func (.yield l) #[] #[], .pointer (some ⟨Bs, 0, none⟩)] W fun e W' => (∃ v, e = .returned v) ∧
      ((J (come ls 0) W') ∨ (∃ k, k < ls.length ∧ Jx (come ls k) W')) := by
  refine callsIn_of_wp Try.func54 rfl h7 ?_ hro
  simp only [Try.ntmps54, List.size_toArray, List.length_cons, List.length_nil, Nat.reduceAdd, Nat.reduceSub, Array.replicate_succ, Array.replicate_zero, List.push_toArray, List.append_toArray, List.nil_append, List.cons_append]
  gi_wp2
  gi_loopw [3] (fun i wr => ∃ k : Nat, k ≤ ls.length ∧ i = .int .i64 ((k : Int) - 1) ∧ J (come ls k) wr ∧ Below n₀ W wr) (fun i _ => (intOf i + 1).toNat)
  case atStart => exact ⟨ls.length, Nat.le_refl _, rfl, by rw [come_all]; exact h0, Below.refl _ _⟩
  case round =>
    obtain ⟨k, hk, rfl, hJs, hnx⟩ := hrel
    have hBr : wr.cell? ⟨Bs, 0, none⟩ = some (.slice A ls.length cap) := (hnx.cell (p := ⟨Bs, 0, none⟩) hBl).trans hBs
    rcases k with _ | k
    · have HJ := Lib.hid hJs
      clear hJs hY hc
      gi_wp2
      go_end0
      exact ⟨⟨_, rfl⟩, .inl HJ.out⟩
    · obtain ⟨b, off, rfl, hb, c0, c1⟩ := hc k (by omega)
      have d0 : wr.cell? ⟨b, off + k * 2, none⟩ = some (.int .i64 (ls.getD k (0, 0)).1) := (hnx.cell (p := ⟨b, off + k * 2, none⟩) hb).trans c0
      have d1 : wr.cell? ⟨b, off + k * 2 + 1, none⟩ = some (.int .i64 (ls.getD k (0, 0)).2) := (hnx.cell (p := ⟨b, off + k * 2 + 1, none⟩) hb).trans c1
      have hcs := come_succ ls k (by omega)
      obtain ⟨fn, tmps, assign, body, hy, hR⟩ := hY _ (k, ls.getD k (0, 0)) wr hJs (by rw [come_length _ _ hk]; omega)
      dsimp only [bxV] at hy
      obtain ⟨x, hx⟩ : ∃ x, x = ls.getD k (0, 0) := ⟨_, rfl⟩
      rw [← hx] at d0 d1 hy hR hcs
      obtain ⟨x1, x2⟩ := x
      have g1 : ((k + 1 : Nat) : Int) - 1 = (k : Int) := by omega
      rw [g1]
      have g2 : (k : Int) < (ls.length : Int) := by omega
      have HCS := Lib.hid hcs
      have HJ := Lib.hid hJs
      clear hJs hY hc hcs hx c0 c1 g1
      gi_wp2
      refine hR.mono ?_
      rintro e W3 (⟨rfl, hJ3, hk3⟩ | ⟨rfl, hJx3⟩)
      · have HJ3 := Lib.hid hJ3
        clear hJ3
        gi_wp2
        go_roundw
        case rel => exact ⟨k, by omega, rfl, by rw [HCS.out]; exact HJ3.out, hnx.trans hk3⟩
        case measure => simp [intOf]
      · have HJ3 := Lib.hid hJx3
        clear hJx3
        gi_wp2
        refine bodyPost_ret (results_none rfl _ _ _) rfl ?_
        exact ⟨⟨_, rfl⟩, .inr ⟨k, by omega, by rw [HCS.out]; exact HJ3.out⟩⟩
end Go.Proofs.Ytoepflfchcoogaa
