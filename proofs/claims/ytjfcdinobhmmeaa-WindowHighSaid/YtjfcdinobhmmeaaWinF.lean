/- Held commands by their numbers: what window.of's function, slices.IndexFunc and ContainsFunc over it compute. -/
import Derived.Test.YtjfcdinobhmmeaaRowsB
import Derived.Lib.Hide
namespace Go.Proofs.Ytjfcdinobhmmeaa
open Go.RowKit
set_option linter.unusedVariables false
set_option linter.unusedSimpArgs false

/-- A held command's two cells. -/
def heldC (h : Int × Int) : List Value := [.int .u32 h.1, .int .i64 h.2]
/-- A row of held commands. -/
def HeldAt (w : World) (v : Value) (ls : List (Int × Int)) : Prop := Rdr w v 2 (ls.flatMap heldC)
theorem HeldAt.same {w w' : World} {v : Value} {ls : List (Int × Int)} (h : HeldAt w v ls) (hs : Same w w') : HeldAt w' v ls := Rdr.same h hs
theorem held_length (ls : List (Int × Int)) : (ls.flatMap heldC).length = ls.length * 2 := by
  induction ls with
  | nil => rfl
  | cons h t ih => simp [heldC, ih]; omega
theorem held_get (ls : List (Int × Int)) (k : Nat) (hk : k < ls.length) : (ls.flatMap heldC)[k * 2]? = some (.int .u32 (ls[k]'hk).1) ∧ (ls.flatMap heldC)[k * 2 + 1]? = some (.int .i64 (ls[k]'hk).2) := by
  induction ls generalizing k with
  | nil => simp at hk
  | cons h t ih =>
    cases k with
    | zero => simp [heldC]
    | succ k =>
      have := ih k (by simpa using hk)
      rw [show (k + 1) * 2 = k * 2 + 2 by omega, show k * 2 + 2 + 1 = (k * 2 + 1) + 2 by omega]
      simpa [heldC] using this
theorem HeldAt.open_ {w : World} {v : Value} {ls : List (Int × Int)} (h : HeldAt w v ls) : ∃ A cap, v = .slice A ls.length cap ∧ ls.length ≤ cap ∧ cap ≤ 9223372036854775807 := by
  obtain ⟨A, n, cap, rfl, h1, h2, h3, _⟩ := h
  rw [held_length] at h1
  exact ⟨A, cap, by congr 1; omega, by omega, h3⟩
theorem HeldAt.at_ {w : World} {A : Option Addr} {n cap : Nat} {ls : List (Int × Int)} (h : HeldAt w (.slice A n cap) ls) (k : Nat) (hk : k < ls.length) :
    ∃ b off, A = some ⟨b, off, none⟩ ∧ w.cell? ⟨b, off + k * 2, none⟩ = some (.int .u32 (ls[k]'hk).1) ∧ w.cell? ⟨b, off + k * 2 + 1, none⟩ = some (.int .i64 (ls[k]'hk).2) := by
  obtain ⟨A', n', cap', e, h1, h2, h3, h4⟩ := h
  injection e with e1 e2 e3
  subst e1
  rcases h4 with h4 | ⟨b, off, rfl, hc⟩
  · have := held_length ls
    rw [h4] at this
    simp at this
    omega
  · obtain ⟨g0, g1⟩ := held_get ls k hk
    exact ⟨b, off, rfl, hc _ _ g0, by rw [Nat.add_assoc]; exact hc _ _ g1⟩
theorem of1_any (a id n : Int) (b : Nat) (w : World) (hc : w.cell? ⟨b, 0, none⟩ = some (.int .u32 n)) :
    Calls Try.prog 28 #[.agg #[.int .u32 a, .int .i64 id], .pointer (some ⟨b, 0, none⟩)] w fun r w' => r = .returned (.bool (a == n)) ∧ Same w w' := by
  have hlt : b < w.heap.size := by
    unfold World.cell? at hc
    cases hk : w.heap[b]? with
    | none => rw [hk] at hc; simp at hc
    | some o => exact (Array.getElem?_eq_some_iff.1 hk).1
  have hc2 := ((Upd.refl (fun _ => False) w).alloc (.cells #[.int .u32 a, .int .i64 id] 56)).cell hc fun h => h
  go_enter Try.func28, Try.ntmps28
  go_wp2
  go_ret
  exact ⟨rfl, (Upd.refl _ w).alloc _⟩
/-- Where a number is held; -1: nowhere. -/
def idxOf (n : Int) (ls : List (Int × Int)) : Int := match ls.findIdx? (fun h => h.1 == n) with
  | some i => (i : Int)
  | none => -1
theorem idxOf_none (n : Int) (ls : List (Int × Int)) (h : ∀ j (hj : j < ls.length), (ls[j]'hj).1 ≠ n) : idxOf n ls = -1 := by
  have : ls.findIdx? (fun h => h.1 == n) = none := by
    rw [List.findIdx?_eq_none_iff]
    intro x hx
    obtain ⟨j, hj, rfl⟩ := List.getElem_of_mem hx
    simpa using h j hj
  unfold idxOf
  rw [this]
theorem idxOf_some (n : Int) (ls : List (Int × Int)) (k : Nat) (hk : k < ls.length) (h1 : (ls[k]'hk).1 = n) (h2 : ∀ j (hj : j < ls.length), j < k → (ls[j]'hj).1 ≠ n) : idxOf n ls = k := by
  have : ls.findIdx? (fun h => h.1 == n) = some k := by
    rw [List.findIdx?_eq_some_iff_getElem]
    exact ⟨hk, by simpa using h1, fun j hj => by simpa using h2 j (by omega) hj⟩
  unfold idxOf
  rw [this]
theorem index_any (v : Value) (ls : List (Int × Int)) (n : Int) (b : Nat) (w : World) (h : HeldAt w v ls) (hc : w.cell? ⟨b, 0, none⟩ = some (.int .u32 n)) :
    Calls Try.prog 25 #[v, .func (.func 28) #[] #[.pointer (some ⟨b, 0, none⟩)]] w fun r w' => r = .returned (.int .i64 (idxOf n ls)) ∧ Same w w' := by
  obtain ⟨A, cap, rfl, q1, q2⟩ := h.open_
  have H := Lib.hid h
  obtain ⟨N, hN⟩ : ∃ N, N = ls.length := ⟨_, rfl⟩
  rw [← hN] at q1
  rw [show ls.length = N from hN.symm]
  have HN := Lib.hid hN
  clear h hN
  go_enter Try.func25, Try.ntmps25
  go_wp2_with fail
  go_loopw [8] (fun v8 wr => ∃ k : Nat, k ≤ N ∧ v8 = .int .i64 k ∧ Same w wr ∧ Hid (∀ j (hj : j < ls.length), j < k → (ls[j]'hj).1 ≠ n)) (fun v8 _ => N - (intOf v8).toNat)
  case atStart => exact ⟨0, by omega, rfl, Upd.refl _ w, fun j hj h => by omega⟩
  case round =>
    obtain ⟨k, hk, rfl, hs, hno⟩ := hrel
    by_cases hlt : k < N
    · have hkl : k < ls.length := by have := HN.out; omega
      obtain ⟨b', off, rfl, c0, c1⟩ := (H.out.same hs).at_ k hkl
      have g1 : (k : Int) < (N : Int) := by omega
      have hcw := hs.cell hc fun h => h
      by_cases he : (ls[k]'hkl).1 = n
      · have hb : ((ls[k]'hkl).1 == n) = true := by simpa using he
        have hidx := idxOf_some n ls k hkl he hno.out
        have hof := of1_any (ls[k]'hkl).1 (ls[k]'hkl).2 n b wr hcw
        rw [hb] at hof
        have HOF := Lib.hid hof
        have HI := Lib.hid hidx
        clear hof hidx he hb
        go_wp2_with fail
        refine HOF.out.mono ?_
        rintro r w1 ⟨rfl, hs1⟩
        go_wp2_with fail
        go_ret
        exact ⟨ret_int HI.out.symm, Same.trans hs hs1⟩
      · have hb : ((ls[k]'hkl).1 == n) = false := by simpa using he
        have hof := of1_any (ls[k]'hkl).1 (ls[k]'hkl).2 n b wr hcw
        rw [hb] at hof
        have HOF := Lib.hid hof
        have HE := Lib.hid he
        clear hof he hb
        go_wp2_with fail
        refine HOF.out.mono ?_
        rintro r w1 ⟨rfl, hs1⟩
        go_wp2_with fail
        go_roundw
        case rel =>
          refine ⟨k + 1, by omega, by go_num, Same.trans hs hs1, fun j hj hjk => ?_⟩
          by_cases hjk2 : j = k
          · subst hjk2; exact HE.out
          · exact hno.out j hj (by omega)
        case measure => simp [intOf]; omega
    · obtain rfl : k = N := by omega
      have hidx := idxOf_none n ls fun j hj => hno.out j hj (by have := HN.out; omega)
      have HI := Lib.hid hidx
      clear hidx
      go_wp2_with fail
      go_ret
      exact ⟨ret_int HI.out.symm, hs⟩
theorem contains_any (v : Value) (ls : List (Int × Int)) (n : Int) (b : Nat) (w : World) (h : HeldAt w v ls) (hc : w.cell? ⟨b, 0, none⟩ = some (.int .u32 n)) :
    Calls Try.prog 23 #[v, .func (.func 28) #[] #[.pointer (some ⟨b, 0, none⟩)]] w fun r w' => r = .returned (.bool (decide (0 ≤ idxOf n ls))) ∧ Same w w' := by
  have hi := index_any v ls n b w h hc
  generalize idxOf n ls = I at hi
  have HI := Lib.hid hi
  clear hi
  go_enter Try.func23, Try.ntmps23
  go_wp2_with fail
  refine HI.out.mono ?_
  rintro r w1 ⟨rfl, hs1⟩
  go_wp2_with fail
  go_ret
  exact ⟨rfl, hs1⟩
/-- window.of. -/
theorem of_any (n : Int) (w : World) :
    Calls Try.prog 24 #[.int .u32 n] w fun r w' => r = .returned (.func (.func 28) #[] #[.pointer (some ⟨w.heap.size, 0, none⟩)]) ∧ w'.cell? ⟨w.heap.size, 0, none⟩ = some (.int .u32 n) ∧ Same w w' := by
  go_enter Try.func24, Try.ntmps24
  go_wp2
  go_ret
  refine ⟨rfl, ?_, (Upd.refl _ w).alloc _⟩
  have h : (w.alloc (.cells #[.int .u32 n] 22)).heap[w.heap.size]? = some (.cells #[.int .u32 n] 22) := heap_alloc_new w _
  rw [cell_of_row _ _ _ _ _ (0, 0) h]
  rfl
end Go.Proofs.Ytjfcdinobhmmeaa
