/- LeaseOnce's plain law: places of numbers; taking out what was told, one by one. -/
import Derived.Test.YtoepflfchcoogaaReadP
namespace Go.Proofs.Ytoepflfchcoogaa
open Go.RowKit
set_option linter.unusedVariables false
set_option linter.unusedSimpArgs false
attribute [local go_sem ↓] Go.wp_at_zero Go.wp_at_succ
/-- Where a number stands; -1: nowhere. -/
def placeN (xs : List Int) (n : Int) : Int := match xs.findIdx? (fun x => x == n) with
  | some i => (i : Int)
  | none => -1
theorem placeN_none (n : Int) (xs : List Int) (h : ∀ j (hj : j < xs.length), xs.getD j 0 ≠ n) : placeN xs n = -1 := by
  have : xs.findIdx? (fun h => h == n) = none := by
    rw [List.findIdx?_eq_none_iff]
    intro x hx
    obtain ⟨j, hj, rfl⟩ := List.getElem_of_mem hx
    have := h j hj
    rw [List.getD_eq_getElem?_getD, List.getElem?_eq_getElem hj] at this
    simpa using this
  unfold placeN
  rw [this]
theorem placeN_some (n : Int) (xs : List Int) (k : Nat) (hk : k < xs.length) (h1 : xs.getD k 0 = n) (h2 : ∀ j (hj : j < xs.length), j < k → xs.getD j 0 ≠ n) : placeN xs n = k := by
  have : xs.findIdx? (fun h => h == n) = some k := by
    rw [List.findIdx?_eq_some_iff_getElem]
    rw [List.getD_eq_getElem?_getD, List.getElem?_eq_getElem hk] at h1
    refine ⟨hk, by simpa using h1, fun j hj => ?_⟩
    have := h2 j (by omega) hj
    rw [List.getD_eq_getElem?_getD, List.getElem?_eq_getElem (by omega)] at this
    simpa using this
  unfold placeN
  rw [this]
/-- The law's place. -/
theorem placeLaw_any {W : World} {v : Value} {xs : List Int} (h : Rdr W v 1 (xs.map numC)) (hlen : xs.length ≤ 100000) (n : Int) : Calls Try.prog 28 #[v, .int .i64 n] W fun e w' => e = .returned (.int .i64 (placeN xs n)) ∧ w' = W := by
  obtain ⟨A, ca, rfl⟩ := rows_open h
  have HA := Lib.hid (RowNums.of h)
  obtain ⟨N, hN⟩ : ∃ N, N = xs.length := ⟨_, rfl⟩
  rw [show xs.length = N from hN.symm] at hlen ⊢
  have HN := Lib.hid hN
  clear h hN
  go_enter Try.func28, Try.ntmps28
  go_wp2_with fail
  go_loop [5] (fun v5 => ∃ k : Nat, k ≤ N ∧ v5 = .int .i64 k ∧ Hid (∀ j (hj : j < xs.length), j < k → xs.getD j 0 ≠ n)) (fun v5 => N - (intOf v5).toNat)
  case atStart => exact ⟨0, by omega, rfl, fun j hj h => by omega⟩
  case round =>
    obtain ⟨k, hk, rfl, hno⟩ := hrel
    by_cases hlt : k < N
    · have hkl : k < xs.length := by have := HN.out; omega
      obtain ⟨b, off, rfl, x0⟩ := HA.out k hkl
      have g1 : (k : Int) < (N : Int) := by omega
      by_cases he : xs.getD k 0 = n
      · have hidx := Lib.hid (placeN_some n xs k hkl he hno.out)
        have hb : (xs.getD k 0 == n) = true := by simpa using he
        generalize xs.getD k 0 = y0 at x0 hb
        clear he
        go_wp2_with fail
        go_ret
        exact ⟨ret_int hidx.out.symm, rfl⟩
      · have hb : (xs.getD k 0 == n) = false := by simpa using he
        have HE := Lib.hid he
        generalize hy0 : xs.getD k 0 = y0 at x0 hb
        clear he hy0
        go_wp2_with fail
        go_round
        case rel =>
          refine ⟨k + 1, by omega, by go_num, fun j hj hjk => ?_⟩
          by_cases hjk2 : j = k
          · subst hjk2; exact HE.out
          · exact hno.out j hj (by omega)
        case measure => simp [intOf]; omega
    · obtain rfl : k = N := by omega
      have hidx := Lib.hid (placeN_none n xs fun j hj => hno.out j hj (by have := HN.out; omega))
      go_wp2_with fail
      go_ret
      exact ⟨ret_int hidx.out.symm, rfl⟩
/-- Numbers come but once. -/
def Distinct (ls : List (Int × Int)) : Prop := (ls.map (·.1)).Nodup
theorem Distinct.filter {ls : List (Int × Int)} (h : Distinct ls) (f : Int × Int → Bool) : Distinct (ls.filter f) := List.Nodup.sublist (List.Sublist.map _ List.filter_sublist) h
/-- Where x stands. -/
theorem placeN_at (pre suf : List (Int × Int)) (x : Int × Int) (h : Distinct (pre ++ x :: suf)) : placeN ((pre ++ x :: suf).map (·.1)) x.1 = pre.length := by
  refine placeN_some _ _ pre.length (by simp) (by simp) fun j hj hlt => ?_
  unfold Distinct at h
  rw [List.map_append, List.map_cons] at h
  have hn := (List.nodup_append.1 h).2.2
  have hj2 : (List.map (·.1) (pre ++ x :: suf)).getD j 0 = (pre[j]'hlt).1 := by
    rw [List.getD_eq_getElem?_getD, List.getElem?_map, List.getElem?_append_left hlt, List.getElem?_eq_getElem hlt]
    rfl
  rw [hj2]
  exact hn _ (List.mem_map_of_mem (List.getElem_mem hlt)) _ (List.mem_cons_self ..)
/-- The next one that f takes. -/
theorem filter_split (f : Int × Int → Bool) (ls : List (Int × Int)) (x : Int × Int) (t : List (Int × Int)) (h : ls.filter f = x :: t) : ∃ r1 r2, ls = r1 ++ x :: r2 ∧ r1.filter f = [] ∧ f x = true ∧ r2.filter f = t := by
  induction ls with
  | nil => simp at h
  | cons y ys ih =>
    by_cases hy : f y = true
    · rw [List.filter_cons_of_pos hy] at h
      injection h with h1 h2
      subst h1
      exact ⟨[], ys, rfl, rfl, hy, h2⟩
    · rw [List.filter_cons_of_neg hy] at h
      obtain ⟨r1, r2, e1, e2, e3, e4⟩ := ih h
      exact ⟨y :: r1, r2, by rw [e1]; rfl, by rw [List.filter_cons_of_neg hy]; exact e2, e3, e4⟩
/-- The first k elements of a row of the call's own, with no room behind them. -/
theorem Own.frontc {base : Nat} {w : World} {A : Option Addr} {n cap sz : Nat} {cs : List Value} (h : Own base w (.slice A n cap) sz cs) (k : Nat) (hk : k ≤ n) : Own base w (.slice A k k) sz (cs.take (k * sz)) := by
  obtain ⟨A', n', cap', e, h1, h2, h3, h4⟩ := h
  injection e with e1 e2 e3
  subst e1 e2 e3
  refine ⟨_, k, k, rfl, ?_, Nat.le_refl _, by omega, ?_⟩
  · rw [List.length_take, h1]
    have : k * sz ≤ n * sz := Nat.mul_le_mul_right _ hk
    omega
  · rcases h4 with h4 | ⟨b, off, e1, hb, hc, hr⟩
    · exact .inl (by omega)
    · refine .inr ⟨b, off, e1, hb, fun j u hj => hc j u ?_, fun j hj => hr j ?_⟩
      · rw [List.getElem?_take] at hj
        split at hj
        · exact hj
        · cases hj
      · have : k * sz ≤ cap * sz := Nat.mul_le_mul_right _ (by omega)
        omega
theorem room_frontc (A : Option Addr) (n cap k : Nat) (hk : k ≤ n) (hn : n ≤ cap) : ∀ j, room (.slice A k k) = some j → room (.slice A n cap) = some j := by
  intro j hj
  cases A with
  | none => simp [room] at hj
  | some a =>
    simp only [room] at hj ⊢
    by_cases h0 : k = 0
    · simp [h0] at hj
    · rw [if_neg h0] at hj
      rw [if_neg (by omega)]
      exact hj
end Go.Proofs.Ytoepflfchcoogaa
