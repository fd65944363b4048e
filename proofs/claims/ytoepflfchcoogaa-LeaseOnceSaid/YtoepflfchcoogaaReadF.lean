/- Reads by their numbers: what Ask's function, slices.IndexFunc and ContainsFunc over it compute. -/
import Derived.Test.YtoepflfchcoogaaLeaseO
namespace Go.Proofs.Ytoepflfchcoogaa
open Go.RowKit
set_option linter.unusedVariables false
set_option linter.unusedSimpArgs false
theorem SentAt.two {w : World} {A : Option Addr} {n cap : Nat} {ls : List (Int × Int)} (h : SentAt w (.slice A n cap) ls) (k : Nat) (hk : k < ls.length) :
    ∃ b off, A = some ⟨b, off, none⟩ ∧ w.cell? ⟨b, off + k * 2, none⟩ = some (.int .i64 (ls[k]'hk).1) ∧ w.cell? ⟨b, off + k * 2 + 1, none⟩ = some (.int .i64 (ls[k]'hk).2) := by
  obtain ⟨A', n', cap', e, h1, h2, h3, h4⟩ := h
  injection e with e1 e2 e3
  subst e1
  rcases h4 with h4 | ⟨b, off, rfl, hc⟩
  · have := sent_length ls
    rw [h4] at this
    simp at this
    omega
  · obtain ⟨g0, g1⟩ := sent_get ls k hk
    exact ⟨b, off, rfl, hc _ _ g0, by rw [Nat.add_assoc]; exact hc _ _ g1⟩
theorem ask1_any (a id n : Int) (b : Nat) (w : World) (hc : w.cell? ⟨b, 0, none⟩ = some (.int .i64 n)) :
    Calls Try.prog 39 #[.agg #[.int .i64 a, .int .i64 id], .pointer (some ⟨b, 0, none⟩)] w fun r w' => r = .returned (.bool (a == n)) ∧ Same w w' := by
  have hlt : b < w.heap.size := by
    unfold World.cell? at hc
    cases hk : w.heap[b]? with
    | none => rw [hk] at hc; simp at hc
    | some o => exact (Array.getElem?_eq_some_iff.1 hk).1
  have hc2 := ((Upd.refl (fun _ => False) w).alloc (.cells #[.int .i64 a, .int .i64 id] 84)).cell hc fun h => h
  go_enter Try.func39, Try.ntmps39
  go_wp2
  go_ret
  exact ⟨rfl, (Upd.refl _ w).alloc _⟩
/-- Where a number is held; -1: nowhere. -/
def idxOf (n : Int) (ls : List (Int × Int)) : Int := match ls.findIdx? (fun h => h.1 == n) with
  | some i => (i : Int)
  | none => -1
theorem idxOf_none (n : Int) (ls : List (Int × Int)) (h : ∀ j (hj : j < ls.length), (ls[j]'hj).1 ≠ n) : idxOf n ls = -1 := by
  have : ls.findIdx? (fun h => h.1 == n) = none := by
    rw [List.findIdx?_eq_none_iff]
    intro x hx
    obtain ⟨j, hj, rfl⟩ := List.getElem_of_mem hx
    simpa using h j hj
  unfold idxOf
  rw [this]
theorem idxOf_some (n : Int) (ls : List (Int × Int)) (k : Nat) (hk : k < ls.length) (h1 : (ls[k]'hk).1 = n) (h2 : ∀ j (hj : j < ls.length), j < k → (ls[j]'hj).1 ≠ n) : idxOf n ls = k := by
  have : ls.findIdx? (fun h => h.1 == n) = some k := by
    rw [List.findIdx?_eq_some_iff_getElem]
    exact ⟨hk, by simpa using h1, fun j hj => by simpa using h2 j (by omega) hj⟩
  unfold idxOf
  rw [this]
theorem index_any (v : Value) (ls : List (Int × Int)) (n : Int) (b : Nat) (w : World) (h : SentAt w v ls) (hc : w.cell? ⟨b, 0, none⟩ = some (.int .i64 n)) :
    Calls Try.prog 47 #[v, .func (.func 39) #[] #[.pointer (some ⟨b, 0, none⟩)]] w fun r w' => r = .returned (.int .i64 (idxOf n ls)) ∧ Same w w' := by
  obtain ⟨A, cap, rfl, q1, q2⟩ := h.open_
  have H := Lib.hid h
  obtain ⟨N, hN⟩ : ∃ N, N = ls.length := ⟨_, rfl⟩
  rw [← hN] at q1
  rw [show ls.length = N from hN.symm]
  have HN := Lib.hid hN
  clear h hN
  go_enter Try.func47, Try.ntmps47
  go_wp2_with fail
  go_loopw [8] (fun v8 wr => ∃ k : Nat, k ≤ N ∧ v8 = .int .i64 k ∧ Same w wr ∧ Hid (∀ j (hj : j < ls.length), j < k → (ls[j]'hj).1 ≠ n)) (fun v8 _ => N - (intOf v8).toNat)
  case atStart => exact ⟨0, by omega, rfl, Upd.refl _ w, fun j hj h => by omega⟩
  case round =>
    obtain ⟨k, hk, rfl, hs, hno⟩ := hrel
    by_cases hlt : k < N
    · have hkl : k < ls.length := by have := HN.out; omega
      obtain ⟨b', off, rfl, c0, c1⟩ := SentAt.two (Rdr.same H.out hs) k hkl
      have g1 : (k : Int) < (N : Int) := by omega
      have hcw := hs.cell hc fun h => h
      by_cases he : (ls[k]'hkl).1 = n
      · have hb : ((ls[k]'hkl).1 == n) = true := by simpa using he
        have hidx := idxOf_some n ls k hkl he hno.out
        have hof := ask1_any (ls[k]'hkl).1 (ls[k]'hkl).2 n b wr hcw
        rw [hb] at hof
        have HOF := Lib.hid hof
        have HI := Lib.hid hidx
        clear hof hidx he hb
        go_wp2_with fail
        refine HOF.out.mono ?_
        rintro r w1 ⟨rfl, hs1⟩
        go_wp2_with fail
        go_ret
        exact ⟨ret_int HI.out.symm, Same.trans hs hs1⟩
      · have hb : ((ls[k]'hkl).1 == n) = false := by simpa using he
        have hof := ask1_any (ls[k]'hkl).1 (ls[k]'hkl).2 n b wr hcw
        rw [hb] at hof
        have HOF := Lib.hid hof
        have HE := Lib.hid he
        clear hof he hb
        go_wp2_with fail
        refine HOF.out.mono ?_
        rintro r w1 ⟨rfl, hs1⟩
        go_wp2_with fail
        go_roundw
        case rel =>
          refine ⟨k + 1, by omega, by go_num, Same.trans hs hs1, fun j hj hjk => ?_⟩
          by_cases hjk2 : j = k
          · subst hjk2; exact HE.out
          · exact hno.out j hj (by omega)
        case measure => simp [intOf]; omega
    · obtain rfl : k = N := by omega
      have hidx := idxOf_none n ls fun j hj => hno.out j hj (by have := HN.out; omega)
      have HI := Lib.hid hidx
      clear hidx
      go_wp2_with fail
      go_ret
      exact ⟨ret_int HI.out.symm, hs⟩
theorem contains_any (v : Value) (ls : List (Int × Int)) (n : Int) (b : Nat) (w : World) (h : SentAt w v ls) (hc : w.cell? ⟨b, 0, none⟩ = some (.int .i64 n)) :
    Calls Try.prog 38 #[v, .func (.func 39) #[] #[.pointer (some ⟨b, 0, none⟩)]] w fun r w' => r = .returned (.bool (decide (0 ≤ idxOf n ls))) ∧ Same w w' := by
  have hi := index_any v ls n b w h hc
  generalize idxOf n ls = I at hi
  have HI := Lib.hid hi
  clear hi
  go_enter Try.func38, Try.ntmps38
  go_wp2_with fail
  refine HI.out.mono ?_
  rintro r w1 ⟨rfl, hs1⟩
  go_wp2_with fail
  go_ret
  exact ⟨rfl, hs1⟩
end Go.Proofs.Ytoepflfchcoogaa
