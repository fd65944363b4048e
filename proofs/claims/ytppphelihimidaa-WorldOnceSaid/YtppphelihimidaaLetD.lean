/- A letter's cells; slices.Delete of one letter. -/
import Derived.Test.YtppphelihimidaaDelG
import Derived.Test.YtppphelihimidaaWorO
namespace Go.Proofs.Ytppphelihimidaa
open Go.RowKit
set_option linter.unusedVariables false
set_option linter.unusedSimpArgs false
set_option maxHeartbeats 1000000

/-- A letter: from, to, its data. -/
structure Lt where
  f : Int
  t : Int
  A : Option Addr
  n : Nat
  cap : Nat
  bs : List UInt8
/-- Its data's slice. -/
def Lt.v (x : Lt) : Value := .slice x.A x.n x.cap
def lC (x : Lt) : List Value := [.int .i64 x.f, .int .i64 x.t, x.v]
theorem lC_len (x : Lt) : (lC x).length = 3 := rfl
theorem lC_one (x : Lt) : ∀ y ∈ lC x, y.oneCell' = true := by
  intro y hy
  simp [lC, Lt.v] at hy
  rcases hy with rfl | rfl | rfl <;> rfl
theorem hinfo_letter : (Try.prog.info? 40).map (fun i => (i.zero, i.size, i.bytes)) = some (some (.agg #[.int .i64 0, .int .i64 0, .slice none 0 0]), 3, 40) := by kernel_rfl
/-- A row of letters of the call's own. -/
def LetOwn (base : Nat) (w : World) (v : Value) (ls : List Lt) : Prop := Own base w v 3 (ls.flatMap lC)
theorem let_zero (k : Nat) : ∀ y ∈ (Builtin.zeroCells (Value.agg #[.int .i64 0, .int .i64 0, .slice none 0 0]).cells k).toList, y.oneCell' = true := by
  intro y hy
  have hy' : y ∈ Builtin.zeroCells (Value.agg #[.int .i64 0, .int .i64 0, .slice none 0 0]).cells k := by simpa using hy
  unfold Builtin.zeroCells at hy'
  obtain ⟨j, hj, rfl⟩ := Array.getElem_of_mem hy'
  have h2 : j % 3 = 0 ∨ j % 3 = 1 ∨ j % 3 = 2 := by omega
  rcases h2 with h2 | h2 | h2
  all_goals
    simp [Value.cells, h2]
    rfl
theorem ldelete_mid {base : Nat} (b off cap k : Nat) (ls : List Lt) (w : World) (h : LetOwn base w (.slice (some ⟨b, off, none⟩) ls.length cap) ls) (hb : base ≤ w.heap.size) (hk : k < ls.length) (hn : ls.length ≤ 20000) (hcap : ls.length ≤ cap) (hc2 : cap ≤ 9223372036854775807) (hck : cap ≠ k + 1) :
    Calls Try.prog 54 #[.slice (some ⟨b, off, none⟩) ls.length cap, .int .i64 k, .int .i64 (k + 1 : Nat)] w fun r w' => ∃ v', r = .returned v' ∧ LetOwn base w' v' (ls.take k ++ ls.drop (k + 1)) ∧ Upd (fun j => j = b) w w' ∧ room v' = some b := by
  have H := Lib.hid h
  obtain ⟨N, hN⟩ : ∃ N, N = ls.length := ⟨_, rfl⟩
  rw [← hN] at hk hn hcap
  rw [show ls.length = N from hN.symm]
  have HN := Lib.hid hN
  have g1 : ¬ k = k + 1 := by omega
  have g2 : ((k : Int) == ((k + 1 : Nat) : Int)) = false := by simp; omega
  clear h hN
  go_enter Try.func54, Try.ntmps54
  have hfr := Own.front H.out k (by have := HN.out; omega)
  have hbk := Rdr.back H.out.rdr (k + 1) (by have := HN.out; omega)
  rw [flat_take lC_len] at hfr
  rw [flat_drop lC_len, if_neg hck] at hbk
  simp only [Option.map_some, Addr.add_lit] at hbk
  rw [show ls.length = N from HN.out.symm] at hbk
  have w1 : IntKind.i64.wrap ((k : Int) + 1) = (k : Int) + 1 := by rw [IntKind.wrap_i64]; omega
  have g3 : (0 : Int) ≤ (k : Int) := by omega
  have g4 : (k : Int) ≤ (N : Int) := by omega
  have g5 : (k : Int) + 1 ≤ (N : Int) := by omega
  have g6 : k ≤ cap := by omega
  have g9 : (0 : Int) ≤ (k : Int) + 1 := by omega
  have g7 : k + 1 ≤ N := by omega
  have g8 : k + 1 ≤ cap := by omega
  have hf2 := Own.same hfr (Upd.refl _ w).drew
  have hb2 := Rdr.same hbk (Upd.refl _ w).drew
  have HF := Lib.hid hf2
  have HB := Lib.hid hb2
  clear hfr hbk hf2 hb2
  go_wp2_with fail
  go_region_law (first | (refine step_append_fit rfl (.tmp 22) (.tmp 25) 57 rfl Try.underlying57 hinfo_letter (by decide) _ rfl rfl HF.out HB.out (flat_one lC_one _) (N - (k + 1)) (by rw [flat_length lC_len, List.length_drop, ← HN.out]) (by omega) (by omega) ?_; intro w2 hf2 hu2))
  all_goals
    have HF2 := Lib.hid hf2
    clear hf2
    have g10 : k + (N - (k + 1)) = N - 1 := by omega
    have g11 : ¬ cap = N - 1 := by omega
    have g12 : (N : Int) - 1 + 1 = N := by omega
    go_wp2_with (with_reducible (refine wpl_clear rfl (.tmp 31) 57 rfl Try.underlying57 hinfo_letter rfl let_zero (N - 1) (N - (N - 1)) (cap - (N - 1)) rfl HF2.out (by omega) (by omega) (by omega) ?_; intro w3 hf3 hu3))
    go_ret
    refine ⟨_, rfl, ?_, Upd.trans (((Upd.refl (fun j => j = b) w).drew).trans hu2 fun _ _ h => h) hu3 fun _ _ h => h, room_some _ _ _ _ (by omega)⟩
    unfold LetOwn
    rw [List.flatMap_append, ← g10]
    exact hf3
theorem ldelete_last {base : Nat} (b off k : Nat) (ls : List Lt) (w : World) (h : LetOwn base w (.slice (some ⟨b, off, none⟩) ls.length (k + 1)) ls) (hb : base ≤ w.heap.size) (hk : ls.length = k + 1) (hn : ls.length ≤ 20000) :
    Calls Try.prog 54 #[.slice (some ⟨b, off, none⟩) ls.length (k + 1), .int .i64 k, .int .i64 (k + 1 : Nat)] w fun r w' => ∃ v', r = .returned v' ∧ LetOwn base w' v' (ls.take k ++ ls.drop (k + 1)) ∧ Upd (fun j => j = b) w w' ∧ room v' = some b := by
  have H := Lib.hid h
  rw [hk] at hn
  rw [hk]
  have HN := Lib.hid hk
  have g1 : ¬ k = k + 1 := by omega
  have g2 : ((k : Int) == ((k + 1 : Nat) : Int)) = false := by simp; omega
  clear h hk
  go_enter Try.func54, Try.ntmps54
  have hfr := Own.front H.out k (by have := HN.out; omega)
  have hbk := Rdr.back H.out.rdr (k + 1) (by have := HN.out; omega)
  rw [flat_take lC_len] at hfr
  rw [flat_drop lC_len, if_pos rfl] at hbk
  rw [HN.out, Nat.sub_self] at hbk
  have w1 : IntKind.i64.wrap ((k : Int) + 1) = (k : Int) + 1 := by rw [IntKind.wrap_i64]; omega
  have g3 : (0 : Int) ≤ (k : Int) := by omega
  have g9 : (0 : Int) ≤ (k : Int) + 1 := by omega
  have g4 : (k : Int) ≤ (k : Int) + 1 := by omega
  have hf2 := Own.same hfr (Upd.refl _ w).drew
  have hb2 := Rdr.same hbk (Upd.refl _ w).drew
  have HF := Lib.hid hf2
  have HB := Lib.hid hb2
  clear hfr hbk hf2 hb2
  go_wp2_with fail
  go_region_law (first | (refine step_append_fit rfl (.tmp 22) (.tmp 25) 57 rfl Try.underlying57 hinfo_letter (by decide) _ rfl rfl HF.out HB.out (flat_one lC_one _) 0 (by rw [flat_length lC_len, List.length_drop, HN.out]; omega) (by omega) (by omega) ?_; intro w2 hf2 hu2))
  all_goals
    have HF2 := Lib.hid hf2
    clear hf2
    have g11 : ¬ k + 1 = k := by omega
    go_wp2_with (with_reducible (refine wpl_clear rfl (.tmp 31) 57 rfl Try.underlying57 hinfo_letter rfl let_zero k 1 1 rfl HF2.out (by omega) (by omega) (by omega) ?_; intro w3 hf3 hu3))
    go_ret
    refine ⟨_, rfl, ?_, Upd.trans (((Upd.refl (fun j => j = b) w).drew).trans hu2 fun _ _ h => h) hu3 fun _ _ h => h, room_some _ _ _ _ (by omega)⟩
    unfold LetOwn
    rw [List.flatMap_append]
    exact hf3
/-- slices.Delete of the element number k. -/
theorem ldelete_any {base : Nat} (v : Value) (k : Nat) (ls : List Lt) (w : World) (h : LetOwn base w v ls) (hb : base ≤ w.heap.size) (hk : k < ls.length) (hn : ls.length ≤ 20000) :
    Calls Try.prog 54 #[v, .int .i64 k, .int .i64 (k + 1 : Nat)] w fun r w' => ∃ v', r = .returned v' ∧ LetOwn base w' v' (ls.take k ++ ls.drop (k + 1)) ∧ Upd (fun j => room v = some j) w w' ∧ room v' = room v := by
  obtain ⟨A, n, cap, rfl, h1, h2, h3, h4⟩ := id h
  rw [flat_length lC_len] at h1
  obtain rfl : ls.length = n := by omega
  have hc0 : cap ≠ 0 := by omega
  rcases h4 with h4 | ⟨b, off, rfl, h5, h6, h7⟩
  · omega
  · rw [room_some _ _ _ _ hc0]
    by_cases hck : cap = k + 1
    · subst hck
      have hl : ls.length = k + 1 := by omega
      refine (ldelete_last b off k ls w h hb hl hn).mono ?_
      rintro r w' ⟨v', rfl, q1, q2, q3⟩
      exact ⟨v', rfl, q1, q2.mono fun j _ e => by rw [e], q3⟩
    · refine (ldelete_mid b off cap k ls w h hb hk hn h2 h3 hck).mono ?_
      rintro r w' ⟨v', rfl, q1, q2, q3⟩
      exact ⟨v', rfl, q1, q2.mono fun j _ e => by rw [e], q3⟩
end Go.Proofs.Ytppphelihimidaa
