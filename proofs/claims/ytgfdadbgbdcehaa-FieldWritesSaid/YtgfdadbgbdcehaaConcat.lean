/- What slices.Grow (of no row) and slices.Concat of rows of bytes compute. -/
import Derived.Test.YtgfdadbgbdcehaaLent
namespace Go.Proofs.Ytgfdadbgbdcehaa
open Go.RowKit
set_option linter.unusedVariables false
set_option linter.unusedSimpArgs false

section
variable {P : Program}
/-- append(nil, make([]byte, n)...). -/
theorem run_append_zeros {t e it : TypeId} {i : TypeInfo} (ty : TypeId) (ht : P.underlying t = some (.slice e)) (hit : P.underlying it = some (.int .i64)) (hi : P.info? e = some i) (hz : i.zero = some (.int .u8 0)) (hsz : i.size = 1) (hby : i.bytes = 1)
    (w : World) (n : Nat) (hn : 0 < n) (hb : n ≤ 200000000000000) :
    ∃ g cap w', (Builtin.append_ #[t, it] ty #[.slice none 0 0, .int .i64 n]).run P w = .ok (.slice (some ⟨g, 0, none⟩) n cap) w' ∧ n ≤ cap ∧ cap ≤ 9223372036854775807 ∧ Fresh w.heap.size w' (.slice (some ⟨g, 0, none⟩) 0 cap) [] ∧ Same w w' := by
  have hge := grownCap_ge w n 0 e
  have hcm : grownCap w n 0 e ≤ maxLen := grownCap_le_maxLen w n 0 e (by simp only [maxLen]; omega)
  have hw : IntKind.i64.wrap (n : Int) = (n : Int) := by rw [IntKind.wrap_i64]; omega
  have h1 : ¬ ((n : Int) < 0) := by omega
  have h2 : ¬ (281474976710656 < (n : Int)) := by omega
  have h3 : ¬ (n ≤ 0) := by omega
  have h4 : ¬ (9223372036854775807 < (n : Int)) := by omega
  have h5 : Builtin.nextslicecap n 0 = n := by unfold Builtin.nextslicecap; rw [if_pos (by omega)]
  have h6 : ¬ (281474976710656 < n) := by omega
  have h7 : n ≠ 0 := by omega
  refine ⟨w.heap.size, grownCap w n 0 e, w.drew.alloc (.cells (Builtin.zeroCells #[.int .u8 0] n ++ Builtin.zeroCells #[.int .u8 0] (grownCap w n 0 e - n)) e), ?_, hge, by simp only [maxLen] at hcm; omega, ?_, ((Upd.refl _ w).drew).alloc _⟩
  · have hcells : (Value.int IntKind.u8 0).cells = #[.int .u8 0] := rfl
    have hf : (Builtin.firstCells 1 0 (.slice none 0 0)).run P w.drew = .ok #[] w.drew := run_firstCells_none w.drew 1 0 0 0
    have hasint : ∀ w, (asInt (.int .i64 (n : Int))).run P w = .ok (n : Int) w := fun w => rfl
    simp [Builtin.append_, run_underlying ht, run_underlying hit, sizeOf, typeInfo, zeroValue, hi, hz, hsz, hby, Builtin.lenOf, hw, hasint, h1, h2, h3, h4, h5, h6, h7, Question.forced, hf, newRow, grownCap, hcells]
  · refine (Own.lit (w := w.drew) (C := Builtin.zeroCells #[.int .u8 0] n ++ Builtin.zeroCells #[.int .u8 0] (grownCap w n 0 e - n)) (t := e) (cs := []) (g := w.heap.size) (n := 0) (cap := grownCap w n 0 e) (sz := 1) (base := w.heap.size) rfl (Nat.le_refl _) (fun j u h => by simp at h) rfl (by omega) (by simp only [maxLen] at hcm; omega) (by simp [size_zeroCells]; omega))
/-- The same at its place in a walk. -/
theorem wpl_append_zeros {ops : Array Oper} {rest : List Oper} {o : Oper} {a : Act} {Q : Exit → Act → World → Prop} {w : World}
    (hg : o.guard = none) (s x : Operand) (t it : TypeId) (hop : o.op = Op.call { callee := Callee.builtin Builtin.append, args := #[s, x], argTypes := #[t, it] })
    {e : TypeId} (ht : P.underlying t = some (.slice e)) (hit : P.underlying it = some (.int .i64)) (hinfo : (P.info? e).map (fun i => (i.zero, i.size, i.bytes)) = some (some (.int .u8 0), 1, 1))
    (n : Nat) (hvs : a.eval s = .slice none 0 0) (hux : a.eval x = .int .i64 n) (hn : 0 < n) (hb : n ≤ 200000000000000)
    (h : ∀ g cap w', n ≤ cap → cap ≤ 9223372036854775807 → Fresh w.heap.size w' (.slice (some ⟨g, 0, none⟩) 0 cap) [] → Same w w' → wpList P ops Q rest (a.put o.dst (.slice (some ⟨g, 0, none⟩) n cap)) w') :
    wpList P ops Q (o :: rest) a w := by
  obtain ⟨i, hi, hzz⟩ := Option.map_eq_some_iff.1 hinfo
  simp only [Prod.mk.injEq] at hzz
  obtain ⟨hz0, hz1, hz2⟩ := hzz
  obtain ⟨g, cap, w', hrun, r1, r2, r3, r4⟩ := run_append_zeros (P := P) o.type ht hit hi hz0 hz1 hz2 w n hn hb
  refine wpList_plain hg fun K hK' => ?_
  unfold Oper.wp
  simp [execOp, hop, resolve, invoke, builtin, hvs, hux, hrun, Result.andThen]
  exact hK' _ _ (h g cap w' r1 r2 r3 r4)
end
theorem Fresh.cut {base : Nat} {w : World} {A : Option Addr} {n cap : Nat} {xs : List UInt8} (h : Fresh base w (.slice A n cap) xs) (k : Nat) (hk : k ≤ n) : Fresh base w (.slice A k cap) (xs.take k) := by
  obtain ⟨A', n', cap', e, h1, h2, h3, h4⟩ := h
  injection e with e1 e2 e3
  subst e1 e2 e3
  have hn : xs.length = n := by simpa using h1
  refine ⟨_, k, cap, rfl, by simp; omega, by omega, h3, ?_⟩
  rcases h4 with h4 | ⟨b, off, e1, hb, hc, hr⟩
  · exact .inl h4
  · refine .inr ⟨b, off, e1, hb, fun j u hj => hc j u ?_, hr⟩
    rw [List.map_take, List.getElem?_take] at hj
    split at hj
    · exact hj
    · cases hj
/-- slices.Grow of no row. -/
theorem grow_nil (n : Nat) (w : World) (hn : n ≤ 200000000000000) :
    Calls Try.prog 59 #[.slice none 0 0, .int .i64 n] w fun e w' => ∃ v', e = .returned v' ∧ Fresh w.heap.size w' v' [] ∧ Same w w' := by
  by_cases h0 : n = 0
  · subst h0
    go_enter Try.func59, Try.ntmps59
    go_wp2
    go_ret
    exact ⟨_, rfl, Fresh.nil _ _, Upd.refl _ w⟩
  · have c1 : ¬ ((n : Int) < 0) := by omega
    have c2 : (0 : Int) < (n : Int) := by omega
    go_enter Try.func59, Try.ntmps59
    go_wp2_with (at_builtin; refine wpl_append_zeros rfl (.tmp 20) (.tmp 21) 28 3 rfl Try.underlying28 Try.underlying3 li5 n rfl (by simp [Act.eval]) (by omega) hn ?_; intro g cap w2 q1 q2 q3 q4)
    go_ret
    exact ⟨_, rfl, q3, q4⟩
/-- A row of rows of bytes. -/
def RowsAt (w : World) (v : Value) (ss : List (Value × List UInt8)) : Prop := Rdr w v 1 (ss.map (·.1)) ∧ ∀ p ∈ ss, Bs w p.1 p.2
theorem RowsAt.same {w w' : World} {v : Value} {ss : List (Value × List UInt8)} (h : RowsAt w v ss) (hs : Same w w') : RowsAt w' v ss := ⟨h.1.same hs, fun p hp => (h.2 p hp).same hs⟩
def lenL (ss : List (Value × List UInt8)) : Nat := (ss.map (fun p => p.2.length)).sum
def joinL (ss : List (Value × List UInt8)) : List UInt8 := ss.flatMap (·.2)
theorem lenL_succ (ss : List (Value × List UInt8)) (k : Nat) (h : k < ss.length) : lenL (ss.take (k + 1)) = lenL (ss.take k) + (ss[k]'h).2.length := by
  unfold lenL
  rw [List.take_succ_eq_append_getElem h, List.map_append, List.sum_append]
  simp
theorem joinL_succ (ss : List (Value × List UInt8)) (k : Nat) (h : k < ss.length) : joinL (ss.take (k + 1)) = joinL (ss.take k) ++ (ss[k]'h).2 := by
  unfold joinL
  rw [List.take_succ_eq_append_getElem h, List.flatMap_append]
  simp
theorem lenL_take (ss : List (Value × List UInt8)) (k : Nat) : lenL (ss.take k) ≤ lenL ss := by
  have h := congrArg lenL (List.take_append_drop k ss)
  unfold lenL at h ⊢
  rw [List.map_append, List.sum_append] at h
  omega
theorem joinL_length (ss : List (Value × List UInt8)) : (joinL ss).length = lenL ss := by
  unfold joinL lenL
  rw [List.length_flatMap]
theorem Rdr.at_ {w : World} {A : Option Addr} {n cap : Nat} {cs : List Value} (h : Rdr w (.slice A n cap) 1 cs) (k : Nat) (hk : k < cs.length) : ∃ b off, A = some ⟨b, off, none⟩ ∧ w.cell? ⟨b, off + k, none⟩ = some (cs[k]'hk) := by
  obtain ⟨A', n', cap', e, h1, h2, h3, h4⟩ := h
  injection e with e1 e2 e3
  subst e1 e2 e3
  rcases h4 with rfl | ⟨b, off, rfl, hc⟩
  · simp at hk
  · exact ⟨b, off, rfl, hc k _ (List.getElem?_eq_getElem hk)⟩
/-- slices.Concat. -/
theorem concat_bs (v : Value) (ss : List (Value × List UInt8)) (w : World) (h : RowsAt w v ss) (hl : lenL ss ≤ 200000000000000) :
    Calls Try.prog 56 #[v] w fun e w' => ∃ v', e = .returned v' ∧ Fresh w.heap.size w' v' (joinL ss) ∧ Same w w' := by
  obtain ⟨A, n, cap, rfl, q1, q2, q3, q4⟩ := id h.1
  have hn : n = ss.length := by simpa using q1.symm
  have H := Lib.hid h
  have HN := Lib.hid hn
  clear q1 q4 h hn
  go_enter Try.func56, Try.ntmps56
  go_wp2_with fail
  go_loop [3, 11] (fun v3 v11 => ∃ k : Nat, k ≤ n ∧ v11 = .int .i64 k ∧ v3 = .int .i64 (lenL (ss.take k) : Nat)) (fun _ v11 => n - (intOf v11).toNat)
  case atStart => exact ⟨0, by omega, rfl, rfl⟩
  case round =>
    obtain ⟨k, hk, rfl, rfl⟩ := hrel
    by_cases hlt : k < n
    · have hks : k < ss.length := by have := HN.out; omega
      obtain ⟨b, off, rfl, hcell⟩ := Rdr.at_ H.out.1 k (by simpa using hks)
      have hbs := H.out.2 (ss[k]'hks) (List.getElem_mem hks)
      rw [List.getElem_map] at hcell
      have hsucc := lenL_succ ss k hks
      have hle := lenL_take ss (k + 1)
      obtain ⟨B, c, e0, _⟩ := hbs
      rw [e0] at hcell
      obtain ⟨m, hm⟩ : ∃ m, m = (ss[k]'hks).2.length := ⟨_, rfl⟩
      obtain ⟨M, hM⟩ : ∃ M, M = lenL (ss.take k) := ⟨_, rfl⟩
      rw [← hm] at hcell hsucc
      rw [← hM] at hsucc ⊢
      have hmm : M + m ≤ 200000000000000 := by omega
      have HS := Lib.hid hsucc
      have g1 : (k : Int) < (n : Int) := by omega
      clear hle hsucc hm hM e0
      go_wp2_with fail
      go_round
      case rel => exact ⟨k + 1, by omega, by go_num, by rw [HS.out]; go_num⟩
      case measure => simp [intOf]; omega
    · obtain rfl : k = n := by omega
      have hle := lenL_take ss k
      obtain ⟨M, hM⟩ : ∃ M, M = lenL (ss.take k) := ⟨_, rfl⟩
      rw [← hM] at hle ⊢
      clear hM
      go_wp2_with fail
      refine (grow_nil M w (by omega)).mono ?_
      rintro e w1 ⟨v1, rfl, hf1, hs1⟩
      go_wp2_with fail
      go_loopw [6, 27] (fun v6 v27 wr => ∃ j : Nat, j ≤ k ∧ v27 = .int .i64 j ∧ Fresh w.heap.size wr v6 (joinL (ss.take j)) ∧ Same w wr) (fun _ v27 _ => k - (intOf v27).toNat)
      case atStart => exact ⟨0, by omega, rfl, hf1, hs1⟩
      case round =>
        obtain ⟨j, hj, rfl, hf, hs⟩ := hrel
        by_cases hlt2 : j < k
        · have hks : j < ss.length := by have := HN.out; omega
          have hh := H.out.same hs
          obtain ⟨b, off, rfl, hcell⟩ := Rdr.at_ hh.1 j (by simpa using hks)
          have hbs := hh.2 (ss[j]'hks) (List.getElem_mem hks)
          rw [List.getElem_map] at hcell
          have hsucc := joinL_succ ss j hks
          have hlen := joinL_length (ss.take (j + 1))
          have hle := lenL_take ss (j + 1)
          have HB := Lib.hid hbs
          obtain ⟨X, hX⟩ : ∃ X, X = (ss[j]'hks).1 := ⟨_, rfl⟩
          obtain ⟨ys, hys⟩ : ∃ X, X = (ss[j]'hks).2 := ⟨_, rfl⟩
          rw [← hX] at hcell hbs
          rw [← hys] at hbs hsucc
          rw [hsucc] at hlen
          have g1 : (j : Int) < (k : Int) := by omega
          have hb2 : (joinL (ss.take j)).length + ys.length ≤ 200000000000000 := by rw [List.length_append] at hlen; omega
          have HS := Lib.hid hsucc
          have HF := Lib.hid hf
          have HH := Lib.hid hbs
          have hsz := hs.size
          clear hX hys HB hbs hf hh hsucc hlen hle
          go_wp2_with (at_builtin; refine wpl_append_bytes rfl (.tmp 31) (.tmp 32) 28 rfl Try.underlying28 li5 w.heap.size u6 X _ ys _ rfl rfl rfl HF.out HH.out hsz hb2 ?_; intro v3 w3 hf3 hu3 hr3)
          go_roundw
          case rel => exact ⟨j + 1, by omega, by go_num, by rw [HS.out]; exact hf3, Same.row hs HF.out hu3⟩
          case measure => simp [intOf]; omega
        · obtain rfl : j = k := by omega
          have HF := Lib.hid hf
          clear hf
          go_wp2_with fail
          go_ret
          refine ⟨_, rfl, ?_, hs⟩
          have := HF.out
          rwa [List.take_of_length_le (by have := HN.out; omega)] at this
end Go.Proofs.Ytgfdadbgbdcehaa
