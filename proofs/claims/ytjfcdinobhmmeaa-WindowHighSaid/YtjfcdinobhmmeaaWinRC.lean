/- The reference's window: find, Come. -/
import Derived.Test.YtjfcdinobhmmeaaWinR
import Derived.Deep.RegionLaw
import Derived.Deep.DrawnRows
import Derived.Deep.LoopGhost
import Derived.BigFrame
namespace Go.Proofs.Ytjfcdinobhmmeaa
open Go.RowKit
set_option linter.unusedVariables false
set_option linter.unusedSimpArgs false
attribute [local go_sem ↓] Go.wp_at_zero Go.wp_at_succ

section
variable {base : Nat} {W : World} {q : Nat} {vl vt : Value} {s : WSt}
theorem rfind_any (h : RWinV base W q vl vt s) (hlen : s.ls.length ≤ 100000) (n : Int) : Calls Try.prog 27 #[.pointer (some ⟨q, 0, none⟩), .int .u32 n] W fun r w' => r = .returned (.int .i64 (idxOf n s.ls)) ∧ W = w' := by
  obtain ⟨A, m, cap, rfl, h1, h2, h3⟩ := h.2.2.1.open_
  rw [held_length] at h1
  obtain rfl : s.ls.length = m := by omega
  obtain ⟨⟨c0, c1, c2, c3, c4⟩, hf⟩ := h.2.1
  have H := Lib.hid h.2.2.1.rdr
  obtain ⟨N, hN⟩ : ∃ N, N = s.ls.length := ⟨_, rfl⟩
  rw [← hN] at c3 hlen
  have HN := Lib.hid hN
  clear hf h hN c0 c1 c2 c4 h1 h2
  go_enter Try.func27, Try.ntmps27
  go_wp2_with fail
  go_loop [5] (fun v5 => ∃ k : Nat, k ≤ N ∧ v5 = .int .i64 k ∧ Hid (∀ j (hj : j < s.ls.length), j < k → (s.ls[j]'hj).1 ≠ n)) (fun v5 => N - (intOf v5).toNat)
  case atStart => exact ⟨0, by omega, rfl, fun j hj h => by omega⟩
  case round =>
    obtain ⟨k, hk, rfl, hno⟩ := hrel
    by_cases hlt : k < N
    · have hkl : k < s.ls.length := by have := HN.out; omega
      obtain ⟨b', off, rfl, x0, x1⟩ := HeldAt.at_ H.out k hkl
      have g1 : (k : Int) < (N : Int) := by omega
      clear x1
      by_cases he : (s.ls[k]'hkl).1 = n
      · have hidx := idxOf_some n s.ls k hkl he hno.out
        have HI := Lib.hid hidx
        rw [he] at x0
        clear hidx he
        go_wp2_with fail
        go_ret
        exact ⟨ret_int HI.out.symm, rfl⟩
      · have hb : ((s.ls[k]'hkl).1 == n) = false := by simpa using he
        obtain ⟨y, hy⟩ : ∃ y, y = (s.ls[k]'hkl).1 := ⟨_, rfl⟩
        rw [← hy] at x0 hb
        have HE := Lib.hid he
        have HY := Lib.hid hy
        clear he hy
        go_wp2_with fail
        go_round
        case rel =>
          refine ⟨k + 1, by omega, by go_num, fun j hj hjk => ?_⟩
          by_cases hjk2 : j = k
          · subst hjk2; exact HE.out
          · exact hno.out j hj (by omega)
        case measure => simp [intOf]; omega
    · obtain rfl : k = N := by omega
      have hidx := idxOf_none n s.ls fun j hj => hno.out j hj (by have := HN.out; omega)
      have HI := Lib.hid hidx
      clear hidx
      go_wp2_with fail
      go_ret
      exact ⟨ret_int HI.out.symm, rfl⟩
theorem early_take (ts : List (Int × Bool)) (k : Nat) (hk : k < ts.length) : early (ts.take (k + 1)) = early (ts.take k) + (if (ts[k]'hk).2 then 1 else 0) := by
  rw [List.take_succ_eq_append_getElem hk]
  rcases h : ts[k] with ⟨i, b⟩
  rw [early_snoc]
theorem hinfo_told : (Try.prog.info? 62).map (fun i => (i.zero, i.size, i.bytes)) = some (some (.agg #[.int .i64 0, .bool false]), 2, 16) := by kernel_rfl
theorem hinfo_rheld : (Try.prog.info? 65).map (fun i => (i.zero, i.size, i.bytes)) = some (some (.agg #[.int .u32 0, .int .i64 0]), 2, 16) := by kernel_rfl
set_option maxHeartbeats 1000000 in
theorem rcome_full (h : RWinV base W q vl vt s) (hb : base ≤ W.heap.size) (hlen : s.ts.length ≤ 100000) (hfl : 64 ≤ early s.ts) (n id : Int) : Calls Try.prog 10 #[.pointer (some ⟨q, 0, none⟩), .int .u32 n, .bool true, .int .i64 id] W fun r w' => r = .returned (.int .i64 4) ∧ Same W w' := by
  have HFL := Lib.hid hfl
  clear hfl
  obtain ⟨A, m, cap, rfl, h1, h2, h3⟩ := h.2.2.2.1.open_
  rw [told_length] at h1
  obtain rfl : s.ts.length = m := by omega
  obtain ⟨⟨c0, c1, c2, c3, c4⟩, hf⟩ := h.2.1
  have H := Lib.hid h
  have hT := h.2.2.2.1
  obtain ⟨N, hN⟩ : ∃ N, N = s.ts.length := ⟨_, rfl⟩
  rw [← hN] at c4 hlen hT
  have HT := Lib.hid hT
  have HN := Lib.hid hN
  have f4 := hf 4 (by decide)
  clear hf h hN hT c0 c1 c2 c3 h1 h2
  go_enter Try.func10, Try.ntmps10
  go_wp2_with fail
  go_loop [9, 10] (fun v9 v10 => ∃ k : Nat, k ≤ N ∧ v9 = .int .i64 (early (s.ts.take k)) ∧ v10 = .int .i64 k) (fun _ v10 => N - (intOf v10).toNat)
  case atStart => exact ⟨0, by omega, rfl, rfl⟩
  case round =>
    obtain ⟨k, hk, rfl, rfl⟩ := hrel
    have he1 : early (s.ts.take k) ≤ k := Nat.le_trans (List.length_filter_le _ _) (List.length_take_le _ _)
    by_cases hlt : k < N
    · have hkl : k < s.ts.length := by have := HN.out; omega
      obtain ⟨b', off, rfl, hc⟩ := Own.at_ HT.out (by rw [told_length]; omega)
      have x1 := hc _ _ (told_get s.ts k hkl).2
      rw [← Nat.add_assoc] at x1
      have het := early_take s.ts k hkl
      have g1 : (k : Int) < (N : Int) := by omega
      obtain ⟨y, hy⟩ : ∃ y, y = (s.ts[k]'hkl).2 := ⟨_, rfl⟩
      rw [← hy] at x1 het
      have HET := Lib.hid het
      have HC := Lib.hid hc
      obtain ⟨E, hE⟩ : ∃ E, E = early (s.ts.take k) := ⟨_, rfl⟩
      rw [← hE]
      have HE := Lib.hid hE
      have he2 : E ≤ k := by omega
      clear het hy hc he1 hE
      cases y
      all_goals
        go_wp2_with fail
        go_round
        case rel => exact ⟨k + 1, by omega, by rw [HET.out, ← HE.out]; first | rfl | simp, by go_num⟩
        case measure => simp [intOf]; omega
    · obtain rfl : k = N := by omega
      have htk : s.ts.take k = s.ts := List.take_of_length_le (by have := HN.out; omega)
      rw [htk] at he1 ⊢
      have HTK := Lib.hid htk
      clear htk
      obtain ⟨E, hE⟩ : ∃ E, E = early s.ts := ⟨_, rfl⟩
      rw [← hE] at he1 ⊢
      have HE := Lib.hid hE
      clear hE
      have hfull : 64 ≤ E := by have := HFL.out; rw [← HE.out] at this; exact this
      go_wp2_with fail
      go_ret
      exact ⟨rfl, Upd.refl _ _⟩
set_option maxHeartbeats 1000000 in
theorem rcome_now (h : RWinV base W q vl vt s) (hb : base ≤ W.heap.size) (hlen : s.ts.length ≤ 100000) (hfl : early s.ts < 64) (n id : Int) : Calls Try.prog 10 #[.pointer (some ⟨q, 0, none⟩), .int .u32 n, .bool true, .int .i64 id] W fun r w' => r = .returned (.int .i64 0) ∧ RGrew base (rfoot q vl vt) W q w' { s with ts := s.ts ++ [(id, true)] } := by
  have HFL := Lib.hid hfl
  clear hfl
  obtain ⟨A, m, cap, rfl, h1, h2, h3⟩ := h.2.2.2.1.open_
  rw [told_length] at h1
  obtain rfl : s.ts.length = m := by omega
  obtain ⟨⟨c0, c1, c2, c3, c4⟩, hf⟩ := h.2.1
  have H := Lib.hid h
  have hT := h.2.2.2.1
  obtain ⟨N, hN⟩ : ∃ N, N = s.ts.length := ⟨_, rfl⟩
  rw [← hN] at c4 hlen hT
  have HT := Lib.hid hT
  have HN := Lib.hid hN
  have f4 := hf 4 (by decide)
  clear hf h hN hT c0 c1 c2 c3 h1 h2
  go_enter Try.func10, Try.ntmps10
  go_wp2_with fail
  go_loop [9, 10] (fun v9 v10 => ∃ k : Nat, k ≤ N ∧ v9 = .int .i64 (early (s.ts.take k)) ∧ v10 = .int .i64 k) (fun _ v10 => N - (intOf v10).toNat)
  case atStart => exact ⟨0, by omega, rfl, rfl⟩
  case round =>
    obtain ⟨k, hk, rfl, rfl⟩ := hrel
    have he1 : early (s.ts.take k) ≤ k := Nat.le_trans (List.length_filter_le _ _) (List.length_take_le _ _)
    by_cases hlt : k < N
    · have hkl : k < s.ts.length := by have := HN.out; omega
      obtain ⟨b', off, rfl, hc⟩ := Own.at_ HT.out (by rw [told_length]; omega)
      have x1 := hc _ _ (told_get s.ts k hkl).2
      rw [← Nat.add_assoc] at x1
      have het := early_take s.ts k hkl
      have g1 : (k : Int) < (N : Int) := by omega
      obtain ⟨y, hy⟩ : ∃ y, y = (s.ts[k]'hkl).2 := ⟨_, rfl⟩
      rw [← hy] at x1 het
      have HET := Lib.hid het
      have HC := Lib.hid hc
      obtain ⟨E, hE⟩ : ∃ E, E = early (s.ts.take k) := ⟨_, rfl⟩
      rw [← hE]
      have HE := Lib.hid hE
      have he2 : E ≤ k := by omega
      clear het hy hc he1 hE
      cases y
      all_goals
        go_wp2_with fail
        go_round
        case rel => exact ⟨k + 1, by omega, by rw [HET.out, ← HE.out]; first | rfl | simp, by go_num⟩
        case measure => simp [intOf]; omega
    · obtain rfl : k = N := by omega
      have htk : s.ts.take k = s.ts := List.take_of_length_le (by have := HN.out; omega)
      rw [htk] at he1 ⊢
      have HTK := Lib.hid htk
      clear htk
      obtain ⟨E, hE⟩ : ∃ E, E = early s.ts := ⟨_, rfl⟩
      rw [← hE] at he1 ⊢
      have HE := Lib.hid hE
      clear hE
      have hfull : E < 64 := by have := HFL.out; rw [← HE.out] at this; exact this
      have g1 : ¬ (64 : Int) ≤ (E : Int) := by omega
      go_wp2_with (at_builtin; refine wpl_append_own rfl (.tmp 39) (.tmp 42) 36 rfl Try.underlying36 hinfo_told rfl (by decide) _ _ rfl rfl (HT.out.same ((Upd.refl _ _).alloc _)) (Rdr.box _ [.int .i64 id, .bool true] _ _ _ rfl 2 rfl) (by simp; exact ⟨rfl, rfl⟩) (by simp; omega) s.ts.length 1 (told_length _) rfl (by have := HN.out; omega) (by have := HN.out; omega) ?_; intro v3 w3 hf3 hu3 hr3; obtain ⟨zA, zn, zc, rfl, -⟩ := Own.open_ hf3; have hc3 := (H.out.2.1.upd ((Upd.refl (fun _ => False) _).alloc _) (fun h => h)).upd hu3 (fun e => by rw [HN.out] at e; exact H.out.2.2.2.2.2 q e rfl); have d33 := hc3.1.2.2.2.2; have f33 := hc3.2 4 (by decide); have hu30 := Same.then ((Upd.refl (fun _ => False) _).alloc _) hu3; have HF3 := Lib.hid hf3; have HU3 := Lib.hid hu30; have HR3 := Lib.hid hr3; clear hf3 hu3 hr3 hc3 hu30)
      go_ret
      have hNN := HN.out
      subst hNN
      obtain ⟨r1, r2, r3⟩ := RWinV.sett (ts' := s.ts ++ [(id, true)]) H.out (by rw [List.flatMap_append]; simpa [toldC] using HF3.out) HU3.out (fun k hk => (HR3.out k hk).imp (fun h => h) fun e => by simp at e; omega)
      exact ⟨rfl, RGrew.mk r2 r1 r3⟩
end
end Go.Proofs.Ytjfcdinobhmmeaa
