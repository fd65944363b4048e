/- What the reference's Writer does. -/
import Derived.Test.YtmaofhiapkfoaaaDoorWriterBN
import Derived.Test.YtmaofhiapkfoaaaDoorWrParts
namespace Go.Proofs.YtmaofhiapkfoaaaDoor
open Go.RowKit
set_option linter.unusedVariables false
set_option linter.unusedSimpArgs false

theorem rwnum_err {base : Nat} (p : Nat) (v : Value) (bs : List UInt8) (e size n : Int) (w : World) (h : WObj base w p v bs e) (he : e ≠ 0) :
    Calls Tryd.prog 53 #[.pointer (some ⟨p, 0, none⟩), .int .i64 size, .int .i64 n] w fun r w' => r = .returned (.tuple #[]) ∧ Grew base w p v w' (wrL bs e size n) (wrE e size n) := by
  have hE : wrE e size n = e := by unfold wrE; rw [if_pos he]
  have hL : wrL bs e size n = bs := by unfold wrL; rw [hE, if_neg he]
  rw [hE, hL]
  obtain ⟨c0, c1, c2, c3⟩ := h.2.1
  have hne : (e != 0) = true := by simpa using he
  have HG := Lib.hid (Grew.refl h)
  clear hE hL he h
  go_enter Tryd.func53, Tryd.ntmps53
  go_wp2_with fail
  exact bodyPost_ret (v := .tuple #[]) (by simp [results, Tryd.results53, go_sem]) rfl ⟨rfl, HG.out⟩
theorem rwnum_size {base : Nat} (p : Nat) (v : Value) (bs : List UInt8) (size n : Int) (w : World) (h : WObj base w p v bs 0) (he : size < 1 ∨ 8 < size) :
    Calls Tryd.prog 53 #[.pointer (some ⟨p, 0, none⟩), .int .i64 size, .int .i64 n] w fun r w' => r = .returned (.tuple #[]) ∧ Grew base w p v w' (wrL bs 0 size n) (wrE 0 size n) := by
  have hE : wrE 0 size n = 1 := by unfold wrE; rw [if_neg (by simp), if_pos he]
  have hL : wrL bs 0 size n = bs := by unfold wrL; rw [hE, if_neg (by decide)]
  rw [hE, hL]
  obtain ⟨c0, c1, c2, c3⟩ := h.2.1
  have HG := Lib.hid (Grew.err h 1)
  clear hE hL h
  rcases he with he | he
  all_goals
    go_enter Tryd.func53, Tryd.ntmps53
    go_wp2_with fail
    exact bodyPost_ret (v := .tuple #[]) (by simp [results, Tryd.results53, go_sem]) rfl ⟨rfl, HG.out⟩
set_option maxHeartbeats 2000000 in
theorem rwnum_big {base : Nat} (p : Nat) (v : Value) (bs : List UInt8) (size n : Int) (w : World) (h : WObj base w p v bs 0) (h1 : 1 ≤ size) (h8 : size < 8) (hn : n < -(2 ^ (8 * size - 1).toNat) ∨ 2 ^ (8 * size).toNat ≤ n) :
    Calls Tryd.prog 53 #[.pointer (some ⟨p, 0, none⟩), .int .i64 size, .int .i64 n] w fun r w' => r = .returned (.tuple #[]) ∧ Grew base w p v w' (wrL bs 0 size n) (wrE 0 size n) := by
  have hE : wrE 0 size n = 3 := by unfold wrE; rw [if_neg (by simp), if_neg (by omega), if_pos ⟨h8, hn⟩]
  have hL : wrL bs 0 size n = bs := by unfold wrL; rw [hE, if_neg (by decide)]
  rw [hE, hL]
  obtain ⟨c0, c1, c2, c3⟩ := h.2.1
  have HG := Lib.hid (Grew.err h 3)
  clear hE hL h
  have hs : size = 1 ∨ size = 2 ∨ size = 3 ∨ size = 4 ∨ size = 5 ∨ size = 6 ∨ size = 7 := by omega
  rcases hn with hn | hn
  · rcases hs with rfl | rfl | rfl | rfl | rfl | rfl | rfl
    all_goals
      simp only [Int.reduceMul, Int.reduceSub, Int.reduceToNat, Int.reducePow, Int.reduceNeg] at hn
      go_enter Tryd.func53, Tryd.ntmps53
      go_wp2_with fail
      exact bodyPost_ret (v := .tuple #[]) (by simp [results, Tryd.results53, go_sem]) rfl ⟨rfl, HG.out⟩
  · rcases hs with rfl | rfl | rfl | rfl | rfl | rfl | rfl
    all_goals
      simp only [Int.reduceMul, Int.reduceSub, Int.reduceToNat, Int.reducePow, Int.reduceNeg] at hn
      have hn2 : ¬ n < 0 := by omega
      go_enter Tryd.func53, Tryd.ntmps53
      go_wp2_with fail
      exact bodyPost_ret (v := .tuple #[]) (by simp [results, Tryd.results53, go_sem]) rfl ⟨rfl, HG.out⟩
theorem numB_byte (n : Int) (m k : Nat) (hk : 0 < k) (hm : k ≤ m) : (numB n m).take (m - (k - 1)) = (numB n m).take (m - k) ++ [UInt8.ofNat (n / 2 ^ (8 * (k - 1)) % 256).toNat] := by
  have h : ∀ (m k : Nat), k < m → (numB n m).getD k 0 = UInt8.ofNat (n / 256 ^ (m - 1 - k) % 256).toNat := by
    intro m
    induction m with
    | zero => intro k hk; omega
    | succ m ih =>
      intro k hk
      rw [numB]
      cases k with
      | zero => simp
      | succ k =>
        rw [List.getD_cons_succ, ih k (by omega), show m + 1 - 1 - (k + 1) = m - 1 - k by omega]
  have hl := numB_length n m
  rw [show m - (k - 1) = (m - k) + 1 by omega, List.take_succ_eq_append_getElem (by omega)]
  congr 2
  have := h m (m - k) (by omega)
  rw [List.getD_eq_getElem?_getD, List.getElem?_eq_getElem (by omega)] at this
  simp only [Option.getD_some] at this
  rw [this, show m - 1 - (m - k) = k - 1 by omega, show (2 : Int) ^ (8 * (k - 1)) = 256 ^ (k - 1) by rw [Int.pow_mul]; rfl]
set_option maxHeartbeats 4000000 in
theorem rwnum_ok {base : Nat} (p : Nat) (v : Value) (bs : List UInt8) (size n : Int) (w : World) (h : WObj base w p v bs 0) (hb : base ≤ w.heap.size) (hl : bs.length ≤ 140737488355328) (h1 : 1 ≤ size) (h8 : size ≤ 8)
    (hn : size = 8 ∨ (-(2 ^ (8 * size - 1).toNat) ≤ n ∧ n < 2 ^ (8 * size).toNat)) (hn1 : -9223372036854775808 ≤ n) (hn2 : n ≤ 9223372036854775807) :
    Calls Tryd.prog 53 #[.pointer (some ⟨p, 0, none⟩), .int .i64 size, .int .i64 n] w fun r w' => r = .returned (.tuple #[]) ∧ Grew base w p v w' (wrL bs 0 size n) (wrE 0 size n) := by
  have hE : wrE 0 size n = 0 := by unfold wrE; rw [if_neg (by simp), if_neg (by omega), if_neg (by omega)]
  have hL : wrL bs 0 size n = bs ++ numB n size.toNat := by unfold wrL; rw [hE, if_pos rfl]
  rw [hE, hL]
  obtain ⟨c0, c1, c2, c3⟩ := h.2.1
  have H := Lib.hid h
  clear hE hL h
  obtain ⟨M, hM⟩ : ∃ M : Nat, (M : Int) = size := ⟨size.toNat, by omega⟩
  rw [show size.toNat = M by omega]
  have HM := Lib.hid hM
  have hM8 : M ≤ 8 := by omega
  have hz0 : Grew base w p v w (bs ++ (numB n M).take (M - M)) 0 := by rw [Nat.sub_self]; simpa using Grew.refl H.out
  have HZ := Lib.hid hz0
  clear hM hz0
  rcases lits8 size h1 h8 with rfl | rfl | rfl | rfl | rfl | rfl | rfl | rfl
  all_goals
    simp only [Int.reduceMul, Int.reduceSub, Int.reduceToNat, Int.reducePow, Int.reduceNeg, Int.reduceEq, false_or, true_or] at hn
    go_enter Tryd.func53, Tryd.ntmps53
    go_wp2_with fail
    go_loopw [8] (fun v8 wr => ∃ k : Nat, k ≤ M ∧ v8 = .int .i64 ((k : Int) - 1) ∧ Grew base w p v wr (bs ++ (numB n M).take (M - k)) 0) (fun v8 _ => (intOf v8 + 1).toNat)
    case atStart => exact ⟨M, Nat.le_refl _, by rw [HM.out]; rfl, HZ.out⟩
    case round =>
      obtain ⟨k, hk, rfl, v', ho, hu, hr⟩ := hrel
      by_cases hk0 : k = 0
      · subst hk0
        have hg : Grew base w p v wr (bs ++ numB n M) 0 := by
          refine ⟨v', ?_, hu, hr⟩
          have := ho
          rwa [Nat.sub_zero, List.take_of_length_le (by rw [numB_length]; exact Nat.le_refl _)] at this
        have HG := Lib.hid hg
        clear ho hu hr hg
        go_wp2_with fail
        refine bodyPost_end (v := .tuple #[]) (by simp [results, Tryd.results53, go_sem]) rfl ⟨rfl, HG.out⟩
      · have g1 : (0 : Int) ≤ (k : Int) - 1 := by omega
        have g2 : (8 * ((k : Int) - 1)).toNat = 8 * (k - 1) := by omega
        have g3 : (k : Int) - 1 ≤ 7 := by omega
        have ho1 := ho.upd ((Upd.refl (fun _ => False) wr).alloc (.cells #[.int .u8 (n / 2 ^ (8 * (k - 1)) % 256)] 5)) fun _ _ h => h
        obtain ⟨d0, d1, d2, d3⟩ := ho.2.1
        have hbyte := numB_byte n M k (by omega) hk
        have hln : ((bs ++ (numB n M).take (M - k)).length) ≤ 140737488355340 := by rw [List.length_append, List.length_take, numB_length]; omega
        have hy0 := Int.emod_nonneg (n / 2 ^ (8 * (k - 1))) (show (256 : Int) ≠ 0 by decide)
        have hy1 := Int.emod_lt_of_pos (n / 2 ^ (8 * (k - 1))) (show (0 : Int) < 256 by decide)
        have HO := Lib.hid ho1
        have HU := Lib.hid hu
        have HR := Lib.hid hr
        have HBY := Lib.hid hbyte
        have hbw : base ≤ wr.heap.size := Nat.le_trans hb hu.size
        clear ho ho1 hu hr hbyte
        go_wp2_with (at_builtin; refine wpl_append_bytes rfl (.tmp 57) (.tmp 64) 25 rfl Tryd.underlying25 li5 base v' _ (bs ++ (numB n M).take (M - k)) [UInt8.ofNat (n / 2 ^ (8 * (k - 1)) % 256).toNat] _ rfl rfl rfl HO.out.2.2.1 (Bs.one wr (n / 2 ^ (8 * (k - 1)) % 256) _ _ rfl hy0 (by omega)) (by simp; omega) (by simp only [List.length_cons, List.length_nil]; omega) ?_; intro z1 w1 hf1 hu1 hr1; obtain ⟨zA, zn, zc, rfl⟩ := Fresh.shape hf1; obtain ⟨k0, k1, k2, k3⟩ := HO.out.2.1.upd hu1 HO.out.2.2.2; have HF := Lib.hid hf1; have HU1 := Lib.hid hu1; have HR1 := Lib.hid hr1; clear hf1 hu1 hr1)
        go_roundw
        case rel =>
          refine ⟨k - 1, by omega, by congr 1; omega, ?_⟩
          rw [HBY.out, ← List.append_assoc]
          exact Grew.trans HU.out HR.out (Grew.trans (v1 := v') ((Upd.refl _ wr).alloc _) (fun k hk => .inl hk) (Grew.row HO.out (by simp; omega) HU1.out HF.out HR1.out))
        case measure => simp [intOf]; omega
/-- The end. -/
theorem rwend_any {base : Nat} (p : Nat) (v : Value) (bs : List UInt8) (e : Int) (w : World) (h : WObj base w p v bs e) (hb : base ≤ w.heap.size) (hl : bs.length ≤ 200000000000000) :
    Calls Tryd.prog 54 #[.pointer (some ⟨p, 0, none⟩)] w fun r w' => ∃ v', r = .returned (.tuple #[v', .int .i64 e]) ∧ Fresh w.heap.size w' v' (if e = 0 then bs else []) ∧ Same w w' := by
  obtain ⟨c0, c1, c2, c3⟩ := h.2.1
  by_cases he : e = 0
  · subst he
    obtain ⟨A, n, cap, rfl⟩ := Fresh.shape h.2.2.1
    rw [if_pos rfl]
    have HB := Lib.hid h.2.2.1.bs
    clear h
    go_enter Tryd.func54, Tryd.ntmps54
    go_wp2_with (at_builtin; refine wpl_append_bytes rfl (.tmp 14) (.tmp 18) 25 rfl Tryd.underlying25 li5 w.heap.size (.slice none 0 0) (.slice A n cap) [] bs bs rfl rfl rfl (Fresh.nil _ _) HB.out (Nat.le_refl _) (by simpa using hl) ?_; intro v2 w2 hf2 hu2 hr2)
    go_ret2
    exact ⟨_, rfl, hf2, hu2.mono fun i _ hi => by simp [room] at hi⟩
  · rw [if_neg he]
    have hne : (e != 0) = true := by simpa using he
    clear h he
    go_enter Tryd.func54, Tryd.ntmps54
    go_wp2_with fail
    go_quiet (fail)
    go_wp2_with fail
    go_ret2
    exact ⟨_, rfl, Fresh.nil _ _, (Upd.refl _ w).drewN _⟩
theorem wnum_any {base : Nat} (p : Nat) (v : Value) (bs : List UInt8) (e size n : Int) (w : World) (h : WObj base w p v bs e) (hb : base ≤ w.heap.size) (hl : bs.length ≤ 140737488355328) (hn1 : -9223372036854775808 ≤ n) (hn2 : n ≤ 9223372036854775807) :
    Calls Tryd.prog 46 #[.pointer (some ⟨p, 0, none⟩), .int .i64 size, .int .i64 n] w fun r w' => r = .returned (.tuple #[]) ∧ Grew base w p v w' (wrL bs e size n) (wrE e size n) := by
  rcases wr_parts e size n with he | ⟨rfl, h1⟩ | ⟨rfl, h1, h2, h3⟩ | ⟨rfl, h1, h2, h3⟩
  · exact wnum_err p v bs e size n w h he
  · exact wnum_size p v bs size n w h h1
  · exact wnum_big p v bs size n w h h1 h2 h3
  · exact wnum_ok p v bs size n w h hb hl h1 h2 h3 hn1 hn2
theorem rwnum_any {base : Nat} (p : Nat) (v : Value) (bs : List UInt8) (e size n : Int) (w : World) (h : WObj base w p v bs e) (hb : base ≤ w.heap.size) (hl : bs.length ≤ 140737488355328) (hn1 : -9223372036854775808 ≤ n) (hn2 : n ≤ 9223372036854775807) :
    Calls Tryd.prog 53 #[.pointer (some ⟨p, 0, none⟩), .int .i64 size, .int .i64 n] w fun r w' => r = .returned (.tuple #[]) ∧ Grew base w p v w' (wrL bs e size n) (wrE e size n) := by
  rcases wr_parts e size n with he | ⟨rfl, h1⟩ | ⟨rfl, h1, h2, h3⟩ | ⟨rfl, h1, h2, h3⟩
  · exact rwnum_err p v bs e size n w h he
  · exact rwnum_size p v bs size n w h h1
  · exact rwnum_big p v bs size n w h h1 h2 h3
  · exact rwnum_ok p v bs size n w h hb hl h1 h2 h3 hn1 hn2
end Go.Proofs.YtmaofhiapkfoaaaDoor
