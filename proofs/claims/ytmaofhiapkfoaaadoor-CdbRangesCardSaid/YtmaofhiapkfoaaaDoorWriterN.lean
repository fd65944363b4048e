/- What field.Writer does. -/
import Derived.Test.YtmaofhiapkfoaaaDoorObjK
import Derived.Test.YtmaofhiapkfoaaaDoorFieldR
import Derived.Deep.RegionLaw
import Derived.Deep.QuietTactic
import Derived.BigQuiet
namespace Go.Proofs.YtmaofhiapkfoaaaDoor
open Go.RowKit
set_option linter.unusedVariables false
set_option linter.unusedSimpArgs false

def wrE (e size n : Int) : Int := if e ≠ 0 then e else if size < 1 ∨ 8 < size then 1 else if size < 8 ∧ (n < -(2 ^ (8 * size - 1).toNat) ∨ 2 ^ (8 * size).toNat ≤ n) then 3 else 0
def wrL (bs : List UInt8) (e size n : Int) : List UInt8 := if wrE e size n = 0 then bs ++ numB n size.toNat else bs
theorem Fresh.shape {base : Nat} {w : World} {v : Value} {xs : List UInt8} (h : Fresh base w v xs) : ∃ A n cap, v = .slice A n cap := by
  obtain ⟨A, n, cap, e, _⟩ := h
  exact ⟨A, n, cap, e⟩
theorem numB_mod (n : Int) (k : Nat) (h : k ≤ 8) : numB (n % 18446744073709551616) k = numB n k := by
  induction k with
  | zero => rfl
  | succ k ih =>
    unfold numB
    rw [ih (by omega)]
    congr 2
    have hk : k < 8 := by omega
    match k, hk with
    | 0, _ => omega
    | 1, _ => omega
    | 2, _ => omega
    | 3, _ => omega
    | 4, _ => omega
    | 5, _ => omega
    | 6, _ => omega
    | 7, _ => omega
theorem wnum_err {base : Nat} (p : Nat) (v : Value) (bs : List UInt8) (e size n : Int) (w : World) (h : WObj base w p v bs e) (he : e ≠ 0) :
    Calls Tryd.prog 46 #[.pointer (some ⟨p, 0, none⟩), .int .i64 size, .int .i64 n] w fun r w' => r = .returned (.tuple #[]) ∧ Grew base w p v w' (wrL bs e size n) (wrE e size n) := by
  have hE : wrE e size n = e := by unfold wrE; rw [if_pos he]
  have hL : wrL bs e size n = bs := by unfold wrL; rw [hE, if_neg he]
  rw [hE, hL]
  obtain ⟨c0, c1, c2, c3⟩ := h.2.1
  have hne : (e != 0) = true := by simpa using he
  have HG := Lib.hid (Grew.refl h)
  clear hE hL he h
  go_enter Tryd.func46, Tryd.ntmps46
  go_wp2_with fail
  exact bodyPost_ret (v := .tuple #[]) (by simp [results, Tryd.results46, go_sem]) rfl ⟨rfl, HG.out⟩
theorem wnum_size {base : Nat} (p : Nat) (v : Value) (bs : List UInt8) (size n : Int) (w : World) (h : WObj base w p v bs 0) (he : size < 1 ∨ 8 < size) :
    Calls Tryd.prog 46 #[.pointer (some ⟨p, 0, none⟩), .int .i64 size, .int .i64 n] w fun r w' => r = .returned (.tuple #[]) ∧ Grew base w p v w' (wrL bs 0 size n) (wrE 0 size n) := by
  have hE : wrE 0 size n = 1 := by unfold wrE; rw [if_neg (by simp), if_pos he]
  have hL : wrL bs 0 size n = bs := by unfold wrL; rw [hE, if_neg (by decide)]
  rw [hE, hL]
  obtain ⟨c0, c1, c2, c3⟩ := h.2.1
  have HG := Lib.hid (Grew.err h 1)
  clear hE hL h
  rcases he with he | he
  all_goals
    go_enter Tryd.func46, Tryd.ntmps46
    go_wp2_with fail
    exact bodyPost_end (v := .tuple #[]) (by simp [results, Tryd.results46, go_sem]) rfl ⟨rfl, HG.out⟩
theorem lits8 (size : Int) (h1 : 1 ≤ size) (h8 : size ≤ 8) : size = 1 ∨ size = 2 ∨ size = 3 ∨ size = 4 ∨ size = 5 ∨ size = 6 ∨ size = 7 ∨ size = 8 := by omega
set_option maxHeartbeats 2000000 in
theorem wnum_big {base : Nat} (p : Nat) (v : Value) (bs : List UInt8) (size n : Int) (w : World) (h : WObj base w p v bs 0) (h1 : 1 ≤ size) (h8 : size < 8) (hn : n < -(2 ^ (8 * size - 1).toNat) ∨ 2 ^ (8 * size).toNat ≤ n) :
    Calls Tryd.prog 46 #[.pointer (some ⟨p, 0, none⟩), .int .i64 size, .int .i64 n] w fun r w' => r = .returned (.tuple #[]) ∧ Grew base w p v w' (wrL bs 0 size n) (wrE 0 size n) := by
  have hE : wrE 0 size n = 3 := by unfold wrE; rw [if_neg (by simp), if_neg (by omega), if_pos ⟨h8, hn⟩]
  have hL : wrL bs 0 size n = bs := by unfold wrL; rw [hE, if_neg (by decide)]
  rw [hE, hL]
  obtain ⟨c0, c1, c2, c3⟩ := h.2.1
  have HG := Lib.hid (Grew.err h 3)
  clear hE hL h
  have hs : size = 1 ∨ size = 2 ∨ size = 3 ∨ size = 4 ∨ size = 5 ∨ size = 6 ∨ size = 7 := by omega
  rcases hn with hn | hn
  · rcases hs with rfl | rfl | rfl | rfl | rfl | rfl | rfl
    all_goals
      simp only [Int.reduceMul, Int.reduceSub, Int.reduceToNat, Int.reducePow, Int.reduceNeg] at hn
      go_enter Tryd.func46, Tryd.ntmps46
      go_wp2_with fail
      exact bodyPost_end (v := .tuple #[]) (by simp [results, Tryd.results46, go_sem]) rfl ⟨rfl, HG.out⟩
  · rcases hs with rfl | rfl | rfl | rfl | rfl | rfl | rfl
    all_goals
      simp only [Int.reduceMul, Int.reduceSub, Int.reduceToNat, Int.reducePow, Int.reduceNeg] at hn
      have hn2 : ¬ n < 0 := by omega
      go_enter Tryd.func46, Tryd.ntmps46
      go_wp2_with fail
      exact bodyPost_end (v := .tuple #[]) (by simp [results, Tryd.results46, go_sem]) rfl ⟨rfl, HG.out⟩
set_option maxHeartbeats 4000000 in
theorem wnum_ok {base : Nat} (p : Nat) (v : Value) (bs : List UInt8) (size n : Int) (w : World) (h : WObj base w p v bs 0) (hb : base ≤ w.heap.size) (hl : bs.length ≤ 140737488355328) (h1 : 1 ≤ size) (h8 : size ≤ 8)
    (hn : size = 8 ∨ (-(2 ^ (8 * size - 1).toNat) ≤ n ∧ n < 2 ^ (8 * size).toNat)) (hn1 : -9223372036854775808 ≤ n) (hn2 : n ≤ 9223372036854775807) :
    Calls Tryd.prog 46 #[.pointer (some ⟨p, 0, none⟩), .int .i64 size, .int .i64 n] w fun r w' => r = .returned (.tuple #[]) ∧ Grew base w p v w' (wrL bs 0 size n) (wrE 0 size n) := by
  have hE : wrE 0 size n = 0 := by unfold wrE; rw [if_neg (by simp), if_neg (by omega), if_neg (by omega)]
  have hL : wrL bs 0 size n = bs ++ numB n size.toNat := by unfold wrL; rw [hE, if_pos rfl]
  rw [hE, hL]
  have hM : numB (n % 18446744073709551616) size.toNat = numB n size.toNat := numB_mod n _ (by omega)
  have hw64 : IntKind.u64.wrap n = n % 18446744073709551616 := IntKind.wrap_u64 n
  obtain ⟨X, hX⟩ : ∃ X, X = n % 18446744073709551616 := ⟨_, rfl⟩
  have hX1 : 0 ≤ X ∧ X ≤ 18446744073709551615 := by omega
  rw [← hX] at hM hw64
  have hN := fun w => number_any X w hX1.1 hX1.2
  obtain ⟨c0, c1, c2, c3⟩ := h.2.1
  have v0 : IntKind.i64.wrap 0 = 0 := by decide
  have v1 : IntKind.i64.wrap 1 = 1 := by decide
  have v2 : IntKind.i64.wrap 2 = 2 := by decide
  have v3 : IntKind.i64.wrap 3 = 3 := by decide
  have v4 : IntKind.i64.wrap 4 = 4 := by decide
  have v5 : IntKind.i64.wrap 5 = 5 := by decide
  have v6 : IntKind.i64.wrap 6 = 6 := by decide
  have v7 : IntKind.i64.wrap 7 = 7 := by decide
  have H := Lib.hid h
  have HN := Lib.hid hN
  have HM := Lib.hid hM
  clear hE hL h hN hM hX
  rcases lits8 size h1 h8 with rfl | rfl | rfl | rfl | rfl | rfl | rfl | rfl
  all_goals
    simp only [Int.reduceMul, Int.reduceSub, Int.reduceToNat, Int.reducePow, Int.reduceNeg, Int.reduceEq, false_or, true_or] at hn
    go_enter Tryd.func46, Tryd.ntmps46
    go_wp2_with fail
    refine (HN.out _).mono ?_
    rintro r w2 ⟨rfl, hs2⟩
    simp only [numArr]
    go_wp2_with fail
    have hW : Same w (w2.alloc (.cells (numArr X) 106)).drew := (hs2.alloc _).drew
    have hobj := H.out.upd hW fun _ _ h => h
    have hz := hW.size
    have HO := Lib.hid hobj
    have HW := Lib.hid hW
    have d0 := hobj.2.1.1
    have d1 := hobj.2.1.2.2.1
    simp only [numArr] at d0 d1
    clear hobj hW
    go_region_law
      (first
        | (refine step_append_bytes rfl (.tmp 23) (.tmp 26) 25 rfl Tryd.underlying25 li5 base v (.slice (some ⟨w2.heap.size, 7, none⟩) 1 1) bs (numB X 1) _ rfl rfl rfl HO.out.2.2.1 (Bs.same (Bs.num8 w2 X 106 _ 7 1 rfl rfl (by decide) hX1.1 hX1.2) (Upd.refl _ _).drew) (Nat.le_trans hb hz) (by rw [numB_length]; omega) ?_; intro z1 w1 hf1 hu1 hr1; obtain ⟨zA, zn, zc, rfl⟩ := Fresh.shape hf1; have hc1 := HO.out.2.1.upd hu1 HO.out.2.2.2; have d2 := hc1.1; have d3 := hc1.2.2.1; have HF := Lib.hid hf1; have HU := Lib.hid hu1; have HR := Lib.hid hr1; clear hf1 hu1 hr1 hc1)
        | (refine step_append_bytes rfl (.tmp 23) (.tmp 26) 25 rfl Tryd.underlying25 li5 base v (.slice (some ⟨w2.heap.size, 6, none⟩) 2 2) bs (numB X 2) _ rfl rfl rfl HO.out.2.2.1 (Bs.same (Bs.num8 w2 X 106 _ 6 2 rfl rfl (by decide) hX1.1 hX1.2) (Upd.refl _ _).drew) (Nat.le_trans hb hz) (by rw [numB_length]; omega) ?_; intro z1 w1 hf1 hu1 hr1; obtain ⟨zA, zn, zc, rfl⟩ := Fresh.shape hf1; have hc1 := HO.out.2.1.upd hu1 HO.out.2.2.2; have d2 := hc1.1; have d3 := hc1.2.2.1; have HF := Lib.hid hf1; have HU := Lib.hid hu1; have HR := Lib.hid hr1; clear hf1 hu1 hr1 hc1)
        | (refine step_append_bytes rfl (.tmp 23) (.tmp 26) 25 rfl Tryd.underlying25 li5 base v (.slice (some ⟨w2.heap.size, 5, none⟩) 3 3) bs (numB X 3) _ rfl rfl rfl HO.out.2.2.1 (Bs.same (Bs.num8 w2 X 106 _ 5 3 rfl rfl (by decide) hX1.1 hX1.2) (Upd.refl _ _).drew) (Nat.le_trans hb hz) (by rw [numB_length]; omega) ?_; intro z1 w1 hf1 hu1 hr1; obtain ⟨zA, zn, zc, rfl⟩ := Fresh.shape hf1; have hc1 := HO.out.2.1.upd hu1 HO.out.2.2.2; have d2 := hc1.1; have d3 := hc1.2.2.1; have HF := Lib.hid hf1; have HU := Lib.hid hu1; have HR := Lib.hid hr1; clear hf1 hu1 hr1 hc1)
        | (refine step_append_bytes rfl (.tmp 23) (.tmp 26) 25 rfl Tryd.underlying25 li5 base v (.slice (some ⟨w2.heap.size, 4, none⟩) 4 4) bs (numB X 4) _ rfl rfl rfl HO.out.2.2.1 (Bs.same (Bs.num8 w2 X 106 _ 4 4 rfl rfl (by decide) hX1.1 hX1.2) (Upd.refl _ _).drew) (Nat.le_trans hb hz) (by rw [numB_length]; omega) ?_; intro z1 w1 hf1 hu1 hr1; obtain ⟨zA, zn, zc, rfl⟩ := Fresh.shape hf1; have hc1 := HO.out.2.1.upd hu1 HO.out.2.2.2; have d2 := hc1.1; have d3 := hc1.2.2.1; have HF := Lib.hid hf1; have HU := Lib.hid hu1; have HR := Lib.hid hr1; clear hf1 hu1 hr1 hc1)
        | (refine step_append_bytes rfl (.tmp 23) (.tmp 26) 25 rfl Tryd.underlying25 li5 base v (.slice (some ⟨w2.heap.size, 3, none⟩) 5 5) bs (numB X 5) _ rfl rfl rfl HO.out.2.2.1 (Bs.same (Bs.num8 w2 X 106 _ 3 5 rfl rfl (by decide) hX1.1 hX1.2) (Upd.refl _ _).drew) (Nat.le_trans hb hz) (by rw [numB_length]; omega) ?_; intro z1 w1 hf1 hu1 hr1; obtain ⟨zA, zn, zc, rfl⟩ := Fresh.shape hf1; have hc1 := HO.out.2.1.upd hu1 HO.out.2.2.2; have d2 := hc1.1; have d3 := hc1.2.2.1; have HF := Lib.hid hf1; have HU := Lib.hid hu1; have HR := Lib.hid hr1; clear hf1 hu1 hr1 hc1)
        | (refine step_append_bytes rfl (.tmp 23) (.tmp 26) 25 rfl Tryd.underlying25 li5 base v (.slice (some ⟨w2.heap.size, 2, none⟩) 6 6) bs (numB X 6) _ rfl rfl rfl HO.out.2.2.1 (Bs.same (Bs.num8 w2 X 106 _ 2 6 rfl rfl (by decide) hX1.1 hX1.2) (Upd.refl _ _).drew) (Nat.le_trans hb hz) (by rw [numB_length]; omega) ?_; intro z1 w1 hf1 hu1 hr1; obtain ⟨zA, zn, zc, rfl⟩ := Fresh.shape hf1; have hc1 := HO.out.2.1.upd hu1 HO.out.2.2.2; have d2 := hc1.1; have d3 := hc1.2.2.1; have HF := Lib.hid hf1; have HU := Lib.hid hu1; have HR := Lib.hid hr1; clear hf1 hu1 hr1 hc1)
        | (refine step_append_bytes rfl (.tmp 23) (.tmp 26) 25 rfl Tryd.underlying25 li5 base v (.slice (some ⟨w2.heap.size, 1, none⟩) 7 7) bs (numB X 7) _ rfl rfl rfl HO.out.2.2.1 (Bs.same (Bs.num8 w2 X 106 _ 1 7 rfl rfl (by decide) hX1.1 hX1.2) (Upd.refl _ _).drew) (Nat.le_trans hb hz) (by rw [numB_length]; omega) ?_; intro z1 w1 hf1 hu1 hr1; obtain ⟨zA, zn, zc, rfl⟩ := Fresh.shape hf1; have hc1 := HO.out.2.1.upd hu1 HO.out.2.2.2; have d2 := hc1.1; have d3 := hc1.2.2.1; have HF := Lib.hid hf1; have HU := Lib.hid hu1; have HR := Lib.hid hr1; clear hf1 hu1 hr1 hc1)
        | (refine step_append_bytes rfl (.tmp 23) (.tmp 26) 25 rfl Tryd.underlying25 li5 base v (.slice (some ⟨w2.heap.size, 0, none⟩) 8 8) bs (numB X 8) _ rfl rfl rfl HO.out.2.2.1 (Bs.same (Bs.num8 w2 X 106 _ 0 8 rfl rfl (by decide) hX1.1 hX1.2) (Upd.refl _ _).drew) (Nat.le_trans hb hz) (by rw [numB_length]; omega) ?_; intro z1 w1 hf1 hu1 hr1; obtain ⟨zA, zn, zc, rfl⟩ := Fresh.shape hf1; have hc1 := HO.out.2.1.upd hu1 HO.out.2.2.2; have d2 := hc1.1; have d3 := hc1.2.2.1; have HF := Lib.hid hf1; have HU := Lib.hid hu1; have HR := Lib.hid hr1; clear hf1 hu1 hr1 hc1))
    all_goals
      go_wp2_with fail
      refine bodyPost_end (v := .tuple #[]) (by simp [results, Tryd.results46, go_sem]) rfl ⟨rfl, ?_⟩
      have hg := Grew.row HO.out (Nat.le_trans hb hz) HU.out HF.out HR.out
      rw [← HM.out]
      exact Grew.trans (v1 := v) (HW.out.mono fun _ _ h => h.elim) (fun k hk => .inl hk) hg
end Go.Proofs.YtmaofhiapkfoaaaDoor
