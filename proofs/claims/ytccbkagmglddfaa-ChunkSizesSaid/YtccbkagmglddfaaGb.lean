/- Texts that serve the proofs of this chapter, put together. -/
import Derived.Test.YtccbkagmglddfaaGa
import Derived.Deep.RegionLaw
import Derived.Deep.QuietTactic
import Derived.BigQuiet
import Derived.Lib.Hide
namespace Go.Proofs.Ytccbkagmglddfaa
section
open Go.RowKit
set_option linter.unusedVariables false
set_option linter.unusedSimpArgs false

def wrE (e size n : Int) : Int := if e ≠ 0 then e else if size < 1 ∨ 8 < size then 1 else if size < 8 ∧ (n < -(2 ^ (8 * size - 1).toNat) ∨ 2 ^ (8 * size).toNat ≤ n) then 3 else 0
def wrL (bs : List UInt8) (e size n : Int) : List UInt8 := if wrE e size n = 0 then bs ++ numB n size.toNat else bs
theorem Fresh.shape {base : Nat} {w : World} {v : Value} {xs : List UInt8} (h : Fresh base w v xs) : ∃ A n cap, v = .slice A n cap := by
  obtain ⟨A, n, cap, e, _⟩ := h
  exact ⟨A, n, cap, e⟩
theorem numB_mod (n : Int) (k : Nat) (h : k ≤ 8) : numB (n % 18446744073709551616) k = numB n k := by
  induction k with
  | zero => rfl
  | succ k ih =>
    unfold numB
    rw [ih (by omega)]
    congr 2
    have hk : k < 8 := by omega
    match k, hk with
    | 0, _ => omega
    | 1, _ => omega
    | 2, _ => omega
    | 3, _ => omega
    | 4, _ => omega
    | 5, _ => omega
    | 6, _ => omega
    | 7, _ => omega
theorem wnum_err {base : Nat} (p : Nat) (v : Value) (bs : List UInt8) (e size n : Int) (w : World) (h : WObj base w p v bs e) (he : e ≠ 0) :
    Calls Try.prog 33 #[.pointer (some ⟨p, 0, none⟩), .int .i64 size, .int .i64 n] w fun r w' => r = .returned (.tuple #[]) ∧ Grew base w p v w' (wrL bs e size n) (wrE e size n) := by
  have hE : wrE e size n = e := by unfold wrE; rw [if_pos he]
  have hL : wrL bs e size n = bs := by unfold wrL; rw [hE, if_neg he]
  rw [hE, hL]
  obtain ⟨c0, c1, c2, c3⟩ := h.2.1
  have hne : (e != 0) = true := by simpa using he
  have HG := Lib.hid (Grew.refl h)
  clear hE hL he h
  go_enter Try.func33, Try.ntmps33
  go_wp2_with fail
  exact bodyPost_ret (v := .tuple #[]) (by simp [results, Try.results33, go_sem]) rfl ⟨rfl, HG.out⟩
theorem wnum_size {base : Nat} (p : Nat) (v : Value) (bs : List UInt8) (size n : Int) (w : World) (h : WObj base w p v bs 0) (he : size < 1 ∨ 8 < size) :
    Calls Try.prog 33 #[.pointer (some ⟨p, 0, none⟩), .int .i64 size, .int .i64 n] w fun r w' => r = .returned (.tuple #[]) ∧ Grew base w p v w' (wrL bs 0 size n) (wrE 0 size n) := by
  have hE : wrE 0 size n = 1 := by unfold wrE; rw [if_neg (by simp), if_pos he]
  have hL : wrL bs 0 size n = bs := by unfold wrL; rw [hE, if_neg (by decide)]
  rw [hE, hL]
  obtain ⟨c0, c1, c2, c3⟩ := h.2.1
  have HG := Lib.hid (Grew.err h 1)
  clear hE hL h
  rcases he with he | he
  all_goals
    go_enter Try.func33, Try.ntmps33
    go_wp2_with fail
    exact bodyPost_end (v := .tuple #[]) (by simp [results, Try.results33, go_sem]) rfl ⟨rfl, HG.out⟩
theorem lits8 (size : Int) (h1 : 1 ≤ size) (h8 : size ≤ 8) : size = 1 ∨ size = 2 ∨ size = 3 ∨ size = 4 ∨ size = 5 ∨ size = 6 ∨ size = 7 ∨ size = 8 := by omega
set_option maxHeartbeats 2000000 in
theorem wnum_big {base : Nat} (p : Nat) (v : Value) (bs : List UInt8) (size n : Int) (w : World) (h : WObj base w p v bs 0) (h1 : 1 ≤ size) (h8 : size < 8) (hn : n < -(2 ^ (8 * size - 1).toNat) ∨ 2 ^ (8 * size).toNat ≤ n) :
    Calls Try.prog 33 #[.pointer (some ⟨p, 0, none⟩), .int .i64 size, .int .i64 n] w fun r w' => r = .returned (.tuple #[]) ∧ Grew base w p v w' (wrL bs 0 size n) (wrE 0 size n) := by
  have hE : wrE 0 size n = 3 := by unfold wrE; rw [if_neg (by simp), if_neg (by omega), if_pos ⟨h8, hn⟩]
  have hL : wrL bs 0 size n = bs := by unfold wrL; rw [hE, if_neg (by decide)]
  rw [hE, hL]
  obtain ⟨c0, c1, c2, c3⟩ := h.2.1
  have HG := Lib.hid (Grew.err h 3)
  clear hE hL h
  have hs : size = 1 ∨ size = 2 ∨ size = 3 ∨ size = 4 ∨ size = 5 ∨ size = 6 ∨ size = 7 := by omega
  rcases hn with hn | hn
  · rcases hs with rfl | rfl | rfl | rfl | rfl | rfl | rfl
    all_goals
      simp only [Int.reduceMul, Int.reduceSub, Int.reduceToNat, Int.reducePow, Int.reduceNeg] at hn
      go_enter Try.func33, Try.ntmps33
      go_wp2_with fail
      exact bodyPost_end (v := .tuple #[]) (by simp [results, Try.results33, go_sem]) rfl ⟨rfl, HG.out⟩
  · rcases hs with rfl | rfl | rfl | rfl | rfl | rfl | rfl
    all_goals
      simp only [Int.reduceMul, Int.reduceSub, Int.reduceToNat, Int.reducePow, Int.reduceNeg] at hn
      have hn2 : ¬ n < 0 := by omega
      go_enter Try.func33, Try.ntmps33
      go_wp2_with fail
      exact bodyPost_end (v := .tuple #[]) (by simp [results, Try.results33, go_sem]) rfl ⟨rfl, HG.out⟩
set_option maxHeartbeats 4000000 in
theorem wnum_ok {base : Nat} (p : Nat) (v : Value) (bs : List UInt8) (size n : Int) (w : World) (h : WObj base w p v bs 0) (hb : base ≤ w.heap.size) (hl : bs.length ≤ 140737488355328) (h1 : 1 ≤ size) (h8 : size ≤ 8)
    (hn : size = 8 ∨ (-(2 ^ (8 * size - 1).toNat) ≤ n ∧ n < 2 ^ (8 * size).toNat)) (hn1 : -9223372036854775808 ≤ n) (hn2 : n ≤ 9223372036854775807) :
    Calls Try.prog 33 #[.pointer (some ⟨p, 0, none⟩), .int .i64 size, .int .i64 n] w fun r w' => r = .returned (.tuple #[]) ∧ Grew base w p v w' (wrL bs 0 size n) (wrE 0 size n) := by
  have hE : wrE 0 size n = 0 := by unfold wrE; rw [if_neg (by simp), if_neg (by omega), if_neg (by omega)]
  have hL : wrL bs 0 size n = bs ++ numB n size.toNat := by unfold wrL; rw [hE, if_pos rfl]
  rw [hE, hL]
  have hM : numB (n % 18446744073709551616) size.toNat = numB n size.toNat := numB_mod n _ (by omega)
  have hw64 : IntKind.u64.wrap n = n % 18446744073709551616 := IntKind.wrap_u64 n
  obtain ⟨X, hX⟩ : ∃ X, X = n % 18446744073709551616 := ⟨_, rfl⟩
  have hX1 : 0 ≤ X ∧ X ≤ 18446744073709551615 := by omega
  rw [← hX] at hM hw64
  have hN := fun w => number_any X w hX1.1 hX1.2
  obtain ⟨c0, c1, c2, c3⟩ := h.2.1
  have v0 : IntKind.i64.wrap 0 = 0 := by decide
  have v1 : IntKind.i64.wrap 1 = 1 := by decide
  have v2 : IntKind.i64.wrap 2 = 2 := by decide
  have v3 : IntKind.i64.wrap 3 = 3 := by decide
  have v4 : IntKind.i64.wrap 4 = 4 := by decide
  have v5 : IntKind.i64.wrap 5 = 5 := by decide
  have v6 : IntKind.i64.wrap 6 = 6 := by decide
  have v7 : IntKind.i64.wrap 7 = 7 := by decide
  have H := Lib.hid h
  have HN := Lib.hid hN
  have HM := Lib.hid hM
  clear hE hL h hN hM hX
  rcases lits8 size h1 h8 with rfl | rfl | rfl | rfl | rfl | rfl | rfl | rfl
  all_goals
    simp only [Int.reduceMul, Int.reduceSub, Int.reduceToNat, Int.reducePow, Int.reduceNeg, Int.reduceEq, false_or, true_or] at hn
    go_enter Try.func33, Try.ntmps33
    go_wp2_with fail
    refine (HN.out _).mono ?_
    rintro r w2 ⟨rfl, hs2⟩
    simp only [numArr]
    go_wp2_with fail
    have hW : Same w (w2.alloc (.cells (numArr X) 102)).drew := (hs2.alloc _).drew
    have hobj := H.out.upd hW fun _ _ h => h
    have hz := hW.size
    have HO := Lib.hid hobj
    have HW := Lib.hid hW
    have d0 := hobj.2.1.1
    have d1 := hobj.2.1.2.2.1
    simp only [numArr] at d0 d1
    clear hobj hW
    go_region_law
      (first
        | (refine step_append_bytes rfl (.tmp 23) (.tmp 26) 22 rfl Try.underlying22 li5 base v (.slice (some ⟨w2.heap.size, 7, none⟩) 1 1) bs (numB X 1) _ rfl rfl rfl HO.out.2.2.1 (Bs.same (Bs.num8 w2 X 102 _ 7 1 rfl rfl (by decide) hX1.1 hX1.2) (Upd.refl _ _).drew) (Nat.le_trans hb hz) (by rw [numB_length]; omega) ?_; intro z1 w1 hf1 hu1 hr1; obtain ⟨zA, zn, zc, rfl⟩ := Fresh.shape hf1; have hc1 := HO.out.2.1.upd hu1 HO.out.2.2.2; have d2 := hc1.1; have d3 := hc1.2.2.1; have HF := Lib.hid hf1; have HU := Lib.hid hu1; have HR := Lib.hid hr1; clear hf1 hu1 hr1 hc1)
        | (refine step_append_bytes rfl (.tmp 23) (.tmp 26) 22 rfl Try.underlying22 li5 base v (.slice (some ⟨w2.heap.size, 6, none⟩) 2 2) bs (numB X 2) _ rfl rfl rfl HO.out.2.2.1 (Bs.same (Bs.num8 w2 X 102 _ 6 2 rfl rfl (by decide) hX1.1 hX1.2) (Upd.refl _ _).drew) (Nat.le_trans hb hz) (by rw [numB_length]; omega) ?_; intro z1 w1 hf1 hu1 hr1; obtain ⟨zA, zn, zc, rfl⟩ := Fresh.shape hf1; have hc1 := HO.out.2.1.upd hu1 HO.out.2.2.2; have d2 := hc1.1; have d3 := hc1.2.2.1; have HF := Lib.hid hf1; have HU := Lib.hid hu1; have HR := Lib.hid hr1; clear hf1 hu1 hr1 hc1)
        | (refine step_append_bytes rfl (.tmp 23) (.tmp 26) 22 rfl Try.underlying22 li5 base v (.slice (some ⟨w2.heap.size, 5, none⟩) 3 3) bs (numB X 3) _ rfl rfl rfl HO.out.2.2.1 (Bs.same (Bs.num8 w2 X 102 _ 5 3 rfl rfl (by decide) hX1.1 hX1.2) (Upd.refl _ _).drew) (Nat.le_trans hb hz) (by rw [numB_length]; omega) ?_; intro z1 w1 hf1 hu1 hr1; obtain ⟨zA, zn, zc, rfl⟩ := Fresh.shape hf1; have hc1 := HO.out.2.1.upd hu1 HO.out.2.2.2; have d2 := hc1.1; have d3 := hc1.2.2.1; have HF := Lib.hid hf1; have HU := Lib.hid hu1; have HR := Lib.hid hr1; clear hf1 hu1 hr1 hc1)
        | (refine step_append_bytes rfl (.tmp 23) (.tmp 26) 22 rfl Try.underlying22 li5 base v (.slice (some ⟨w2.heap.size, 4, none⟩) 4 4) bs (numB X 4) _ rfl rfl rfl HO.out.2.2.1 (Bs.same (Bs.num8 w2 X 102 _ 4 4 rfl rfl (by decide) hX1.1 hX1.2) (Upd.refl _ _).drew) (Nat.le_trans hb hz) (by rw [numB_length]; omega) ?_; intro z1 w1 hf1 hu1 hr1; obtain ⟨zA, zn, zc, rfl⟩ := Fresh.shape hf1; have hc1 := HO.out.2.1.upd hu1 HO.out.2.2.2; have d2 := hc1.1; have d3 := hc1.2.2.1; have HF := Lib.hid hf1; have HU := Lib.hid hu1; have HR := Lib.hid hr1; clear hf1 hu1 hr1 hc1)
        | (refine step_append_bytes rfl (.tmp 23) (.tmp 26) 22 rfl Try.underlying22 li5 base v (.slice (some ⟨w2.heap.size, 3, none⟩) 5 5) bs (numB X 5) _ rfl rfl rfl HO.out.2.2.1 (Bs.same (Bs.num8 w2 X 102 _ 3 5 rfl rfl (by decide) hX1.1 hX1.2) (Upd.refl _ _).drew) (Nat.le_trans hb hz) (by rw [numB_length]; omega) ?_; intro z1 w1 hf1 hu1 hr1; obtain ⟨zA, zn, zc, rfl⟩ := Fresh.shape hf1; have hc1 := HO.out.2.1.upd hu1 HO.out.2.2.2; have d2 := hc1.1; have d3 := hc1.2.2.1; have HF := Lib.hid hf1; have HU := Lib.hid hu1; have HR := Lib.hid hr1; clear hf1 hu1 hr1 hc1)
        | (refine step_append_bytes rfl (.tmp 23) (.tmp 26) 22 rfl Try.underlying22 li5 base v (.slice (some ⟨w2.heap.size, 2, none⟩) 6 6) bs (numB X 6) _ rfl rfl rfl HO.out.2.2.1 (Bs.same (Bs.num8 w2 X 102 _ 2 6 rfl rfl (by decide) hX1.1 hX1.2) (Upd.refl _ _).drew) (Nat.le_trans hb hz) (by rw [numB_length]; omega) ?_; intro z1 w1 hf1 hu1 hr1; obtain ⟨zA, zn, zc, rfl⟩ := Fresh.shape hf1; have hc1 := HO.out.2.1.upd hu1 HO.out.2.2.2; have d2 := hc1.1; have d3 := hc1.2.2.1; have HF := Lib.hid hf1; have HU := Lib.hid hu1; have HR := Lib.hid hr1; clear hf1 hu1 hr1 hc1)
        | (refine step_append_bytes rfl (.tmp 23) (.tmp 26) 22 rfl Try.underlying22 li5 base v (.slice (some ⟨w2.heap.size, 1, none⟩) 7 7) bs (numB X 7) _ rfl rfl rfl HO.out.2.2.1 (Bs.same (Bs.num8 w2 X 102 _ 1 7 rfl rfl (by decide) hX1.1 hX1.2) (Upd.refl _ _).drew) (Nat.le_trans hb hz) (by rw [numB_length]; omega) ?_; intro z1 w1 hf1 hu1 hr1; obtain ⟨zA, zn, zc, rfl⟩ := Fresh.shape hf1; have hc1 := HO.out.2.1.upd hu1 HO.out.2.2.2; have d2 := hc1.1; have d3 := hc1.2.2.1; have HF := Lib.hid hf1; have HU := Lib.hid hu1; have HR := Lib.hid hr1; clear hf1 hu1 hr1 hc1)
        | (refine step_append_bytes rfl (.tmp 23) (.tmp 26) 22 rfl Try.underlying22 li5 base v (.slice (some ⟨w2.heap.size, 0, none⟩) 8 8) bs (numB X 8) _ rfl rfl rfl HO.out.2.2.1 (Bs.same (Bs.num8 w2 X 102 _ 0 8 rfl rfl (by decide) hX1.1 hX1.2) (Upd.refl _ _).drew) (Nat.le_trans hb hz) (by rw [numB_length]; omega) ?_; intro z1 w1 hf1 hu1 hr1; obtain ⟨zA, zn, zc, rfl⟩ := Fresh.shape hf1; have hc1 := HO.out.2.1.upd hu1 HO.out.2.2.2; have d2 := hc1.1; have d3 := hc1.2.2.1; have HF := Lib.hid hf1; have HU := Lib.hid hu1; have HR := Lib.hid hr1; clear hf1 hu1 hr1 hc1))
    all_goals
      go_wp2_with fail
      refine bodyPost_end (v := .tuple #[]) (by simp [results, Try.results33, go_sem]) rfl ⟨rfl, ?_⟩
      have hg := Grew.row HO.out (Nat.le_trans hb hz) HU.out HF.out HR.out
      rw [← HM.out]
      exact Grew.trans (v1 := v) (HW.out.mono fun _ _ h => h.elim) (fun k hk => .inl hk) hg
end
section
open Go.RowKit
set_option linter.unusedVariables false
set_option linter.unusedSimpArgs false

def wbE (e size : Int) (n : Nat) : Int := if e ≠ 0 then e else addE size n
def wbL (bs : List UInt8) (e size : Int) (ps : List UInt8) : List UInt8 := if e = 0 ∧ addE size ps.length = 0 then addL bs size ps else bs
/-- A new writer. -/
theorem newWriter_any (w : World) : Calls Try.prog 32 #[] w fun r w' => r = .returned (.pointer (some ⟨w.heap.size, 0, none⟩)) ∧ WObj w.heap.size w' w.heap.size (.slice none 0 0) [] 0 ∧ Same w w' := by
  go_enter Try.func32, Try.ntmps32
  go_wp2
  go_ret
  exact ⟨rfl, ⟨Nat.le_refl _, Cell2.new w _ _ _ _ rfl, Fresh.nil _ _, by simp [room]⟩, (Upd.refl _ w).alloc _⟩
/-- Bytes. -/
theorem wbytes_any {base : Nat} (p : Nat) (v u : Value) (bs ps : List UInt8) (e size : Int) (w : World) (h : WObj base w p v bs e) (hu : Bs w u ps) (hb : base ≤ w.heap.size) (hl : bs.length ≤ 140737488351232) (hl2 : ps.length ≤ 140737488351232) :
    Calls Try.prog 34 #[.pointer (some ⟨p, 0, none⟩), .int .i64 size, u] w fun r w' => r = .returned (.tuple #[]) ∧ Grew base w p v w' (wbL bs e size ps) (wbE e size ps.length) := by
  obtain ⟨c0, c1, c2, c3⟩ := h.2.1
  by_cases he : e = 0
  · subst he
    have ha := add_bs v u bs ps size w h.2.2.1.bs hu hl hl2
    have HH := Lib.hid h
    obtain ⟨A, n, cap, rfl⟩ := Fresh.shape h.2.2.1
    by_cases hE : addE size ps.length = 0
    · have h1 : wbE 0 size ps.length = 0 := by unfold wbE; rw [if_neg (by simp)]; exact hE
      have h2 : wbL bs 0 size ps = addL bs size ps := by unfold wbL; rw [if_pos ⟨rfl, hE⟩]
      rw [h1, h2]
      rw [hE] at ha
      generalize addL bs size ps = AL at ha
      have HA := Lib.hid ha
      clear ha h h1 h2 hE
      go_enter Try.func34, Try.ntmps34
      go_wp2_with fail
      refine HA.out.mono ?_
      rintro r w1 ⟨v1, rfl, hf1, hs1⟩
      have hc := HH.out.2.1.upd hs1 id
      have d0 := hc.1
      have d2 := hc.2.2.1
      obtain ⟨A1, n1, cap1, rfl⟩ := Fresh.shape hf1
      have HF := Lib.hid hf1
      have HS := Lib.hid hs1
      clear hf1 hs1 hc
      go_wp2_with fail
      refine bodyPost_end (v := .tuple #[]) (by simp [results, Try.results34, go_sem]) rfl ⟨rfl, ?_⟩
      exact Grew.row HH.out hb (HS.out.mono fun _ _ h => h.elim) (HF.out.mono hb) (fun k hk => .inr (HF.out.ge k hk).1)
    · have h1 : wbE 0 size ps.length = addE size ps.length := by unfold wbE; rw [if_neg (by simp)]
      have h2 : wbL bs 0 size ps = bs := by unfold wbL; rw [if_neg (by omega)]
      rw [h1, h2]
      generalize addL bs size ps = AL at ha
      generalize addE size ps.length = AE at ha hE
      have hne : (AE != 0) = true := by simpa using hE
      have HA := Lib.hid ha
      clear ha h h1 h2 hE
      go_enter Try.func34, Try.ntmps34
      go_wp2_with fail
      refine HA.out.mono ?_
      rintro r w1 ⟨v1, rfl, hf1, hs1⟩
      have ho := HH.out.upd hs1 fun _ _ h => h
      have d1 := ho.2.1.2.1
      have d3 := ho.2.1.2.2.2
      have HO := Lib.hid ho
      have HS := Lib.hid hs1
      clear hf1 hs1 ho
      go_wp2_with fail
      refine bodyPost_end (v := .tuple #[]) (by simp [results, Try.results34, go_sem]) rfl ⟨rfl, ?_⟩
      exact Grew.trans (HS.out.mono fun _ _ h => h.elim) (fun k hk => .inl hk) (Grew.err HO.out AE)
  · have h1 : wbE e size ps.length = e := by unfold wbE; rw [if_pos he]
    have h2 : wbL bs e size ps = bs := by unfold wbL; rw [if_neg (by omega)]
    rw [h1, h2]
    have hne : (e != 0) = true := by simpa using he
    have HG := Lib.hid (Grew.refl h)
    clear h h1 h2 he
    go_enter Try.func34, Try.ntmps34
    go_wp2_with fail
    exact bodyPost_ret (v := .tuple #[]) (by simp [results, Try.results34, go_sem]) rfl ⟨rfl, HG.out⟩
/-- The end. -/
theorem wend_any {base : Nat} (p : Nat) (v : Value) (bs : List UInt8) (e : Int) (w : World) (h : WObj base w p v bs e) (hb : base ≤ w.heap.size) (hl : bs.length ≤ 200000000000000) :
    Calls Try.prog 35 #[.pointer (some ⟨p, 0, none⟩)] w fun r w' => ∃ v', r = .returned (.tuple #[v', .int .i64 e]) ∧ Fresh w.heap.size w' v' (if e = 0 then bs else []) ∧ Same w w' := by
  obtain ⟨c0, c1, c2, c3⟩ := h.2.1
  by_cases he : e = 0
  · subst he
    have hc := clone_bs v bs w h.2.2.1.bs hl
    obtain ⟨A, n, cap, rfl⟩ := Fresh.shape h.2.2.1
    rw [if_pos rfl]
    have HC := Lib.hid hc
    clear hc h
    go_enter Try.func35, Try.ntmps35
    go_wp2_with fail
    refine HC.out.mono ?_
    rintro r w1 ⟨v1, rfl, hf1, hs1⟩
    have HF := Lib.hid hf1
    have HS := Lib.hid hs1
    clear hf1 hs1
    go_wp2_with fail
    go_ret2
    exact ⟨_, rfl, HF.out, HS.out⟩
  · rw [if_neg he]
    have hne : (e != 0) = true := by simpa using he
    clear h he
    go_enter Try.func35, Try.ntmps35
    go_wp2_with fail
    go_quiet (fail)
    go_wp2_with fail
    go_ret2
    exact ⟨_, rfl, Fresh.nil _ _, (Upd.refl _ w).drewN _⟩
end
section
open Go.RowKit
set_option linter.unusedVariables false
set_option linter.unusedSimpArgs false

theorem rwnum_err {base : Nat} (p : Nat) (v : Value) (bs : List UInt8) (e size n : Int) (w : World) (h : WObj base w p v bs e) (he : e ≠ 0) :
    Calls Try.prog 63 #[.pointer (some ⟨p, 0, none⟩), .int .i64 size, .int .i64 n] w fun r w' => r = .returned (.tuple #[]) ∧ Grew base w p v w' (wrL bs e size n) (wrE e size n) := by
  have hE : wrE e size n = e := by unfold wrE; rw [if_pos he]
  have hL : wrL bs e size n = bs := by unfold wrL; rw [hE, if_neg he]
  rw [hE, hL]
  obtain ⟨c0, c1, c2, c3⟩ := h.2.1
  have hne : (e != 0) = true := by simpa using he
  have HG := Lib.hid (Grew.refl h)
  clear hE hL he h
  go_enter Try.func63, Try.ntmps63
  go_wp2_with fail
  exact bodyPost_ret (v := .tuple #[]) (by simp [results, Try.results63, go_sem]) rfl ⟨rfl, HG.out⟩
theorem rwnum_size {base : Nat} (p : Nat) (v : Value) (bs : List UInt8) (size n : Int) (w : World) (h : WObj base w p v bs 0) (he : size < 1 ∨ 8 < size) :
    Calls Try.prog 63 #[.pointer (some ⟨p, 0, none⟩), .int .i64 size, .int .i64 n] w fun r w' => r = .returned (.tuple #[]) ∧ Grew base w p v w' (wrL bs 0 size n) (wrE 0 size n) := by
  have hE : wrE 0 size n = 1 := by unfold wrE; rw [if_neg (by simp), if_pos he]
  have hL : wrL bs 0 size n = bs := by unfold wrL; rw [hE, if_neg (by decide)]
  rw [hE, hL]
  obtain ⟨c0, c1, c2, c3⟩ := h.2.1
  have HG := Lib.hid (Grew.err h 1)
  clear hE hL h
  rcases he with he | he
  all_goals
    go_enter Try.func63, Try.ntmps63
    go_wp2_with fail
    exact bodyPost_ret (v := .tuple #[]) (by simp [results, Try.results63, go_sem]) rfl ⟨rfl, HG.out⟩
set_option maxHeartbeats 2000000 in
theorem rwnum_big {base : Nat} (p : Nat) (v : Value) (bs : List UInt8) (size n : Int) (w : World) (h : WObj base w p v bs 0) (h1 : 1 ≤ size) (h8 : size < 8) (hn : n < -(2 ^ (8 * size - 1).toNat) ∨ 2 ^ (8 * size).toNat ≤ n) :
    Calls Try.prog 63 #[.pointer (some ⟨p, 0, none⟩), .int .i64 size, .int .i64 n] w fun r w' => r = .returned (.tuple #[]) ∧ Grew base w p v w' (wrL bs 0 size n) (wrE 0 size n) := by
  have hE : wrE 0 size n = 3 := by unfold wrE; rw [if_neg (by simp), if_neg (by omega), if_pos ⟨h8, hn⟩]
  have hL : wrL bs 0 size n = bs := by unfold wrL; rw [hE, if_neg (by decide)]
  rw [hE, hL]
  obtain ⟨c0, c1, c2, c3⟩ := h.2.1
  have HG := Lib.hid (Grew.err h 3)
  clear hE hL h
  have hs : size = 1 ∨ size = 2 ∨ size = 3 ∨ size = 4 ∨ size = 5 ∨ size = 6 ∨ size = 7 := by omega
  rcases hn with hn | hn
  · rcases hs with rfl | rfl | rfl | rfl | rfl | rfl | rfl
    all_goals
      simp only [Int.reduceMul, Int.reduceSub, Int.reduceToNat, Int.reducePow, Int.reduceNeg] at hn
      go_enter Try.func63, Try.ntmps63
      go_wp2_with fail
      exact bodyPost_ret (v := .tuple #[]) (by simp [results, Try.results63, go_sem]) rfl ⟨rfl, HG.out⟩
  · rcases hs with rfl | rfl | rfl | rfl | rfl | rfl | rfl
    all_goals
      simp only [Int.reduceMul, Int.reduceSub, Int.reduceToNat, Int.reducePow, Int.reduceNeg] at hn
      have hn2 : ¬ n < 0 := by omega
      go_enter Try.func63, Try.ntmps63
      go_wp2_with fail
      exact bodyPost_ret (v := .tuple #[]) (by simp [results, Try.results63, go_sem]) rfl ⟨rfl, HG.out⟩
theorem numB_byte (n : Int) (m k : Nat) (hk : 0 < k) (hm : k ≤ m) : (numB n m).take (m - (k - 1)) = (numB n m).take (m - k) ++ [UInt8.ofNat (n / 2 ^ (8 * (k - 1)) % 256).toNat] := by
  have h : ∀ (m k : Nat), k < m → (numB n m).getD k 0 = UInt8.ofNat (n / 256 ^ (m - 1 - k) % 256).toNat := by
    intro m
    induction m with
    | zero => intro k hk; omega
    | succ m ih =>
      intro k hk
      rw [numB]
      cases k with
      | zero => simp
      | succ k =>
        rw [List.getD_cons_succ, ih k (by omega), show m + 1 - 1 - (k + 1) = m - 1 - k by omega]
  have hl := numB_length n m
  rw [show m - (k - 1) = (m - k) + 1 by omega, List.take_succ_eq_append_getElem (by omega)]
  congr 2
  have := h m (m - k) (by omega)
  rw [List.getD_eq_getElem?_getD, List.getElem?_eq_getElem (by omega)] at this
  simp only [Option.getD_some] at this
  rw [this, show m - 1 - (m - k) = k - 1 by omega, show (2 : Int) ^ (8 * (k - 1)) = 256 ^ (k - 1) by rw [Int.pow_mul]; rfl]
set_option maxHeartbeats 4000000 in
theorem rwnum_ok {base : Nat} (p : Nat) (v : Value) (bs : List UInt8) (size n : Int) (w : World) (h : WObj base w p v bs 0) (hb : base ≤ w.heap.size) (hl : bs.length ≤ 140737488355328) (h1 : 1 ≤ size) (h8 : size ≤ 8)
    (hn : size = 8 ∨ (-(2 ^ (8 * size - 1).toNat) ≤ n ∧ n < 2 ^ (8 * size).toNat)) (hn1 : -9223372036854775808 ≤ n) (hn2 : n ≤ 9223372036854775807) :
    Calls Try.prog 63 #[.pointer (some ⟨p, 0, none⟩), .int .i64 size, .int .i64 n] w fun r w' => r = .returned (.tuple #[]) ∧ Grew base w p v w' (wrL bs 0 size n) (wrE 0 size n) := by
  have hE : wrE 0 size n = 0 := by unfold wrE; rw [if_neg (by simp), if_neg (by omega), if_neg (by omega)]
  have hL : wrL bs 0 size n = bs ++ numB n size.toNat := by unfold wrL; rw [hE, if_pos rfl]
  rw [hE, hL]
  obtain ⟨c0, c1, c2, c3⟩ := h.2.1
  have H := Lib.hid h
  clear hE hL h
  obtain ⟨M, hM⟩ : ∃ M : Nat, (M : Int) = size := ⟨size.toNat, by omega⟩
  rw [show size.toNat = M by omega]
  have HM := Lib.hid hM
  have hM8 : M ≤ 8 := by omega
  have hz0 : Grew base w p v w (bs ++ (numB n M).take (M - M)) 0 := by rw [Nat.sub_self]; simpa using Grew.refl H.out
  have HZ := Lib.hid hz0
  clear hM hz0
  rcases lits8 size h1 h8 with rfl | rfl | rfl | rfl | rfl | rfl | rfl | rfl
  all_goals
    simp only [Int.reduceMul, Int.reduceSub, Int.reduceToNat, Int.reducePow, Int.reduceNeg, Int.reduceEq, false_or, true_or] at hn
    go_enter Try.func63, Try.ntmps63
    go_wp2_with fail
    go_loopw [8] (fun v8 wr => ∃ k : Nat, k ≤ M ∧ v8 = .int .i64 ((k : Int) - 1) ∧ Grew base w p v wr (bs ++ (numB n M).take (M - k)) 0) (fun v8 _ => (intOf v8 + 1).toNat)
    case atStart => exact ⟨M, Nat.le_refl _, by rw [HM.out]; rfl, HZ.out⟩
    case round =>
      obtain ⟨k, hk, rfl, v', ho, hu, hr⟩ := hrel
      by_cases hk0 : k = 0
      · subst hk0
        have hg : Grew base w p v wr (bs ++ numB n M) 0 := by
          refine ⟨v', ?_, hu, hr⟩
          have := ho
          rwa [Nat.sub_zero, List.take_of_length_le (by rw [numB_length]; exact Nat.le_refl _)] at this
        have HG := Lib.hid hg
        clear ho hu hr hg
        go_wp2_with fail
        refine bodyPost_end (v := .tuple #[]) (by simp [results, Try.results63, go_sem]) rfl ⟨rfl, HG.out⟩
      · have g1 : (0 : Int) ≤ (k : Int) - 1 := by omega
        have g2 : (8 * ((k : Int) - 1)).toNat = 8 * (k - 1) := by omega
        have g3 : (k : Int) - 1 ≤ 7 := by omega
        have ho1 := ho.upd ((Upd.refl (fun _ => False) wr).alloc (.cells #[.int .u8 (n / 2 ^ (8 * (k - 1)) % 256)] 5)) fun _ _ h => h
        obtain ⟨d0, d1, d2, d3⟩ := ho.2.1
        have hbyte := numB_byte n M k (by omega) hk
        have hln : ((bs ++ (numB n M).take (M - k)).length) ≤ 140737488355340 := by rw [List.length_append, List.length_take, numB_length]; omega
        have hy0 := Int.emod_nonneg (n / 2 ^ (8 * (k - 1))) (show (256 : Int) ≠ 0 by decide)
        have hy1 := Int.emod_lt_of_pos (n / 2 ^ (8 * (k - 1))) (show (0 : Int) < 256 by decide)
        have HO := Lib.hid ho1
        have HU := Lib.hid hu
        have HR := Lib.hid hr
        have HBY := Lib.hid hbyte
        have hbw : base ≤ wr.heap.size := Nat.le_trans hb hu.size
        clear ho ho1 hu hr hbyte
        go_wp2_with (at_builtin; refine wpl_append_bytes rfl (.tmp 57) (.tmp 64) 22 rfl Try.underlying22 li5 base v' _ (bs ++ (numB n M).take (M - k)) [UInt8.ofNat (n / 2 ^ (8 * (k - 1)) % 256).toNat] _ rfl rfl rfl HO.out.2.2.1 (Bs.one wr (n / 2 ^ (8 * (k - 1)) % 256) _ _ rfl hy0 (by omega)) (by simp; omega) (by simp only [List.length_cons, List.length_nil]; omega) ?_; intro z1 w1 hf1 hu1 hr1; obtain ⟨zA, zn, zc, rfl⟩ := Fresh.shape hf1; obtain ⟨k0, k1, k2, k3⟩ := HO.out.2.1.upd hu1 HO.out.2.2.2; have HF := Lib.hid hf1; have HU1 := Lib.hid hu1; have HR1 := Lib.hid hr1; clear hf1 hu1 hr1)
        go_roundw
        case rel =>
          refine ⟨k - 1, by omega, by congr 1; omega, ?_⟩
          rw [HBY.out, ← List.append_assoc]
          exact Grew.trans HU.out HR.out (Grew.trans (v1 := v') ((Upd.refl _ wr).alloc _) (fun k hk => .inl hk) (Grew.row HO.out (by simp; omega) HU1.out HF.out HR1.out))
        case measure => simp [intOf]; omega
/-- Bytes. -/
theorem rwbytes_any {base : Nat} (p : Nat) (v u : Value) (bs ps : List UInt8) (e size : Int) (w : World) (h : WObj base w p v bs e) (hu : Bs w u ps) (hb : base ≤ w.heap.size) (hl : bs.length ≤ 140737488351232) (hl2 : ps.length ≤ 140737488351232) :
    Calls Try.prog 64 #[.pointer (some ⟨p, 0, none⟩), .int .i64 size, u] w fun r w' => r = .returned (.tuple #[]) ∧ Grew base w p v w' (wbL bs e size ps) (wbE e size ps.length) := by
  obtain ⟨c0, c1, c2, c3⟩ := h.2.1
  by_cases he : e = 0
  · subst he
    have ha := radd_bs v u bs ps size w h.2.2.1.bs hu hl hl2
    have HH := Lib.hid h
    obtain ⟨A, n, cap, rfl⟩ := Fresh.shape h.2.2.1
    by_cases hE : addE size ps.length = 0
    · have h1 : wbE 0 size ps.length = 0 := by unfold wbE; rw [if_neg (by simp)]; exact hE
      have h2 : wbL bs 0 size ps = addL bs size ps := by unfold wbL; rw [if_pos ⟨rfl, hE⟩]
      rw [h1, h2]
      rw [hE] at ha
      generalize addL bs size ps = AL at ha
      have HA := Lib.hid ha
      clear ha h h1 h2 hE
      go_enter Try.func64, Try.ntmps64
      go_wp2_with fail
      refine HA.out.mono ?_
      rintro r w1 ⟨v1, rfl, hf1, hs1⟩
      have hc := HH.out.2.1.upd hs1 id
      have d0 := hc.1
      have d2 := hc.2.2.1
      obtain ⟨A1, n1, cap1, rfl⟩ := Fresh.shape hf1
      have HF := Lib.hid hf1
      have HS := Lib.hid hs1
      clear hf1 hs1 hc
      go_wp2_with fail
      refine bodyPost_end (v := .tuple #[]) (by simp [results, Try.results64, go_sem]) rfl ⟨rfl, ?_⟩
      exact Grew.row HH.out hb (HS.out.mono fun _ _ h => h.elim) (HF.out.mono hb) (fun k hk => .inr (HF.out.ge k hk).1)
    · have h1 : wbE 0 size ps.length = addE size ps.length := by unfold wbE; rw [if_neg (by simp)]
      have h2 : wbL bs 0 size ps = bs := by unfold wbL; rw [if_neg (by omega)]
      rw [h1, h2]
      generalize addL bs size ps = AL at ha
      generalize addE size ps.length = AE at ha hE
      have hne : (AE != 0) = true := by simpa using hE
      have HA := Lib.hid ha
      clear ha h h1 h2 hE
      go_enter Try.func64, Try.ntmps64
      go_wp2_with fail
      refine HA.out.mono ?_
      rintro r w1 ⟨v1, rfl, hf1, hs1⟩
      have ho := HH.out.upd hs1 fun _ _ h => h
      have d1 := ho.2.1.2.1
      have d3 := ho.2.1.2.2.2
      have HO := Lib.hid ho
      have HS := Lib.hid hs1
      clear hf1 hs1 ho
      go_wp2_with fail
      refine bodyPost_ret (v := .tuple #[]) (by simp [results, Try.results64, go_sem]) rfl ⟨rfl, ?_⟩
      exact Grew.trans (HS.out.mono fun _ _ h => h.elim) (fun k hk => .inl hk) (Grew.err HO.out AE)
  · have h1 : wbE e size ps.length = e := by unfold wbE; rw [if_pos he]
    have h2 : wbL bs e size ps = bs := by unfold wbL; rw [if_neg (by omega)]
    rw [h1, h2]
    have hne : (e != 0) = true := by simpa using he
    have HG := Lib.hid (Grew.refl h)
    clear h h1 h2 he
    go_enter Try.func64, Try.ntmps64
    go_wp2_with fail
    exact bodyPost_ret (v := .tuple #[]) (by simp [results, Try.results64, go_sem]) rfl ⟨rfl, HG.out⟩
/-- The end. -/
theorem rwend_any {base : Nat} (p : Nat) (v : Value) (bs : List UInt8) (e : Int) (w : World) (h : WObj base w p v bs e) (hb : base ≤ w.heap.size) (hl : bs.length ≤ 200000000000000) :
    Calls Try.prog 65 #[.pointer (some ⟨p, 0, none⟩)] w fun r w' => ∃ v', r = .returned (.tuple #[v', .int .i64 e]) ∧ Fresh w.heap.size w' v' (if e = 0 then bs else []) ∧ Same w w' := by
  obtain ⟨c0, c1, c2, c3⟩ := h.2.1
  by_cases he : e = 0
  · subst he
    obtain ⟨A, n, cap, rfl⟩ := Fresh.shape h.2.2.1
    rw [if_pos rfl]
    have HB := Lib.hid h.2.2.1.bs
    clear h
    go_enter Try.func65, Try.ntmps65
    go_wp2_with (at_builtin; refine wpl_append_bytes rfl (.tmp 14) (.tmp 18) 22 rfl Try.underlying22 li5 w.heap.size (.slice none 0 0) (.slice A n cap) [] bs bs rfl rfl rfl (Fresh.nil _ _) HB.out (Nat.le_refl _) (by simpa using hl) ?_; intro v2 w2 hf2 hu2 hr2)
    go_ret2
    exact ⟨_, rfl, hf2, hu2.mono fun i _ hi => by simp [room] at hi⟩
  · rw [if_neg he]
    have hne : (e != 0) = true := by simpa using he
    clear h he
    go_enter Try.func65, Try.ntmps65
    go_wp2_with fail
    go_quiet (fail)
    go_wp2_with fail
    go_ret2
    exact ⟨_, rfl, Fresh.nil _ _, (Upd.refl _ w).drewN _⟩
theorem wnum_any {base : Nat} (p : Nat) (v : Value) (bs : List UInt8) (e size n : Int) (w : World) (h : WObj base w p v bs e) (hb : base ≤ w.heap.size) (hl : bs.length ≤ 140737488355328) (hn1 : -9223372036854775808 ≤ n) (hn2 : n ≤ 9223372036854775807) :
    Calls Try.prog 33 #[.pointer (some ⟨p, 0, none⟩), .int .i64 size, .int .i64 n] w fun r w' => r = .returned (.tuple #[]) ∧ Grew base w p v w' (wrL bs e size n) (wrE e size n) := by
  rcases wr_parts e size n with he | ⟨rfl, h1⟩ | ⟨rfl, h1, h2, h3⟩ | ⟨rfl, h1, h2, h3⟩
  · exact wnum_err p v bs e size n w h he
  · exact wnum_size p v bs size n w h h1
  · exact wnum_big p v bs size n w h h1 h2 h3
  · exact wnum_ok p v bs size n w h hb hl h1 h2 h3 hn1 hn2
theorem rwnum_any {base : Nat} (p : Nat) (v : Value) (bs : List UInt8) (e size n : Int) (w : World) (h : WObj base w p v bs e) (hb : base ≤ w.heap.size) (hl : bs.length ≤ 140737488355328) (hn1 : -9223372036854775808 ≤ n) (hn2 : n ≤ 9223372036854775807) :
    Calls Try.prog 63 #[.pointer (some ⟨p, 0, none⟩), .int .i64 size, .int .i64 n] w fun r w' => r = .returned (.tuple #[]) ∧ Grew base w p v w' (wrL bs e size n) (wrE e size n) := by
  rcases wr_parts e size n with he | ⟨rfl, h1⟩ | ⟨rfl, h1, h2, h3⟩ | ⟨rfl, h1, h2, h3⟩
  · exact rwnum_err p v bs e size n w h he
  · exact rwnum_size p v bs size n w h h1
  · exact rwnum_big p v bs size n w h h1 h2 h3
  · exact rwnum_ok p v bs size n w h hb hl h1 h2 h3 hn1 hn2
end
section
open Go.RowKit
set_option linter.unusedVariables false
set_option linter.unusedSimpArgs false
theorem add_cut (bs ps : List UInt8) (size : Int) (h : addE size ps.length = 0) :
    bs.length < (addL bs size ps).length ∧ ((addL bs size ps).drop bs.length).length ≤ 140737488351232 ∧ cutE ((addL bs size ps).drop bs.length) size = 0 ∧ cutP ((addL bs size ps).drop bs.length) size = ps ∧ cutR ((addL bs size ps).drop bs.length) size = [] := by
  unfold addE at h
  cases ht : rightB size with
  | false => rw [ht] at h; simp at h
  | true =>
    rw [ht] at h
    cases ho : addOk size ps.length with
    | false => rw [ho] at h; simp at h
    | true =>
      have hf : ps.length ≤ 65536 ∧ fitsB ps.length size = true := by simpa [addOk] using ho
      have hs : size = 1 ∨ size = 2 ∨ size = 4 := by simpa [rightB] using ht
      have hL : addL bs size ps = bs ++ (numB ps.length size.toNat ++ ps) := by unfold addL; rw [ht, ho]; simp
      have hfl : (ps.length : Int) < 256 ^ size.toNat := by simpa [fitsB] using hf.2
      have hD : (addL bs size ps).drop bs.length = numB ps.length size.toNat ++ ps := by rw [hL, List.drop_left]
      have hV : cutV (numB ps.length size.toNat ++ ps) size = ps.length := by
        unfold cutV
        rw [List.take_append_of_le_length (by rw [numB_length]; exact Nat.le_refl _), List.take_of_length_le (by rw [numB_length]; exact Nat.le_refl _)]
        exact valB_numB _ _ (by omega) hfl
      have hX : cutE (numB ps.length size.toNat ++ ps) size = 0 := by
        unfold cutE
        rw [ht, if_pos rfl, hV, List.length_append, numB_length, if_neg (by omega), if_neg (by omega), if_neg (by omega)]
      rw [hD]
      refine ⟨by rw [hL, List.length_append, List.length_append, numB_length]; omega, by rw [List.length_append, numB_length]; omega, hX, ?_, ?_⟩
      · unfold cutP
        rw [if_pos hX, hV, List.drop_append_of_le_length (by rw [numB_length]; exact Nat.le_refl _), List.drop_of_length_le (by rw [numB_length]; exact Nat.le_refl _), List.nil_append, Int.toNat_natCast, List.take_of_length_le (Nat.le_refl _)]
      · unfold cutR
        rw [if_pos hX, hV]
        exact List.drop_of_length_le (by rw [List.length_append, numB_length]; omega)
theorem addL_le (bs ps : List UInt8) (size : Int) (hp : ps.length ≤ 140737488351232) : (addL bs size ps).length ≤ bs.length + 65540 := by
  unfold addL
  cases ht : rightB size with
  | false => simp
  | true =>
    cases ho : addOk size ps.length with
    | false => simp
    | true =>
      have hf : ps.length ≤ 65536 ∧ fitsB ps.length size = true := by simpa [addOk] using ho
      have hs : size = 1 ∨ size = 2 ∨ size = 4 := by simpa [rightB] using ht
      simp [numB_length]
      omega
theorem cutP_le (bs : List UInt8) (size : Int) : (cutP bs size).length ≤ bs.length := by unfold cutP; split <;> simp; omega
theorem cutR_le (bs : List UInt8) (size : Int) : (cutR bs size).length ≤ bs.length := by unfold cutR; split <;> simp
end
section
open Go.RowKit
set_option linter.unusedVariables false
set_option linter.unusedSimpArgs false

theorem Fresh.shape' {base : Nat} {w : World} {v : Value} {xs : List UInt8} (h : Fresh base w v xs) : ∃ A cap, v = .slice A xs.length cap := by
  obtain ⟨A, n, cap, e, h1, _⟩ := h
  exact ⟨A, cap, by rw [e]; congr 1; simpa using h1.symm⟩
/-- v[lo:] of a row of the call's own. -/
theorem Fresh.drop {base : Nat} {w : World} {A : Option Addr} {n cap : Nat} {xs : List UInt8} (h : Fresh base w (.slice A n cap) xs) (lo : Nat) (hlo : lo ≤ n) :
    Fresh base w (.slice (if cap = lo then A else A.map (·.add lo)) (n - lo) (cap - lo)) (xs.drop lo) ∧ ∀ k, room (.slice (if cap = lo then A else A.map (·.add lo)) (n - lo) (cap - lo)) = some k → room (.slice A n cap) = some k := by
  obtain ⟨A', n', cap', e, h1, h2, h3, h4⟩ := h
  injection e with e1 e2 e3
  subst e1 e2 e3
  have hn : xs.length = n := by simpa using h1
  by_cases hc : cap = lo
  · refine ⟨⟨_, _, _, rfl, by simp; omega, by omega, by omega, .inl (by omega)⟩, fun k hk => ?_⟩
    cases A <;> simp [room, hc] at hk
  · rcases h4 with h4 | ⟨b, off, rfl, hb, hcs, hr⟩
    · omega
    · rw [if_neg hc]
      simp only [Option.map_some, Addr.add_lit]
      refine ⟨⟨_, _, _, rfl, by simp; omega, by omega, by omega, .inr ⟨b, off + lo, rfl, hb, ?_, ?_⟩⟩, fun k hk => ?_⟩
      · intro j u hj
        rw [List.map_drop, List.getElem?_drop] at hj
        rw [Nat.add_assoc]
        exact hcs _ u hj
      · intro j hj
        rw [Nat.add_assoc]
        exact hr _ (by omega)
      · rw [room_some _ _ _ _ (by omega)] at hk ⊢
        exact hk
/-- Behind some doings of a reader: what it is now; its own block alone was written. -/
def Rd (base : Nat) (w : World) (p : Nat) (v : Value) (w' : World) (bs' : List UInt8) (e' : Int) : Prop :=
  ∃ v', WObj base w' p v' bs' e' ∧ Upd (fun k => k = p) w w' ∧ ∀ k, room v' = some k → room v = some k
theorem Rd.grew {base : Nat} {w w' : World} {p : Nat} {v : Value} {bs : List UInt8} {e : Int} (h : Rd base w p v w' bs e) : Grew base w p v w' bs e := by
  obtain ⟨v', h1, h2, h3⟩ := h
  exact ⟨v', h1, h2.mono fun _ _ e => .inl e, fun k hk => .inl (h3 k hk)⟩
theorem Rd.refl {base : Nat} {w : World} {p : Nat} {v : Value} {bs : List UInt8} {e : Int} (h : WObj base w p v bs e) : Rd base w p v w bs e := ⟨v, h, Upd.refl _ w, fun k hk => hk⟩
theorem WObj.err {base : Nat} {w : World} {p : Nat} {v : Value} {bs : List UInt8} {e : Int} (h : WObj base w p v bs e) (e' : Int) : WObj base (w.setCell ⟨p, 1, none⟩ (.int .i64 e')) p v bs e' :=
  ⟨h.1, h.2.1.set1 e', h.2.2.1.upd ((Upd.refl (fun k => k = p) w).setCell (p := ⟨p, 1, none⟩) (fun _ => rfl) _) (fun k hk e => h.2.2.2 (by rw [hk, e])), h.2.2.2⟩
theorem Rd.err {base : Nat} {w : World} {p : Nat} {v : Value} {bs : List UInt8} {e : Int} (h : WObj base w p v bs e) (e' : Int) : Rd base w p v (w.setCell ⟨p, 1, none⟩ (.int .i64 e')) bs e' :=
  ⟨v, h.err e', (Upd.refl (fun k => k = p) w).setCell (p := ⟨p, 1, none⟩) (fun _ => rfl) _, fun k hk => hk⟩
/-- The object's row is a part of what it was. -/
theorem Rd.later {base : Nat} {w : World} {p : Nat} {v v' : Value} {bs bs' : List UInt8} {e : Int} (h : WObj base w p v bs e) (hf : Fresh base w v' bs')
    (hr : ∀ k, room v' = some k → room v = some k) : Rd base w p v (w.setCell ⟨p, 0, none⟩ v') bs' e := by
  have hp := h.2.1.lt
  have hne : ¬ room v' = some p := fun e => h.2.2.2 (hr p e)
  exact ⟨v', ⟨h.1, h.2.1.set0 v', hf.upd ((Upd.refl (fun k => k = p) w).setCell (p := ⟨p, 0, none⟩) (fun _ => rfl) _) (fun k hk e => hne (by rw [hk, e])), hne⟩,
    (Upd.refl (fun k => k = p) w).setCell (p := ⟨p, 0, none⟩) (fun _ => rfl) _, hr⟩
theorem Rd.trans {base : Nat} {w w1 w2 : World} {p : Nat} {v v1 : Value} {bs2 : List UInt8} {e2 : Int} (hu : Upd (fun k => k = p) w w1) (hr : ∀ k, room v1 = some k → room v = some k) (h2 : Rd base w1 p v1 w2 bs2 e2) : Rd base w p v w2 bs2 e2 := by
  obtain ⟨v2, h3, h4, h5⟩ := h2
  exact ⟨v2, h3, hu.trans h4 (fun k _ e => e), fun k hk => hr k (h5 k hk)⟩

def rnE (e size : Int) (len : Nat) : Int := if e ≠ 0 then e else if size < 1 ∨ 8 < size then 1 else if (len : Int) < size then 10 else 0
def rnL (bs : List UInt8) (e size : Int) : List UInt8 := if rnE e size bs.length = 0 then bs.drop size.toNat else bs
def rnN (bs : List UInt8) (e size : Int) : Int := if rnE e size bs.length = 0 then wrap64 (valB (bs.take size.toNat)) else 0
theorem rok_any {base : Nat} (p : Nat) (v : Value) (bs : List UInt8) (e : Int) (w : World) (h : WObj base w p v bs e) :
    Calls Try.prog 75 #[.pointer (some ⟨p, 0, none⟩)] w fun r w' => r = .returned (.bool (e == 0)) ∧ w = w' := by
  obtain ⟨c0, c1, c2, c3⟩ := h.2.1
  clear h
  go_enter Try.func75, Try.ntmps75
  go_wp2_with fail
  go_ret
  exact ⟨rfl, rfl⟩
set_option maxHeartbeats 2000000 in
/-- A number. -/
theorem rnum_any {base : Nat} (p : Nat) (v : Value) (bs : List UInt8) (e size : Int) (w : World) (h : WObj base w p v bs e) (hl : bs.length ≤ 140737488355328) (h3 : -9223372036854775808 ≤ size) (h4 : size ≤ 9223372036854775807) :
    Calls Try.prog 57 #[.pointer (some ⟨p, 0, none⟩), .int .i64 size] w fun r w' => r = .returned (.int .i64 (rnN bs e size)) ∧ Rd base w p v w' (rnL bs e size) (rnE e size bs.length) := by
  have hok := rok_any p v bs e w h
  obtain ⟨c0, c1, c2, c3⟩ := h.2.1
  by_cases he : e = 0
  · subst he
    rw [show ((0 : Int) == 0) = true from rfl] at hok
    have HK := Lib.hid hok
    by_cases hs : size < 1 ∨ 8 < size
    · have hE : rnE 0 size bs.length = 1 := by unfold rnE; rw [if_neg (by simp), if_pos hs]
      have hN : rnN bs 0 size = 0 := by unfold rnN; rw [hE, if_neg (by decide)]
      have hL : rnL bs 0 size = bs := by unfold rnL; rw [hE, if_neg (by decide)]
      rw [hE, hN, hL]
      have HG := Lib.hid (Rd.err h 1)
      clear hE hN hL h hok
      rcases hs with hs | hs
      all_goals
        go_enter Try.func57, Try.ntmps57
        go_wp2_with fail
        refine HK.out.mono ?_
        rintro r w' ⟨rfl, rfl⟩
        go_wp2_with fail
        go_ret
        exact ⟨rfl, HG.out⟩
    · have hg := get_bs v bs 0 size w h.2.2.1.bs (by decide) (by decide) h3 h4
      have hs1 : ¬ size < 1 := by omega
      have hs2 : ¬ 8 < size := by omega
      obtain ⟨A, cap, rfl⟩ := Fresh.shape' h.2.2.1
      by_cases hlen : (bs.length : Int) < size
      · have ht : thereB bs.length 0 size = false := by simp [thereB]; omega
        have hE : rnE 0 size bs.length = 10 := by unfold rnE; rw [if_neg (by simp), if_neg hs, if_pos hlen]
        have hN : rnN bs 0 size = 0 := by unfold rnN; rw [hE, if_neg (by decide)]
        have hL : rnL bs 0 size = bs := by unfold rnL; rw [hE, if_neg (by decide)]
        have hgE : getE bs.length 0 size = 1 := by unfold getE; rw [ht]; rfl
        rw [hE, hN, hL]
        rw [hgE] at hg
        generalize getN bs 0 size = GN at hg
        have HG := Lib.hid (Rd.err h 10)
        have HQ := Lib.hid hg
        clear hE hN hL h hok hg ht hgE hs
        go_enter Try.func57, Try.ntmps57
        go_wp2_with fail
        refine HK.out.mono ?_
        rintro r w' ⟨rfl, rfl⟩
        go_wp2_with fail
        refine HQ.out.mono ?_
        rintro r w' ⟨rfl, rfl⟩
        go_wp2_with fail
        go_ret
        exact ⟨rfl, HG.out⟩
      · have ht : thereB bs.length 0 size = true := by simp [thereB]; omega
        have hE : rnE 0 size bs.length = 0 := by unfold rnE; rw [if_neg (by simp), if_neg hs, if_neg hlen]
        have hN : rnN bs 0 size = wrap64 (valB (bs.take size.toNat)) := by unfold rnN; rw [hE, if_pos rfl]
        have hL : rnL bs 0 size = bs.drop size.toNat := by unfold rnL; rw [hE, if_pos rfl]
        have hgE : getE bs.length 0 size = 0 := by unfold getE; rw [ht]; rfl
        have hgN : getN bs 0 size = valB (bs.take size.toNat) := by unfold getN; rw [ht]; rfl
        rw [hE, hN, hL]
        rw [hgE, hgN] at hg
        obtain ⟨m, rfl⟩ : ∃ m : Nat, size = (m : Int) := ⟨size.toNat, by omega⟩
        rw [Int.toNat_natCast] at hg ⊢
        have hV := valB_range (bs.take m)
        have hV2 : valB (bs.take m) ≤ 18446744073709551615 := by
          have h5 : (bs.take m).length ≤ 8 := by simp; omega
          have h6 : 256 ^ (bs.take m).length ≤ 256 ^ 8 := Nat.pow_le_pow_right (by decide) h5
          have h7 : ((256 ^ (bs.take m).length : Nat) : Int) = (256 : Int) ^ (bs.take m).length := by rw [Int.natCast_pow]; rfl
          have h8 := hV.2
          omega
        have hV1 := hV.1
        generalize valB (bs.take m) = V at hg hV1 hV2
        obtain ⟨hf, hr⟩ := h.2.2.1.drop m (by omega)
        have hG := Rd.later h hf hr
        have hlm : m ≤ bs.length := by omega
        have HQ := Lib.hid hg
        have hu64 : IntKind.i64.wrap V = wrap64 V := by unfold wrap64; exact IntKind.wrap_i64 V
        clear hE hN hL hok hg ht hgE hgN hs hV hf hr
        have hm1 : 1 ≤ m ∧ m ≤ 8 := by omega
        have hlc := (Lentd.cap h.2.2.1).1
        obtain ⟨b, off, rfl⟩ := Fresh.addr h.2.2.1 (by omega)
        have hlm2 : ¬ bs.length < m := by omega
        by_cases hcm : cap = m
        · simp only [if_pos hcm] at hG
          rw [show bs.length - m = 0 by omega, show cap - m = 0 by omega] at hG
          have HG := Lib.hid hG
          clear hG h
          subst hcm
          go_enter Try.func57, Try.ntmps57
          go_wp2_with fail
          refine HK.out.mono ?_
          rintro r w' ⟨rfl, rfl⟩
          go_wp2_with fail
          refine HQ.out.mono ?_
          rintro r w' ⟨rfl, rfl⟩
          go_wp2_with fail
          go_ret
          exact ⟨rfl, HG.out⟩
        · simp only [if_neg hcm] at hG
          simp only [Option.map_some, Addr.add_lit] at hG
          have HG := Lib.hid hG
          clear hG h
          go_enter Try.func57, Try.ntmps57
          go_wp2_with fail
          refine HK.out.mono ?_
          rintro r w' ⟨rfl, rfl⟩
          go_wp2_with fail
          refine HQ.out.mono ?_
          rintro r w' ⟨rfl, rfl⟩
          go_wp2_with fail
          go_ret
          exact ⟨rfl, HG.out⟩
  · have hE : rnE e size bs.length = e := by unfold rnE; rw [if_pos he]
    have hN : rnN bs e size = 0 := by unfold rnN; rw [hE, if_neg he]
    have hL : rnL bs e size = bs := by unfold rnL; rw [hE, if_neg he]
    rw [hE, hN, hL]
    rw [show (e == 0) = false by simpa using he] at hok
    have HK := Lib.hid hok
    have HG := Lib.hid (Rd.refl h)
    clear hE hN hL h hok
    go_enter Try.func57, Try.ntmps57
    go_wp2_with fail
    refine HK.out.mono ?_
    rintro r w' ⟨rfl, rfl⟩
    go_wp2_with fail
    go_ret
    exact ⟨rfl, HG.out⟩
end
section
open Go.RowKit
set_option linter.unusedVariables false
set_option linter.unusedSimpArgs false

/-- A new reader. -/
theorem newReader_any (v : Value) (bs : List UInt8) (w : World) (h : Bs w v bs) (hl : bs.length ≤ 200000000000000) :
    Calls Try.prog 56 #[v] w fun r w' => ∃ p v', r = .returned (.pointer (some ⟨p, 0, none⟩)) ∧ WObj w.heap.size w' p v' bs 0 ∧ Same w w' := by
  have hc := clone_bs v bs w h hl
  have HC := Lib.hid hc
  clear hc h
  go_enter Try.func56, Try.ntmps56
  go_wp2_with fail
  refine HC.out.mono ?_
  rintro r w1 ⟨v1, rfl, hf1, hs1⟩
  obtain ⟨A, cap, rfl⟩ := Fresh.shape' hf1
  have HF := Lib.hid hf1
  have HS := Lib.hid hs1
  clear hf1 hs1
  go_wp2_with fail
  go_ret
  refine ⟨_, _, rfl, ⟨HS.out.size, Cell2.new _ _ _ _ _ rfl, HF.out.same ((Upd.refl _ _).alloc _), fun e => ?_⟩, HS.out.alloc _⟩
  have := (HF.out.ge _ e).2
  omega
def rbE (bs : List UInt8) (e size : Int) : Int := if e ≠ 0 then e else cutE bs size
def rbL (bs : List UInt8) (e size : Int) : List UInt8 := if e ≠ 0 then bs else if cutE bs size = 0 then bs.drop (cutN bs size).toNat else bs
def rbP (bs : List UInt8) (e size : Int) : List UInt8 := if e ≠ 0 then [] else cutP bs size
theorem cutN_le (bs : List UInt8) (size : Int) (h : cutE bs size = 0) : 1 ≤ cutN bs size ∧ cutN bs size ≤ bs.length := by
  have hv0 := cutV_nonneg bs size
  have hN : cutN bs size = size + cutV bs size := by unfold cutN; rw [if_pos h]
  rcases cut_cases bs size with ⟨c1, c2⟩ | ⟨c1, c3, c2⟩ | ⟨c1, c3, c4, c2⟩ | ⟨c1, c3, c4, c5, c2⟩ | ⟨c1, c3, c4, c5, c2⟩
  · omega
  · omega
  · omega
  · omega
  · have hs : size = 1 ∨ size = 2 ∨ size = 4 := by simpa [rightB] using c1
    omega
set_option maxHeartbeats 2000000 in
/-- Bytes. -/
theorem rbytes_any {base : Nat} (p : Nat) (v : Value) (bs : List UInt8) (e size : Int) (w : World) (h : WObj base w p v bs e) (hb : base ≤ w.heap.size) (hl : bs.length ≤ 140737488351232) (h3 : -9223372036854775808 ≤ size) (h4 : size ≤ 9223372036854775807) :
    Calls Try.prog 58 #[.pointer (some ⟨p, 0, none⟩), .int .i64 size] w fun r w' => ∃ u, r = .returned u ∧ Fresh w.heap.size w' u (rbP bs e size) ∧ Rd base w p v w' (rbL bs e size) (rbE bs e size) := by
  have hok := rok_any p v bs e w h
  by_cases he : e = 0
  · subst he
    rw [show rbP bs 0 size = cutP bs size by simp [rbP], show rbE bs 0 size = cutE bs size by simp [rbE], show rbL bs 0 size = if cutE bs size = 0 then bs.drop (cutN bs size).toNat else bs by simp [rbL]]
    rw [show ((0 : Int) == 0) = true from rfl] at hok
    have hc := cut_bs v bs size w h.2.2.1.bs hl h3 h4
    obtain ⟨c0, c1, c2, c3⟩ := h.2.1
    obtain ⟨A, cap, rfl⟩ := Fresh.shape' h.2.2.1
    have HK := Lib.hid hok
    have HO := Lib.hid h
    by_cases hE : cutE bs size = 0
    · obtain ⟨hN1, hN2⟩ := cutN_le bs size hE
      rw [if_pos hE, hE]
      rw [hE] at hc
      obtain ⟨m, hm⟩ : ∃ m : Nat, (m : Int) = cutN bs size := ⟨(cutN bs size).toNat, by omega⟩
      rw [← hm] at hc hN1 hN2
      rw [← hm, Int.toNat_natCast]
      have hlm : m ≤ bs.length := by omega
      have hlm2 : ¬ bs.length < m := by omega
      have hlc := (Lentd.cap h.2.2.1).1
      obtain ⟨b, off, rfl⟩ := Fresh.addr h.2.2.1 (by omega)
      generalize cutP bs size = CP at hc
      have HC := Lib.hid hc
      clear hc hm hok hE h
      by_cases hcm : cap = m
      all_goals
        try subst hcm
        go_enter Try.func58, Try.ntmps58
        go_wp2_with fail
        refine HK.out.mono ?_
        rintro r w' ⟨rfl, rfl⟩
        go_wp2_with fail
        refine HC.out.mono ?_
        rintro r w1 ⟨u1, rfl, hf1, hs1⟩
        have ho := HO.out.upd hs1 fun _ _ h => h
        have d0 := ho.2.1.1
        have d1 := ho.2.1.2.1
        have d2 := ho.2.1.2.2.1
        have d3 := ho.2.1.2.2.2
        have k2 := ho.2.1.set1 0
        have e0 := k2.1
        have e2 := k2.2.2.1
        have ho2 := WObj.err ho 0
        have hdr := ho2.2.2.1.drop _ hlm
        first | (rw [if_neg hcm] at hdr; simp only [Option.map_some, Addr.add_lit] at hdr) | simp only [if_true, Nat.sub_self] at hdr
        try rw [show bs.length - cap = 0 by omega] at hdr
        have hG := Rd.later ho2 hdr.1 hdr.2
        have hGG := Rd.trans (v1 := .slice (some ⟨b, off, none⟩) bs.length cap) (Upd.trans (S := fun k => k = p) (hs1.mono fun _ _ h => h.elim) ((Upd.refl (fun k => k = p) w1).setCell (p := ⟨p, 1, none⟩) (fun _ => rfl) (.int .i64 0)) fun _ _ h => h) (fun k hk => hk) hG
        have HU := Lib.hid hf1
        have HGG := Lib.hid hGG
        have HZ := Lib.hid hs1.size
        clear hf1 hs1 ho ho2 hdr hG hGG k2
        go_wp2_with fail
        go_ret
        exact ⟨_, rfl, (HU.out.upd (S := fun k => k = p) (((Upd.refl (fun k => k = p) w1).setCell (p := ⟨p, 1, none⟩) (fun _ => rfl) _).setCell (p := ⟨p, 0, none⟩) (fun _ => rfl) _) fun k hk e => by have := (HU.out.ge k hk).1; have := HO.out.2.1.lt; omega), HGG.out⟩
    · rw [if_neg hE]
      have hP : cutP bs size = [] := by unfold cutP; rw [if_neg hE]
      rw [hP] at hc ⊢
      generalize cutN bs size = CN at hc
      generalize cutE bs size = CE at hc hE
      have hne : (CE != 0) = true := by simpa using hE
      have HC := Lib.hid hc
      clear hc hok hE h hP
      go_enter Try.func58, Try.ntmps58
      go_wp2_with fail
      refine HK.out.mono ?_
      rintro r w' ⟨rfl, rfl⟩
      go_wp2_with fail
      refine HC.out.mono ?_
      rintro r w1 ⟨u1, rfl, hf1, hs1⟩
      have ho := HO.out.upd hs1 fun _ _ h => h
      have d1 := ho.2.1.2.1
      have d3 := ho.2.1.2.2.2
      have hG := Rd.trans (w := w) (hs1.mono fun _ _ h => h.elim) (fun k hk => hk) (Rd.err ho CE)
      have HG := Lib.hid hG
      clear hf1 hs1 ho hG
      go_wp2_with fail
      go_ret
      exact ⟨_, rfl, Fresh.nil _ _, HG.out⟩
  · rw [show rbP bs e size = [] by simp [rbP, he], show rbE bs e size = e by simp [rbE, he], show rbL bs e size = bs by simp [rbL, he]]
    obtain ⟨c0, c1, c2, c3⟩ := h.2.1
    rw [show (e == 0) = false by simpa using he] at hok
    have HK := Lib.hid hok
    have HG := Lib.hid (Rd.refl h)
    clear h hok
    go_enter Try.func58, Try.ntmps58
    go_wp2_with fail
    refine HK.out.mono ?_
    rintro r w' ⟨rfl, rfl⟩
    go_wp2_with fail
    go_ret
    exact ⟨_, rfl, Fresh.nil _ _, HG.out⟩
/-- The end. -/
def reE (e : Int) (n : Nat) : Int := if e = 0 ∧ 0 < n then 11 else e
theorem rend_any {base : Nat} (p : Nat) (v : Value) (bs : List UInt8) (e : Int) (w : World) (h : WObj base w p v bs e) :
    Calls Try.prog 59 #[.pointer (some ⟨p, 0, none⟩)] w fun r w' => r = .returned (.int .i64 (reE e bs.length)) ∧ w = w' := by
  obtain ⟨c0, c1, c2, c3⟩ := h.2.1
  obtain ⟨A, cap, rfl⟩ := Fresh.shape' h.2.2.1
  have hlc := (Lentd.cap h.2.2.1).1
  unfold reE
  by_cases he : e = 0
  · subst he
    by_cases hn : 0 < bs.length
    · rw [if_pos ⟨rfl, hn⟩]
      have g1 : (0 : Int) < (bs.length : Int) := by omega
      clear h
      go_enter Try.func59, Try.ntmps59
      go_wp2_with fail
      go_ret
      exact ⟨rfl, rfl⟩
    · rw [if_neg (by omega)]
      have g1 : bs.length = 0 := by omega
      rw [g1] at c0
      clear h
      go_enter Try.func59, Try.ntmps59
      go_wp2_with fail
      go_ret
      exact ⟨rfl, rfl⟩
  · rw [if_neg (by omega)]
    have hne : (e == 0) = false := by simpa using he
    clear h he
    go_enter Try.func59, Try.ntmps59
    go_wp2_with fail
    go_ret
    exact ⟨rfl, rfl⟩
def rcE (bs : List UInt8) (e size most : Int) : Int :=
  if rnE e size bs.length ≠ 0 then rnE e size bs.length else if rnN bs e size < 0 ∨ most < rnN bs e size then 3 else if ((rnL bs e size).length : Int) < rnN bs e size then 10 else 0
def rcL (bs : List UInt8) (e size most : Int) : List UInt8 := if rcE bs e size most = 0 then rnL bs e size else bs
def rcN (bs : List UInt8) (e size most : Int) : Int := if rcE bs e size most = 0 then rnN bs e size else 0
/-- The row is set back. -/
theorem Rd.back {base : Nat} {w w1 : World} {p : Nat} {v v1 : Value} {bs bs1 : List UInt8} {e e1 : Int} (h : WObj base w p v bs e) (h1 : WObj base w1 p v1 bs1 e1) (hu : Upd (fun k => k = p) w w1) : Rd base w p v (w1.setCell ⟨p, 0, none⟩ v) bs e1 := by
  have hne := h.2.2.2
  exact ⟨v, ⟨h.1, h1.2.1.set0 v, (h.2.2.1.upd hu fun k hk e => hne (by rw [hk, e])).upd ((Upd.refl (fun k => k = p) w1).setCell (p := ⟨p, 0, none⟩) (fun _ => rfl) _) (fun k hk e => hne (by rw [hk, e])), hne⟩,
    Upd.trans (S := fun k => k = p) hu ((Upd.refl (fun k => k = p) w1).setCell (p := ⟨p, 0, none⟩) (fun _ => rfl) _) fun _ _ h => h, fun k hk => hk⟩
end
section
open Go.RowKit
set_option linter.unusedVariables false
set_option linter.unusedSimpArgs false

/-- Of. -/
theorem of_any (v : Value) (bs : List UInt8) (w : World) (h : Bs w v bs) (hl : bs.length ≤ 200000000000000) :
    Calls Try.prog 48 #[v] w fun r w' => ∃ p v', r = .returned (.pointer (some ⟨p, 0, none⟩)) ∧ WObj w.heap.size w' p v' bs 0 ∧ Same w w' := by
  have ho : WObj w.heap.size (w.alloc (.cells #[.slice none 0 0, .int .i64 0] 118)) w.heap.size (.slice none 0 0) [] 0 := ⟨Nat.le_refl _, Cell2.new w _ _ _ _ rfl, Fresh.nil _ _, by simp [room]⟩
  obtain ⟨d0, d1, d2, d3⟩ := ho.2.1
  have hs : Same w (w.alloc (.cells #[.slice none 0 0, .int .i64 0] 118)) := (Upd.refl _ w).alloc _
  have HO := Lib.hid ho
  have HB := Lib.hid (h.same hs)
  have HS := Lib.hid hs
  clear ho h hs
  go_enter Try.func48, Try.ntmps48
  go_wp2_with (at_builtin; refine wpl_append_bytes rfl (.tmp 10) (.tmp 11) 22 rfl Try.underlying22 li5 w.heap.size (.slice none 0 0) v [] bs bs rfl rfl rfl (Fresh.nil _ _) HB.out (by simp) (by simpa using hl) ?_; intro z1 w1 hf1 hu1 hr1; obtain ⟨zA, zc, rfl⟩ := Fresh.shape' hf1; obtain ⟨k0, k1, k2, k3⟩ := HO.out.2.1.upd hu1 HO.out.2.2.2; have HF := Lib.hid hf1; have HU1 := Lib.hid hu1; have HR1 := Lib.hid hr1; clear hf1 hu1 hr1)
  go_ret
  have hg := Grew.row HO.out (by simp) HU1.out HF.out HR1.out
  obtain ⟨v', g1, g2, g3⟩ := hg
  refine ⟨_, v', rfl, g1, Same.into HS.out g2 ?_⟩
  rintro k (rfl | e)
  · exact Nat.le_refl _
  · simp [room] at e
set_option maxHeartbeats 2000000 in
/-- A number. -/
theorem rrnum_any {base : Nat} (p : Nat) (v : Value) (bs : List UInt8) (e size : Int) (w : World) (h : WObj base w p v bs e) (hl : bs.length ≤ 140737488355328) (h3 : -9223372036854775808 ≤ size) (h4 : size ≤ 9223372036854775807) :
    Calls Try.prog 49 #[.pointer (some ⟨p, 0, none⟩), .int .i64 size] w fun r w' => r = .returned (.int .i64 (rnN bs e size)) ∧ Rd base w p v w' (rnL bs e size) (rnE e size bs.length) := by
  obtain ⟨c0, c1, c2, c3⟩ := h.2.1
  by_cases he : e = 0
  · subst he
    by_cases hs : size < 1 ∨ 8 < size
    · have hE : rnE 0 size bs.length = 1 := by unfold rnE; rw [if_neg (by simp), if_pos hs]
      have hN : rnN bs 0 size = 0 := by unfold rnN; rw [hE, if_neg (by decide)]
      have hL : rnL bs 0 size = bs := by unfold rnL; rw [hE, if_neg (by decide)]
      rw [hE, hN, hL]
      have HG := Lib.hid (Rd.err h 1)
      clear hE hN hL h
      rcases hs with hs | hs
      all_goals
        go_enter Try.func49, Try.ntmps49
        go_wp2_with fail
        go_ret
        exact ⟨rfl, HG.out⟩
    · have hg := rget_bs v bs 0 size w h.2.2.1.bs (by decide) (by decide) h3 h4
      have hs1 : ¬ size < 1 := by omega
      have hs2 : ¬ 8 < size := by omega
      obtain ⟨A, cap, rfl⟩ := Fresh.shape' h.2.2.1
      by_cases hlen : (bs.length : Int) < size
      · have hE : rnE 0 size bs.length = 10 := by unfold rnE; rw [if_neg (by simp), if_neg hs, if_pos hlen]
        have hN : rnN bs 0 size = 0 := by unfold rnN; rw [hE, if_neg (by decide)]
        have hL : rnL bs 0 size = bs := by unfold rnL; rw [hE, if_neg (by decide)]
        rw [hE, hN, hL]
        have HG := Lib.hid (Rd.err h 10)
        clear hE hN hL h hg hs
        go_enter Try.func49, Try.ntmps49
        go_wp2_with fail
        go_ret
        exact ⟨rfl, HG.out⟩
      · have ht : thereB bs.length 0 size = true := by simp [thereB]; omega
        have hE : rnE 0 size bs.length = 0 := by unfold rnE; rw [if_neg (by simp), if_neg hs, if_neg hlen]
        have hN : rnN bs 0 size = wrap64 (valB (bs.take size.toNat)) := by unfold rnN; rw [hE, if_pos rfl]
        have hL : rnL bs 0 size = bs.drop size.toNat := by unfold rnL; rw [hE, if_pos rfl]
        have hgE : getE bs.length 0 size = 0 := by unfold getE; rw [ht]; rfl
        have hgN : getN bs 0 size = valB (bs.take size.toNat) := by unfold getN; rw [ht]; rfl
        rw [hE, hN, hL]
        rw [hgE, hgN] at hg
        obtain ⟨m, rfl⟩ : ∃ m : Nat, size = (m : Int) := ⟨size.toNat, by omega⟩
        rw [Int.toNat_natCast] at hg ⊢
        have hV := valB_range (bs.take m)
        have hV2 : valB (bs.take m) ≤ 18446744073709551615 := by
          have h5 : (bs.take m).length ≤ 8 := by simp; omega
          have h6 : 256 ^ (bs.take m).length ≤ 256 ^ 8 := Nat.pow_le_pow_right (by decide) h5
          have h7 : ((256 ^ (bs.take m).length : Nat) : Int) = (256 : Int) ^ (bs.take m).length := by rw [Int.natCast_pow]; rfl
          have h8 := hV.2
          omega
        have hV1 := hV.1
        generalize valB (bs.take m) = V at hg hV1 hV2
        obtain ⟨hf, hr⟩ := h.2.2.1.drop m (by omega)
        have hG := Rd.later h hf hr
        have hlm : m ≤ bs.length := by omega
        have HQ := Lib.hid hg
        have hu64 : IntKind.i64.wrap V = wrap64 V := by unfold wrap64; exact IntKind.wrap_i64 V
        clear hE hN hL hg ht hgE hgN hs hV hf hr
        have hm1 : 1 ≤ m ∧ m ≤ 8 := by omega
        have hlc := (Lentd.cap h.2.2.1).1
        obtain ⟨b, off, rfl⟩ := Fresh.addr h.2.2.1 (by omega)
        have hlm2 : ¬ bs.length < m := by omega
        by_cases hcm : cap = m
        · simp only [if_pos hcm] at hG
          rw [show bs.length - m = 0 by omega, show cap - m = 0 by omega] at hG
          have HG := Lib.hid hG
          clear hG h
          subst hcm
          go_enter Try.func49, Try.ntmps49
          go_wp2_with fail
          refine HQ.out.mono ?_
          rintro r w' ⟨rfl, rfl⟩
          go_wp2_with fail
          go_ret
          exact ⟨rfl, HG.out⟩
        · simp only [if_neg hcm] at hG
          simp only [Option.map_some, Addr.add_lit] at hG
          have HG := Lib.hid hG
          clear hG h
          go_enter Try.func49, Try.ntmps49
          go_wp2_with fail
          refine HQ.out.mono ?_
          rintro r w' ⟨rfl, rfl⟩
          go_wp2_with fail
          go_ret
          exact ⟨rfl, HG.out⟩
  · have hE : rnE e size bs.length = e := by unfold rnE; rw [if_pos he]
    have hN : rnN bs e size = 0 := by unfold rnN; rw [hE, if_neg he]
    have hL : rnL bs e size = bs := by unfold rnL; rw [hE, if_neg he]
    rw [hE, hN, hL]
    have hne : (e != 0) = true := by simpa using he
    have HG := Lib.hid (Rd.refl h)
    clear hE hN hL h
    go_enter Try.func49, Try.ntmps49
    go_wp2_with fail
    go_ret
    exact ⟨rfl, HG.out⟩
/-- Bytes. -/
theorem rrbytes_any {base : Nat} (p : Nat) (v : Value) (bs : List UInt8) (e size : Int) (w : World) (h : WObj base w p v bs e) (hb : base ≤ w.heap.size) (hl : bs.length ≤ 140737488351232) (h3 : -9223372036854775808 ≤ size) (h4 : size ≤ 9223372036854775807) :
    Calls Try.prog 50 #[.pointer (some ⟨p, 0, none⟩), .int .i64 size] w fun r w' => ∃ u, r = .returned u ∧ Fresh w.heap.size w' u (rbP bs e size) ∧ Grew base w p v w' (rbL bs e size) (rbE bs e size) := by
  obtain ⟨c0, c1, c2, c3⟩ := h.2.1
  by_cases he : e = 0
  · subst he
    rw [show rbP bs 0 size = cutP bs size by simp [rbP], show rbE bs 0 size = cutE bs size by simp [rbE], show rbL bs 0 size = if cutE bs size = 0 then bs.drop (cutN bs size).toNat else bs by simp [rbL]]
    have hc := rCut_bs v bs size w h.2.2.1.bs hl h3 h4
    obtain ⟨A, cap, rfl⟩ := Fresh.shape' h.2.2.1
    have HO := Lib.hid h
    by_cases hE : cutE bs size = 0
    · have hR : cutR bs size = bs.drop (cutN bs size).toNat := by unfold cutR cutN; rw [if_pos hE, if_pos hE]
      rw [if_pos hE, hE, ← hR]
      rw [hE] at hc
      generalize cutP bs size = CP at hc
      generalize cutR bs size = CR at hc
      have HC := Lib.hid hc
      clear hc hE h hR
      go_enter Try.func50, Try.ntmps50
      go_wp2_with fail
      refine HC.out.mono ?_
      rintro r w1 ⟨u1, u2, rfl, hf1, hf2, hs1⟩
      obtain ⟨d0, d1, d2, d3⟩ := (HO.out.upd hs1 fun _ _ h => h).2.1
      obtain ⟨A2, cap2, rfl⟩ := Fresh.shape' hf2
      have hG := Grew.row HO.out hb (hs1.mono fun _ _ h => h.elim) (hf2.mono hb) (fun k hk => .inr (hf2.ge k hk).1)
      have HU := Lib.hid hf1
      have HG := Lib.hid hG
      clear hf1 hf2 hs1 hG
      go_wp2_with fail
      go_ret
      exact ⟨_, rfl, HU.out.upd ((Upd.refl (fun k => k = p) w1).setCell (p := ⟨p, 0, none⟩) (fun _ => rfl) _) (fun k hk e => by have := (HU.out.ge k hk).1; have := HO.out.2.1.lt; omega), HG.out⟩
    · rw [if_neg hE]
      have hP : cutP bs size = [] := by unfold cutP; rw [if_neg hE]
      rw [hP] at hc ⊢
      generalize cutR bs size = CR at hc
      generalize cutE bs size = CE at hc hE
      have hne : (CE != 0) = true := by simpa using hE
      have HC := Lib.hid hc
      clear hc hE h hP
      go_enter Try.func50, Try.ntmps50
      go_wp2_with fail
      refine HC.out.mono ?_
      rintro r w1 ⟨u1, u2, rfl, hf1, hf2, hs1⟩
      have ho := HO.out.upd hs1 fun _ _ h => h
      have d1 := ho.2.1.2.1
      have d3 := ho.2.1.2.2.2
      have hG := Grew.trans (w := w) (hs1.mono fun _ _ h => h.elim) (fun k hk => .inl hk) (Grew.err ho CE)
      have HG := Lib.hid hG
      clear hf1 hf2 hs1 ho hG
      go_wp2_with fail
      go_ret
      exact ⟨_, rfl, Fresh.nil _ _, HG.out⟩
  · rw [show rbP bs e size = [] by simp [rbP, he], show rbE bs e size = e by simp [rbE, he], show rbL bs e size = bs by simp [rbL, he]]
    have hne : (e != 0) = true := by simpa using he
    have HG := Lib.hid (Grew.refl h)
    clear h
    go_enter Try.func50, Try.ntmps50
    go_wp2_with fail
    go_ret
    exact ⟨_, rfl, Fresh.nil _ _, HG.out⟩
/-- The end. -/
theorem rrend_any {base : Nat} (p : Nat) (v : Value) (bs : List UInt8) (e : Int) (w : World) (h : WObj base w p v bs e) :
    Calls Try.prog 51 #[.pointer (some ⟨p, 0, none⟩)] w fun r w' => r = .returned (.int .i64 (reE e bs.length)) ∧ w = w' := by
  obtain ⟨c0, c1, c2, c3⟩ := h.2.1
  obtain ⟨A, cap, rfl⟩ := Fresh.shape' h.2.2.1
  have hlc := (Lentd.cap h.2.2.1).1
  unfold reE
  by_cases he : e = 0
  · subst he
    by_cases hn : 0 < bs.length
    · rw [if_pos ⟨rfl, hn⟩]
      have g1 : (0 : Int) < (bs.length : Int) := by omega
      clear h
      go_enter Try.func51, Try.ntmps51
      go_wp2_with fail
      go_ret
      exact ⟨rfl, rfl⟩
    · rw [if_neg (by omega)]
      have g1 : bs.length = 0 := by omega
      rw [g1] at c0
      clear h
      go_enter Try.func51, Try.ntmps51
      go_wp2_with fail
      go_ret
      exact ⟨rfl, rfl⟩
  · rw [if_neg (by omega)]
    have hne : (e == 0) = false := by simpa using he
    clear h he
    go_enter Try.func51, Try.ntmps51
    go_wp2_with fail
    go_ret
    exact ⟨rfl, rfl⟩
end
section
open Go.RowKit
set_option linter.unusedVariables false
set_option linter.unusedSimpArgs false
set_option maxRecDepth 20000
theorem u32_shr (C : BitVec 32) (j : Nat) : u32v (C >>> j) = u32v C / 2 ^ j := by
  unfold u32v
  rw [BitVec.toNat_ushiftRight, Nat.shiftRight_eq_div_pow]
  simp
theorem at8_word (bs : List UInt8) (k : Nat) : at8 bs k = u32v ((bs.getD k 0).toBitVec.setWidth 32) := by
  unfold at8 u32v
  rw [BitVec.toNat_setWidth]
  have := (bs.getD k 0).toNat_lt
  show _ = (((bs.getD k 0).toNat % 2 ^ 32 : Nat) : Int)
  omega
theorem u32_bit0 (x : BitVec 32) : bits .and .u32 (u32v x) 1 = if x.getLsbD 0 then 1 else 0 := by
  rw [show (1 : Int) = u32v 1#32 by decide, u32_and]
  have e : x &&& 1#32 = if x.getLsbD 0 then 1#32 else 0#32 := by
    apply BitVec.eq_of_getLsbD_eq
    intro i hi
    rw [BitVec.getLsbD_and]
    cases i with
    | zero => cases x.getLsbD 0 <;> simp
    | succ i => cases x.getLsbD 0 <;> simp
  rw [e]
  cases x.getLsbD 0 <;> decide
theorem shift_next (R C : BitVec 32) (j : Nat) : (R ^^^ C >>> j) >>> 1 = R >>> 1 ^^^ C >>> (j + 1) := by
  rw [BitVec.ushiftRight_xor_distrib, BitVec.shiftRight_add]
theorem rbit_yes {R C x : BitVec 32} {j : Nat} {c : Int} (hc : c = u32v (C >>> j)) (h : (bits .and .u32 (bits .xor .u32 (u32v R) c) 1 == 1) = true) (hR : crcN j x = R ^^^ C >>> j) :
    ∃ R', Value.int .u32 (bits .xor .u32 (u32v R / 2) 2197175160) = .int .u32 (u32v R') ∧ crcN (j + 1) x = R' ^^^ C >>> (j + 1) := by
  subst hc
  rw [u32_xor, u32_bit0] at h
  have hb : (R ^^^ C >>> j).getLsbD 0 = true := by
    cases hb : (R ^^^ C >>> j).getLsbD 0
    · rw [hb] at h; simp at h
    · rfl
  refine ⟨R >>> 1 ^^^ 0x82f63b78#32, ?_, ?_⟩
  · rw [u32_half, show (2197175160 : Int) = u32v 0x82f63b78#32 by decide, u32_xor]
  · rw [crcN_succ, hR]
    unfold crcL
    rw [hb, shift_next]
    simp only [if_true]
    rw [BitVec.xor_assoc, BitVec.xor_assoc, BitVec.xor_comm (C >>> (j + 1))]
theorem rbit_no {R C x : BitVec 32} {j : Nat} {c : Int} (hc : c = u32v (C >>> j)) (h : (bits .and .u32 (bits .xor .u32 (u32v R) c) 1 == 1) = false) (hR : crcN j x = R ^^^ C >>> j) :
    ∃ R', Value.int .u32 (u32v R / 2) = .int .u32 (u32v R') ∧ crcN (j + 1) x = R' ^^^ C >>> (j + 1) := by
  subst hc
  rw [u32_xor, u32_bit0] at h
  have hb : (R ^^^ C >>> j).getLsbD 0 = false := by
    cases hb : (R ^^^ C >>> j).getLsbD 0
    · rfl
    · rw [hb] at h; simp at h
  refine ⟨R >>> 1, ?_, ?_⟩
  · rw [u32_half]
  · rw [crcN_succ, hR]
    unfold crcL
    rw [hb, shift_next]
    simp
theorem rstep_any (r : BitVec 32) (bs : List UInt8) (k : Nat) (w : World) :
    Calls Try.prog 79 #[.int .u32 (u32v r), .int .u8 (at8 bs k)] w fun e w' => e = .returned (.int .u32 (u32v (crcN 8 (r ^^^ (bs.getD k 0).toBitVec.setWidth 32)))) ∧ w = w' := by
  have h2 := at8_range bs k
  have hc0 := at8_word bs k
  generalize (bs.getD k 0).toBitVec.setWidth 32 = C at hc0 ⊢
  generalize at8 bs k = c at h2 hc0 ⊢
  have HC : Hid (∀ j, u32v (C >>> j) = c / 2 ^ j) := fun j => by rw [u32_shr, hc0]
  clear hc0
  go_enter Try.func79, Try.ntmps79
  go_wp2
  go_loop [0, 5] (fun r' i => ∃ j : Nat, j ≤ 8 ∧ i = .int .i64 j ∧ ∃ R : BitVec 32, r' = .int .u32 (u32v R) ∧ Hid (crcN j (r ^^^ C) = R ^^^ (C >>> j))) (fun _ i => 8 - (intOf i).toNat)
  case atStart => exact ⟨0, by omega, rfl, r, rfl, Lib.hid (by simp [crcN])⟩
  case round =>
    obtain ⟨j, hj, rfl, R, rfl, hR⟩ := hrel
    have h3 := u32v_range R
    rcases (show j = 0 ∨ j = 1 ∨ j = 2 ∨ j = 3 ∨ j = 4 ∨ j = 5 ∨ j = 6 ∨ j = 7 ∨ j = 8 by omega) with rfl | rfl | rfl | rfl | rfl | rfl | rfl | rfl | rfl
    rotate_left 8
    · go_wp2_with fail
      have e : C >>> 8 = 0#32 := by
        have h8 := HC.out 8
        have h9 : u32v (C >>> 8) = 0 := by omega
        apply BitVec.eq_of_toNat_eq
        unfold u32v at h9
        have : (0#32 : BitVec 32).toNat = 0 := rfl
        omega
      go_ret
      refine ⟨ret_int ?_, rfl⟩
      rw [hR.out, e]
      simp
    all_goals
      go_wp2_with fail
      all_goals first
        | (have h := ‹(bits .and .u32 _ 1 == 1) = true›; obtain ⟨R', e1, e2⟩ := rbit_yes (by rw [HC.out]; omega) h hR.out; exact ⟨⟨_, by omega, by go_num, R', e1, Lib.hid e2⟩, by simp [intOf]⟩)
        | (have h := ‹(bits .and .u32 _ 1 == 1) = false›; obtain ⟨R', e1, e2⟩ := rbit_no (by rw [HC.out]; omega) h hR.out; exact ⟨⟨_, by omega, by go_num, R', e1, Lib.hid e2⟩, by simp [intOf]⟩)
theorem rmore_any (b off n cap : Nat) (bs : List UInt8) (r : BitVec 32) (w : World) (hn : bs.length = n) (hm : n ≤ 9223372036854775807) (hc : BytesAt w b off bs) :
    Calls Try.prog 66 #[.int .u32 (u32v r), .slice (some ⟨b, off, none⟩) n cap] w fun e w' => e = .returned (.int .u32 (u32v (crcMore r bs))) ∧ w = w' := by
  have hr := u32v_range r
  go_enter Try.func66, Try.ntmps66
  go_wp2_with fail
  go_loop [5, 6] (fun r' i => ∃ k : Nat, k ≤ n ∧ i = .int .i64 k ∧ r' = .int .u32 (u32v (crcF (~~~ r) (bs.take k)))) (fun _ i => n - (intOf i).toNat)
  case atStart => exact ⟨0, by omega, rfl, by rw [u32_not]; rfl⟩
  case round =>
    obtain ⟨k, hk, rfl, rfl⟩ := hrel
    have hcell : k < n → w.cell? ⟨b, off + k, none⟩ = some (.int .u8 (at8 bs k)) := fun h => hc k (by omega)
    obtain ⟨R, hR⟩ : ∃ R, R = crcF (~~~ r) (bs.take k) := ⟨_, rfl⟩
    rw [← hR]
    have HR := Lib.hid hR
    clear hR
    have h1 := u32v_range R
    have h2 := at8_range bs k
    by_cases hkn : k < n
    · go_wp2_with fail
      refine (rstep_any R bs k w).mono ?_
      rintro e w1 ⟨rfl, rfl⟩
      go_wp2_with fail
      go_round
      case rel => exact ⟨k + 1, by omega, by go_num, by rw [HR.out, ← crcF_snoc _ _ _ (show k < bs.length by omega), List.getD_eq_getElem?_getD, List.getElem?_eq_getElem (show k < bs.length by omega)]; rfl⟩
      case measure => simp [intOf]; omega
    · have hge : k = n := by omega
      have HK := Lib.hid hge
      go_wp2_with fail
      go_ret
      exact ⟨ret_int (by rw [u32_not, HR.out, List.take_of_length_le (by omega)]; rfl), rfl⟩
theorem rmore_empty (A : Option Addr) (cap : Nat) (r : BitVec 32) (w : World) :
    Calls Try.prog 66 #[.int .u32 (u32v r), .slice A 0 cap] w fun e w' => e = .returned (.int .u32 (u32v (crcMore r []))) ∧ w = w' := by
  have hr := u32v_range r
  go_enter Try.func66, Try.ntmps66
  go_wp2
  refine wp_loop_rounds 1 ?_
  rw [rounds_succ]
  go_wp2
  go_ret
  exact ⟨ret_int (by rw [u32_not, u32_not]; rfl), rfl⟩
theorem rmore_bs (v : Value) (bs : List UInt8) (r : BitVec 32) (w : World) (h : Bs w v bs) :
    Calls Try.prog 66 #[.int .u32 (u32v r), v] w fun e w' => e = .returned (.int .u32 (u32v (crcMore r bs))) ∧ w = w' := by
  rcases h.cases with ⟨rfl, A, cap, rfl, h1⟩ | ⟨h0, b, off, cap, rfl, h1, h2, h3⟩
  · exact rmore_empty A cap r w
  · exact rmore_any b off bs.length cap bs r w rfl (by omega) h3
theorem rsum_bs (v : Value) (bs : List UInt8) (w : World) (h : Bs w v bs) :
    Calls Try.prog 43 #[v] w fun e w' => e = .returned (.int .u32 (u32v (crcSum bs))) ∧ w = w' := by
  have hm := rmore_bs v bs 0#32 w h
  rw [u32v_zero] at hm
  go_enter Try.func43, Try.ntmps43
  go_wp2_with fail
  refine hm.mono ?_
  rintro e w' ⟨rfl, rfl⟩
  go_wp2
  go_ret
  exact ⟨rfl, rfl⟩
end
end Go.Proofs.Ytccbkagmglddfaa
