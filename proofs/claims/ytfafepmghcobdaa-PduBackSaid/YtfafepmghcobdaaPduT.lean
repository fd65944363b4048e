/- Letters (chapter 17): the program's Put. -/
import Derived.Test.YtfafepmghcobdaaPduR
import Derived.Test.YtfafepmghcobdaaGb
import Derived.Test.YtfafepmghcobdaaPduH
import Derived.Test.YtfafepmghcobdaaGa
import Derived.Deep.RegionLaw
import Derived.Deep.Cut
import Derived.Deep.DeepCutAuto
namespace Go.Proofs.Ytfafepmghcobdaa
open Go.RowKit
set_option linter.unusedVariables false
set_option linter.unusedSimpArgs false
set_option maxRecDepth 20000
set_option maxHeartbeats 4000000
theorem padN_eq (n : Nat) : padOf (n : Int) = ((padN n : Nat) : Int) := by
  unfold padOf padN
  rw [if_neg (by omega)]
  omega
theorem padN_lt (n : Nat) : padN n < 4 := by unfold padN; omega
theorem zero_ok (n : Nat) (w : World) : Calls Try.prog 36 #[.int .i64 (n : Int)] w fun e w' => e = .returned (.int .i64 ((padN n : Nat) : Int)) ∧ w = w' := by
  have h := pad_any (n : Int) w
  rw [padN_eq] at h
  exact h
def agC (o : Ag) : List Value := [.bool o.hs, .bool o.ds, .int .i64 o.most]
/-- The boxes of a call's letter and of what is agreed on. -/
def PB (w w1 : World) (p : Pd) (v : Value) (o : Ag) : Prop := Same w w1 ∧ BoxAt w1 w.heap.size p v ∧ (∀ j u, (agC o)[j]? = some u → w1.cell? ⟨w.heap.size + 1, j, none⟩ = some u) ∧ w.heap.size + 2 ≤ w1.heap.size
theorem PB.init (w : World) (p : Pd) (v : Value) (o : Ag) (t u : TypeId) : PB w ((w.alloc (.cells (pdC p v).toArray t)).alloc (.cells (agC o).toArray u)) p v o := by
  refine ⟨((Upd.refl _ w).alloc _).alloc _, (BoxAt.new w p v t).same ((Upd.refl _ _).alloc _), fun j x hj => ?_, by simp⟩
  have e : w.heap.size + 1 = (w.alloc (.cells (pdC p v).toArray t)).heap.size := by simp
  rw [e, cell_of_row _ _ j _ _ (0, 0) (heap_alloc_new _ _)]
  simpa using hj
theorem PB.same {w w1 w2 : World} {p : Pd} {v : Value} {o : Ag} (h : PB w w1 p v o) (hs : Same w1 w2) : PB w w2 p v o := ⟨Same.trans h.1 hs, h.2.1.same hs, fun j x hj => hs.cell (h.2.2.1 j x hj) id, Nat.le_trans h.2.2.2 hs.size⟩
theorem PB.row {w w1 w2 : World} {p : Pd} {v u : Value} {o : Ag} {xs : List UInt8} (h : PB w w1 p v o) (hf : Fresh (w.heap.size + 2) w1 u xs) (hu : Upd (fun k => room u = some k) w1 w2) : PB w w2 p v o :=
  ⟨Same.into h.1 hu (fun k hk => by have := (hf.ge k hk).1; omega), fun j x hj => hu.cell (h.2.1 j x hj) (fun e => by have := (hf.ge _ e).1; dsimp only at this; omega), fun j x hj => hu.cell (h.2.2.1 j x hj) (fun e => by have := (hf.ge _ e).1; dsimp only at this; omega), Nat.le_trans h.2.2.2 hu.size⟩
theorem put_bad1 (p : Pd) (o : Ag) (A : Option Addr) (n cap : Nat) (h : o.right = false) (w : World) : Calls Try.prog 12 #[pdA p (.slice A n cap), agA o] w fun e w' => e = .returned (.tuple #[.slice none 0 0, .int .i64 1]) ∧ Same w w' := by
  have HR := Lib.hid (fun W => right_any o W)
  rw [h] at HR
  unfold agA at HR ⊢
  unfold pdA
  go_enter Try.func12, Try.ntmps12
  go_wp2_with fail
  show Calls Try.prog _ _ ((w.alloc (.cells (pdC p (.slice A n cap)).toArray 40)).alloc (.cells (agC o).toArray 30)) _
  have hpb := PB.init w p (.slice A n cap) o 40 30
  generalize (w.alloc (.cells (pdC p (.slice A n cap)).toArray 40)).alloc (.cells (agC o).toArray 30) = w0 at hpb ⊢
  refine (HR.out _).mono ?_
  rintro e w1 ⟨rfl, hs⟩
  have HPB := Lib.hid (hpb.same hs)
  clear hpb hs HR
  go_wp2_with fail
  go_ret2
  exact ⟨rfl, HPB.out.1⟩
theorem put_bad2 (p : Pd) (o : Ag) (A : Option Addr) (n cap : Nat) (h : o.right = true) (hf : p.fits = false) (w : World) : Calls Try.prog 12 #[pdA p (.slice A n cap), agA o] w fun e w' => e = .returned (.tuple #[.slice none 0 0, .int .i64 1]) ∧ Same w w' := by
  have HR := Lib.hid (fun W => right_any o W)
  have HF := Lib.hid (fun W => fits_any p (.slice A n cap) W)
  rw [h] at HR
  rw [hf] at HF
  unfold agA at HR ⊢
  unfold pdA at HF ⊢
  go_enter Try.func12, Try.ntmps12
  go_wp2_with fail
  show Calls Try.prog _ _ ((w.alloc (.cells (pdC p (.slice A n cap)).toArray 40)).alloc (.cells (agC o).toArray 30)) _
  have hpb := PB.init w p (.slice A n cap) o 40 30
  generalize (w.alloc (.cells (pdC p (.slice A n cap)).toArray 40)).alloc (.cells (agC o).toArray 30) = w0 at hpb ⊢
  refine (HR.out _).mono ?_
  rintro e w1 ⟨rfl, hs⟩
  have HPB := Lib.hid (hpb.same hs)
  clear hpb hs HR
  have c0 := HPB.out.2.1 0 _ rfl
  have c1 := HPB.out.2.1 1 _ rfl
  have c2 := HPB.out.2.1 2 _ rfl
  have c3 := HPB.out.2.1 3 _ rfl
  have c4 := HPB.out.2.1 4 _ rfl
  have c5 := HPB.out.2.1 5 _ rfl
  have c6 := HPB.out.2.1 6 _ rfl
  have c7 := HPB.out.2.1 7 _ rfl
  have c8 := HPB.out.2.1 8 _ rfl
  have c9 := HPB.out.2.1 9 _ rfl
  have c10 := HPB.out.2.1 10 _ rfl
  have c11 := HPB.out.2.1 11 _ rfl
  have c12 := HPB.out.2.1 12 _ rfl
  have c13 := HPB.out.2.1 13 _ rfl
  have c14 := HPB.out.2.1 14 _ rfl
  have d0 := HPB.out.2.2.1 0 _ rfl
  have d1 := HPB.out.2.2.1 1 _ rfl
  have d2 := HPB.out.2.2.1 2 _ rfl
  go_wp2_with fail
  refine (HF.out _).mono ?_
  rintro e w2 ⟨rfl, hs⟩
  have HPB2 := Lib.hid (HPB.out.same hs)
  clear c0 c1 c2 c3 c4 c5 c6 c7 c8 c9 c10 c11 c12 c13 c14 d0 d1 d2
  clear hs HF HPB
  go_wp2_with fail
  go_ret2
  exact ⟨rfl, HPB2.out.1⟩
theorem put_long (p : Pd) (o : Ag) (A : Option Addr) (cap : Nat) (h : o.right = true) (hf : p.fits = true) (hm : o.most < (p.data.length : Int)) (w : World) : Calls Try.prog 12 #[pdA p (.slice A p.data.length cap), agA o] w fun e w' => e = .returned (.tuple #[.slice none 0 0, .int .i64 3]) ∧ Same w w' := by
  have HR := Lib.hid (fun W => right_any o W)
  have HF := Lib.hid (fun W => fits_any p (.slice A p.data.length cap) W)
  rw [h] at HR
  rw [hf] at HF
  unfold agA at HR ⊢
  unfold pdA at HF ⊢
  go_enter Try.func12, Try.ntmps12
  go_wp2_with fail
  show Calls Try.prog _ _ ((w.alloc (.cells (pdC p (.slice A p.data.length cap)).toArray 40)).alloc (.cells (agC o).toArray 30)) _
  have hpb := PB.init w p (.slice A p.data.length cap) o 40 30
  generalize (w.alloc (.cells (pdC p (.slice A p.data.length cap)).toArray 40)).alloc (.cells (agC o).toArray 30) = w0 at hpb ⊢
  refine (HR.out _).mono ?_
  rintro e w1 ⟨rfl, hs⟩
  have HPB := Lib.hid (hpb.same hs)
  clear hpb hs HR
  have c0 := HPB.out.2.1 0 _ rfl
  have c1 := HPB.out.2.1 1 _ rfl
  have c2 := HPB.out.2.1 2 _ rfl
  have c3 := HPB.out.2.1 3 _ rfl
  have c4 := HPB.out.2.1 4 _ rfl
  have c5 := HPB.out.2.1 5 _ rfl
  have c6 := HPB.out.2.1 6 _ rfl
  have c7 := HPB.out.2.1 7 _ rfl
  have c8 := HPB.out.2.1 8 _ rfl
  have c9 := HPB.out.2.1 9 _ rfl
  have c10 := HPB.out.2.1 10 _ rfl
  have c11 := HPB.out.2.1 11 _ rfl
  have c12 := HPB.out.2.1 12 _ rfl
  have c13 := HPB.out.2.1 13 _ rfl
  have c14 := HPB.out.2.1 14 _ rfl
  have d0 := HPB.out.2.2.1 0 _ rfl
  have d1 := HPB.out.2.2.1 1 _ rfl
  have d2 := HPB.out.2.2.1 2 _ rfl
  go_wp2_with fail
  refine (HF.out _).mono ?_
  rintro e w2 ⟨rfl, hs⟩
  have HPB2 := Lib.hid (HPB.out.same hs)
  clear c0 c1 c2 c3 c4 c5 c6 c7 c8 c9 c10 c11 c12 c13 c14 d0 d1 d2
  clear hs HF HPB
  have c14 := HPB2.out.2.1 14 _ rfl
  have d2 := HPB2.out.2.2.1 2 _ rfl
  go_wp2_with fail
  go_ret2
  exact ⟨rfl, HPB2.out.1⟩
/-- Where Put stands: its bytes so far. -/
def PutS (w wx : World) (p : Pd) (v : Value) (o : Ag) (u : Value) (B : List UInt8) : Prop := PB w wx p v o ∧ Fresh (w.heap.size + 2) wx u B
theorem concat_two (A : Option Addr) (n cap m : Nat) (xs : List UInt8) (t u : TypeId) (W : World) (hb : Bs W (.slice A n cap) xs) (hl : xs.length ≤ 100000) (hm : m ≤ 100) (g : Nat) (hg : g = W.heap.size + 1) (g0 : Nat) (hg0 : g0 = W.heap.size) :
    Calls Try.prog 35 #[.slice (some ⟨g, 0, none⟩) 2 2] ((W.alloc (.cells (madeCells #[.int .u8 0] m) t)).alloc (.cells #[.slice A n cap, .slice (some ⟨g0, 0, none⟩) m m] u)) fun e w' => ∃ v', e = .returned v' ∧ Fresh W.heap.size w' v' (xs ++ List.replicate m 0) ∧ Same W w' := by
  subst hg hg0
  have hs : Same W ((W.alloc (.cells (madeCells #[.int .u8 0] m) t)).alloc (.cells #[.slice A n cap, .slice (some ⟨W.heap.size, 0, none⟩) m m] u)) := ((Upd.refl _ W).alloc _).alloc _
  refine (concat_bs _ [(.slice A n cap, xs), (.slice (some ⟨W.heap.size, 0, none⟩) m m, List.replicate m 0)] _ ⟨?_, ?_⟩ ?_).mono ?_
  · have := Own.rdr (Own.lit (base := 0) (W.alloc (.cells (madeCells #[.int .u8 0] m) t)) #[.slice A n cap, .slice (some ⟨W.heap.size, 0, none⟩) m m] u [.slice A n cap, .slice (some ⟨W.heap.size, 0, none⟩) m m] (W.heap.size + 1) 2 2 1 (by simp) (Nat.zero_le _) (fun j u hj => by simpa using hj) (by simp) (by omega) (by omega) rfl)
    simpa using this
  · intro q hq
    simp only [List.mem_cons, List.not_mem_nil, or_false] at hq
    rcases hq with rfl | rfl
    · exact hb.same hs
    · exact (Bs.lit W _ t (0, 0) (List.replicate m 0) W.heap.size m m rfl (fun j hj => made_at m j (by simpa using hj)) (by simp) (Nat.le_refl _) (by omega)).same ((Upd.refl _ _).alloc _)
  · simp [lenL]; omega
  · rintro e w' ⟨v', rfl, hf, hs'⟩
    exact ⟨v', rfl, by simpa [joinL] using hf.mono hs.size, Same.trans hs hs'⟩
theorem PutS.mk' {w wx : World} {p : Pd} {v : Value} {o : Ag} {u : Value} {B : List UInt8} (h : PB w wx p v o) (hf : Fresh (w.heap.size + 2) wx u B) : PutS w wx p v o u B := ⟨h, hf⟩
theorem put_good (p : Pd) (o : Ag) (A : Option Addr) (cap : Nat) (hok : p.ok) (h : o.right = true) (hf : p.fits = true) (hm : ¬ o.most < (p.data.length : Int)) (hl : p.data.length ≤ 65536) (w : World) (hb : Bs w (.slice A p.data.length cap) p.data) : Calls Try.prog 12 #[pdA p (.slice A p.data.length cap), agA o] w fun e w' => ∃ v', e = .returned (.tuple #[v', .int .i64 0]) ∧ Fresh w.heap.size w' v' (rawL p o) ∧ Same w w' := by
  have HR := Lib.hid (fun W => right_any o W)
  have HF := Lib.hid (fun W => fits_any p (.slice A p.data.length cap) W)
  have HD := Lib.hid (fun W => head_any p A cap hok hf hl W)
  have H48 := Lib.hid (headL_length hok.2.2.1)
  rw [h] at HR
  rw [hf] at HF
  unfold agA at HR ⊢
  unfold pdA at HF HD ⊢
  have HB := Lib.hid hb
  clear hb
  go_enter Try.func12, Try.ntmps12
  go_wp2_with fail
  show Calls Try.prog _ _ ((w.alloc (.cells (pdC p (.slice A p.data.length cap)).toArray 40)).alloc (.cells (agC o).toArray 30)) _
  have hpb := PB.init w p (.slice A p.data.length cap) o 40 30
  generalize (w.alloc (.cells (pdC p (.slice A p.data.length cap)).toArray 40)).alloc (.cells (agC o).toArray 30) = w0 at hpb ⊢
  refine (HR.out _).mono ?_
  rintro e w1 ⟨rfl, hs⟩
  have HPB := Lib.hid (hpb.same hs)
  clear hpb hs HR
  have c0 := HPB.out.2.1 0 _ rfl
  have c1 := HPB.out.2.1 1 _ rfl
  have c2 := HPB.out.2.1 2 _ rfl
  have c3 := HPB.out.2.1 3 _ rfl
  have c4 := HPB.out.2.1 4 _ rfl
  have c5 := HPB.out.2.1 5 _ rfl
  have c6 := HPB.out.2.1 6 _ rfl
  have c7 := HPB.out.2.1 7 _ rfl
  have c8 := HPB.out.2.1 8 _ rfl
  have c9 := HPB.out.2.1 9 _ rfl
  have c10 := HPB.out.2.1 10 _ rfl
  have c11 := HPB.out.2.1 11 _ rfl
  have c12 := HPB.out.2.1 12 _ rfl
  have c13 := HPB.out.2.1 13 _ rfl
  have c14 := HPB.out.2.1 14 _ rfl
  have d0 := HPB.out.2.2.1 0 _ rfl
  have d1 := HPB.out.2.2.1 1 _ rfl
  have d2 := HPB.out.2.2.1 2 _ rfl
  go_wp2_with fail
  refine (HF.out _).mono ?_
  rintro e w2 ⟨rfl, hs⟩
  have HPB2 := Lib.hid (HPB.out.same hs)
  clear c0 c1 c2 c3 c4 c5 c6 c7 c8 c9 c10 c11 c12 c13 c14 d0 d1 d2
  clear hs HF HPB
  have c0 := HPB2.out.2.1 0 _ rfl
  have c1 := HPB2.out.2.1 1 _ rfl
  have c2 := HPB2.out.2.1 2 _ rfl
  have c3 := HPB2.out.2.1 3 _ rfl
  have c4 := HPB2.out.2.1 4 _ rfl
  have c5 := HPB2.out.2.1 5 _ rfl
  have c6 := HPB2.out.2.1 6 _ rfl
  have c7 := HPB2.out.2.1 7 _ rfl
  have c8 := HPB2.out.2.1 8 _ rfl
  have c9 := HPB2.out.2.1 9 _ rfl
  have c10 := HPB2.out.2.1 10 _ rfl
  have c11 := HPB2.out.2.1 11 _ rfl
  have c12 := HPB2.out.2.1 12 _ rfl
  have c13 := HPB2.out.2.1 13 _ rfl
  have c14 := HPB2.out.2.1 14 _ rfl
  have d0 := HPB2.out.2.2.1 0 _ rfl
  have d1 := HPB2.out.2.2.1 1 _ rfl
  have d2 := HPB2.out.2.2.1 2 _ rfl
  go_wp2_with fail
  refine (HD.out _).mono ?_
  rintro e w3 ⟨v1, rfl, hf1, hs⟩
  obtain ⟨A1, n1, cp1, rfl⟩ := Fresh.shape hf1
  have HF1 := Lib.hid (hf1.mono HPB2.out.2.2.2)
  have HPB3 := Lib.hid (HPB2.out.same hs)
  clear c0 c1 c2 c3 c4 c5 c6 c7 c8 c9 c10 c11 c12 c13 c14 d0 d1 d2
  clear hs HD HPB2 hf1
  have hraw : Hid (rawL p o = headL p ++ (sumL o.hs (headL p) ++ (fullD p.data ++ sumL (o.ds && decide (0 < p.data.length)) (fullD p.data)))) := rfl
  generalize hHL : headL p = HL at HF1 H48 hraw
  have HHL := Lib.hid hHL
  clear hHL
  have d0 := HPB3.out.2.2.1 0 _ rfl
  go_upto_if 27 with (fail)
  go_cut [1, 6] from 8 (fun v1 v6 wx => PutS w wx p (.slice A p.data.length cap) o v6 (HL ++ sumL o.hs HL))
  case first =>
    by_cases hhs : o.hs = true
    · rw [hhs] at d0 ⊢
      have HHS := Lib.hid hhs
      clear hhs
      go_wp2_with fail
      refine (digest_bs _ _ _ HF1.out.bs).mono ?_
      rintro e w4 ⟨v2, rfl, hf2, hs4⟩
      obtain ⟨A2, n2, cp2, rfl⟩ := Fresh.shape hf2
      go_wp2_with (at_builtin; refine wpl_append_bytes rfl (.tmp 28) (.tmp 30) 33 rfl Try.underlying33 li5 (w.heap.size + 2) (.slice A1 n1 cp1) (.slice A2 n2 cp2) HL (crcDigest (crcSum HL)) (HL ++ (crcDigest (crcSum HL))) rfl rfl rfl (HF1.out.same hs4) hf2.bs (Nat.le_trans HPB3.out.2.2.2 hs4.size) (by rw [H48.out, crcDigest_length]; omega) ?_; intro v3 w5 hf3 hu3 hr3)
      go_meet
      exact PutS.mk' ((HPB3.out.same hs4).row (HF1.out.same hs4) hu3) (by rw [HHS.out]; exact hf3)
    · rw [Bool.not_eq_true] at hhs
      rw [hhs] at d0 ⊢
      have HHS := Lib.hid hhs
      clear hhs
      go_wp2_with fail
      go_meet
      exact PutS.mk' HPB3.out (by rw [HHS.out]; simpa [sumL] using HF1.out)
  case rest =>
    clear d0
    obtain ⟨hpb, hf6⟩ := hcut
    obtain ⟨A6, n6, cp6, rfl⟩ := Fresh.shape hf6
    have HPB4 := Lib.hid hpb
    have HF6 := Lib.hid hf6
    clear hpb hf6 HPB3 HF1 w0 w1 w2 w3
    have c14 := HPB4.out.2.1 14 _ rfl
    have hpad := padN_lt p.data.length
    have HPAD : Hid (∀ W, Calls Try.prog 36 #[.int .i64 (p.data.length : Int)] W fun e w' => e = .returned (.int .i64 ((padN p.data.length : Nat) : Int)) ∧ W = w') := fun W => zero_ok p.data.length W
    have hfl : Hid (fullD p.data = p.data ++ List.replicate (padN p.data.length) 0) := rfl
    generalize padN p.data.length = m at hpad HPAD hfl
    have hmk : ∀ W, (Instr.makeSlice 33 (.int .i64 (m : Int)) (.int .i64 (m : Int))).run Try.prog W = .ok (.slice (some ⟨W.heap.size, 0, none⟩) m m) (W.alloc (.cells (madeCells #[.int .u8 0] m) 5)) := fun W => make_bytes 33 5 Try.underlying33 (by kernel_rfl) m (by omega) W
    go_wp2_with fail
    go_region_held3 (fun w' => w'.cell? ⟨w.heap.size, 14, none⟩ = some (.slice A p.data.length cap)) (first | assumption | exact (Upd.refl (fun _ => False) wc).drew.cell c14 (fun h => h) | exact ((Upd.refl (fun _ => False) wc).alloc _).drew.cell c14 (fun h => h) | exact (((Upd.refl (fun _ => False) wc).alloc _).alloc _).drew.cell c14 (fun h => h)) (first
      | (go_at_call 36; refine (HPAD.out _).mono ?_; rintro e w7 ⟨rfl, rfl⟩)
      | (go_at_call 35; refine (concat_two A p.data.length cap m p.data _ _ wc.drew (HB.out.same (HPB4.out.1.drew)) (by omega) (by omega) _ rfl _ rfl).mono ?_; rintro e w8 ⟨vD, rfl, hfD, hsD⟩; have z14 := hsD.cell ((Upd.refl (fun _ => False) wc).drew.cell c14 (fun h => h)) (fun h => h)))
    obtain ⟨AD, nD, cpD, rfl⟩ := Fresh.shape hfD
    rw [← hfl.out] at hfD
    have hsd : Same wc w8 := Same.trans ((Upd.refl (fun _ => False) wc).drew) hsD
    have hfd : Fresh wc.heap.size w8 (.slice AD nD cpD) (fullD p.data) := hfD
    have hnd : nD = (fullD p.data).length := by
      obtain ⟨_, _, _, e, h1, _⟩ := hfd
      injection e with _ e2 _
      subst e2
      simpa using h1.symm
    have HPB5 := Lib.hid (HPB4.out.same hsd)
    have hD16 := fullD_length p.data
    have HD := Lib.hid hfd
    clear z14 hfD hsD hfd hmk HPAD c14
    have HDS : Hid (sumL (o.ds && decide (0 < p.data.length)) (fullD p.data) = sumL (o.ds && decide (0 < p.data.length)) (fullD p.data)) := rfl
    by_cases hds : o.ds = true
    · by_cases hz : 0 < p.data.length
      · have hz2 : (0 : Int) < (nD : Int) := by omega
        have hsum : sumL (o.ds && decide (0 < p.data.length)) (fullD p.data) = crcDigest (crcSum (fullD p.data)) := by rw [hds, decide_eq_true hz]; rfl
        have HSUM := Lib.hid hsum
        have HND := Lib.hid hnd
        have HHDS := Lib.hid hds
        clear hsum hnd hds hz
        go_wp2_with (at_builtin; refine wpl_append_bytes rfl (.tmp 41) (.tmp 42) 33 rfl Try.underlying33 li5 (w.heap.size + 2) (.slice A6 n6 cp6) (.slice AD _ cpD) (HL ++ sumL o.hs HL) (fullD p.data) ((HL ++ sumL o.hs HL) ++ (fullD p.data)) rfl rfl rfl (HF6.out.same hsd) HD.out.bs HPB5.out.2.2.2 (by rw [List.length_append, H48.out, sumL_length, hD16]; have := padN_lt p.data.length; split <;> omega) ?_; intro v9 w9 hf3 hu3 hr3; have hd9 := HD.out.upd hu3 (HD.out.off (fun k hk e => by have := ((HF6.out.same hsd).ge k e).2; have := ((HF6.out).ge k e).2; omega)); have HD9 := Lib.hid hd9; have HPB9 := Lib.hid (HPB5.out.row (HF6.out.same hsd) hu3); obtain ⟨A9, n9, cp9, rfl⟩ := Fresh.shape hf3; have HF9 := Lib.hid hf3; have d1 := HPB9.out.2.2.1 1 _ rfl; rw [HHDS.out] at d1; clear hd9 hf3 hu3 hr3)
        refine (digest_bs _ _ _ HD9.out.bs).mono ?_
        rintro e w10 ⟨v10, rfl, hf10, hs10⟩
        obtain ⟨A10, n10, cp10, rfl⟩ := Fresh.shape hf10
        go_wp2_with (at_builtin; refine wpl_append_bytes rfl (.tmp 51) (.tmp 53) 33 rfl Try.underlying33 li5 (w.heap.size + 2) (.slice A9 n9 cp9) (.slice A10 n10 cp10) (HL ++ sumL o.hs HL ++ fullD p.data) (crcDigest (crcSum (fullD p.data))) ((HL ++ sumL o.hs HL ++ fullD p.data) ++ (crcDigest (crcSum (fullD p.data)))) rfl rfl rfl (HF9.out.same hs10) hf10.bs (Nat.le_trans HPB9.out.2.2.2 hs10.size) (by rw [List.length_append, List.length_append, H48.out, sumL_length, hD16, crcDigest_length]; have := padN_lt p.data.length; split <;> omega) ?_; intro v11 w11 hf3 hu3 hr3)
        go_ret2
        refine ⟨v11, rfl, ?_, ((HPB9.out.same hs10).row (HF9.out.same hs10) hu3).1⟩
        rw [hraw.out, HSUM.out]
        have hf4 := hf3.mono (base' := w.heap.size) (by omega)
        simpa only [List.append_assoc] using hf4
      · have hz2 : nD = 0 := by have : p.data.length = 0 := by omega
                                rw [hnd, hD16, this]; rfl
        have hsum : sumL (o.ds && decide (0 < p.data.length)) (fullD p.data) = [] := by rw [hds, decide_eq_false hz]; rfl
        have HSUM := Lib.hid hsum
        have HHDS := Lib.hid hds
        subst hz2
        clear hsum hnd hds hz
        go_wp2_with (at_builtin; refine wpl_append_bytes rfl (.tmp 41) (.tmp 42) 33 rfl Try.underlying33 li5 (w.heap.size + 2) (.slice A6 n6 cp6) (.slice AD _ cpD) (HL ++ sumL o.hs HL) (fullD p.data) ((HL ++ sumL o.hs HL) ++ (fullD p.data)) rfl rfl rfl (HF6.out.same hsd) HD.out.bs HPB5.out.2.2.2 (by rw [List.length_append, H48.out, sumL_length, hD16]; have := padN_lt p.data.length; split <;> omega) ?_; intro v9 w9 hf3 hu3 hr3; have hd9 := HD.out.upd hu3 (HD.out.off (fun k hk e => by have := ((HF6.out.same hsd).ge k e).2; have := ((HF6.out).ge k e).2; omega)); have HD9 := Lib.hid hd9; have HPB9 := Lib.hid (HPB5.out.row (HF6.out.same hsd) hu3); obtain ⟨A9, n9, cp9, rfl⟩ := Fresh.shape hf3; have HF9 := Lib.hid hf3; have d1 := HPB9.out.2.2.1 1 _ rfl; rw [HHDS.out] at d1; clear hd9 hf3 hu3 hr3)
        go_ret2
        refine ⟨.slice A9 _ cp9, rfl, ?_, HPB9.out.1⟩
        rw [hraw.out, HSUM.out, List.append_nil]
        have hf4 := HF9.out.mono (base' := w.heap.size) (by omega)
        simpa only [List.append_assoc] using hf4
    · rw [Bool.not_eq_true] at hds
      have hsum : sumL (o.ds && decide (0 < p.data.length)) (fullD p.data) = [] := by rw [hds]; rfl
      have HSUM := Lib.hid hsum
      have HHDS := Lib.hid hds
      have HND := Lib.hid hnd
      clear hsum hnd hds
      go_wp2_with (at_builtin; refine wpl_append_bytes rfl (.tmp 41) (.tmp 42) 33 rfl Try.underlying33 li5 (w.heap.size + 2) (.slice A6 n6 cp6) (.slice AD _ cpD) (HL ++ sumL o.hs HL) (fullD p.data) ((HL ++ sumL o.hs HL) ++ (fullD p.data)) rfl rfl rfl (HF6.out.same hsd) HD.out.bs HPB5.out.2.2.2 (by rw [List.length_append, H48.out, sumL_length, hD16]; have := padN_lt p.data.length; split <;> omega) ?_; intro v9 w9 hf3 hu3 hr3; have hd9 := HD.out.upd hu3 (HD.out.off (fun k hk e => by have := ((HF6.out.same hsd).ge k e).2; have := ((HF6.out).ge k e).2; omega)); have HD9 := Lib.hid hd9; have HPB9 := Lib.hid (HPB5.out.row (HF6.out.same hsd) hu3); obtain ⟨A9, n9, cp9, rfl⟩ := Fresh.shape hf3; have HF9 := Lib.hid hf3; have d1 := HPB9.out.2.2.1 1 _ rfl; rw [HHDS.out] at d1; clear hd9 hf3 hu3 hr3)
      go_ret2
      refine ⟨.slice A9 _ cp9, rfl, ?_, HPB9.out.1⟩
      rw [hraw.out, HSUM.out, List.append_nil]
      have hf4 := HF9.out.mono (base' := w.heap.size) (by omega)
      simpa only [List.append_assoc] using hf4
/-- Put. -/
theorem put_any (p : Pd) (o : Ag) (A : Option Addr) (n cap : Nat) (hok : p.ok) (w : World) (hb : Bs w (.slice A n cap) p.data) : Calls Try.prog 12 #[pdA p (.slice A n cap), agA o] w fun e w' => ∃ v', e = .returned (.tuple #[v', .int .i64 (pduE p o)]) ∧ Fresh w.heap.size w' v' (pduL p o) ∧ Same w w' := by
  have hn : n = p.data.length := by
    obtain ⟨_, _, e, _⟩ := id hb
    injection e
  subst hn
  by_cases h : o.right = true
  · by_cases hf : p.fits = true
    · by_cases hm : o.most < (p.data.length : Int)
      · have e : pduE p o = 3 := by unfold pduE; rw [h, hf]; simp [hm]
        have e2 : pduL p o = [] := by unfold pduL; rw [e]; rfl
        rw [e, e2]
        refine (put_long p o A cap h hf hm w).mono ?_
        rintro e w' ⟨rfl, hs⟩
        exact ⟨_, rfl, Fresh.nil _ _, hs⟩
      · have e : pduE p o = 0 := by unfold pduE; rw [h, hf]; simp [hm]
        have e2 : pduL p o = rawL p o := by unfold pduL; rw [e]; rfl
        rw [e, e2]
        have hr := of_decide_eq_true h
        exact put_good p o A cap hok h hf hm (by omega) w hb
    · rw [Bool.not_eq_true] at hf
      have e : pduE p o = 1 := by unfold pduE; rw [hf]; simp
      have e2 : pduL p o = [] := by unfold pduL; rw [e]; rfl
      rw [e, e2]
      refine (put_bad2 p o A _ cap h hf w).mono ?_
      rintro e w' ⟨rfl, hs⟩
      exact ⟨_, rfl, Fresh.nil _ _, hs⟩
  · rw [Bool.not_eq_true] at h
    have e : pduE p o = 1 := by unfold pduE; rw [h]; simp
    have e2 : pduL p o = [] := by unfold pduL; rw [e]; rfl
    rw [e, e2]
    refine (put_bad1 p o A _ cap h w).mono ?_
    rintro e w' ⟨rfl, hs⟩
    exact ⟨_, rfl, Fresh.nil _ _, hs⟩
end Go.Proofs.Ytfafepmghcobdaa
