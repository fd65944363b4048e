/- What field.cut, Cut and the reference's Cut compute: bytes with their length ahead, off others. -/
import Derived.Test.YtgfdadbgbdcehaaAddR
namespace Go.Proofs.Ytgfdadbgbdcehaa
open Go.RowKit
set_option linter.unusedVariables false
set_option linter.unusedSimpArgs false

/-- The length that stands ahead. -/
def cutV (bs : List UInt8) (size : Int) : Int := valB (bs.take size.toNat)
def cutE (bs : List UInt8) (size : Int) : Int :=
  if rightB size then (if (bs.length : Int) < size then 10 else if 65536 < cutV bs size then 3 else if (bs.length : Int) - size < cutV bs size then 10 else 0) else 1
def cutN (bs : List UInt8) (size : Int) : Int := if cutE bs size = 0 then size + cutV bs size else 0
def cutP (bs : List UInt8) (size : Int) : List UInt8 := if cutE bs size = 0 then (bs.drop size.toNat).take (cutV bs size).toNat else []
def cutR (bs : List UInt8) (size : Int) : List UInt8 := if cutE bs size = 0 then bs.drop (size + cutV bs size).toNat else []
theorem cutV_nonneg (bs : List UInt8) (size : Int) : 0 ≤ cutV bs size := (valB_range _).1
theorem cutV_most (bs : List UInt8) (size : Int) (h : size ≤ 4) : cutV bs size ≤ 4294967295 := by
  have h2 := (valB_range (bs.take size.toNat)).2
  have h3 : (bs.take size.toNat).length ≤ 4 := by simp; omega
  have h4 : (256 : Int) ^ (bs.take size.toNat).length ≤ 4294967296 := by
    have : 256 ^ (bs.take size.toNat).length ≤ 256 ^ 4 := Nat.pow_le_pow_right (by decide) h3
    have e : ((256 ^ (bs.take size.toNat).length : Nat) : Int) = (256 : Int) ^ (bs.take size.toNat).length := by rw [Int.natCast_pow]; rfl
    omega
  unfold cutV
  omega
/-- What a cut of some bytes is: five cases. -/
theorem cut_cases (bs : List UInt8) (size : Int) :
    (rightB size = false ∧ cutE bs size = 1) ∨
    (rightB size = true ∧ (bs.length : Int) < size ∧ cutE bs size = 10) ∨
    (rightB size = true ∧ size ≤ bs.length ∧ 65536 < cutV bs size ∧ cutE bs size = 3) ∨
    (rightB size = true ∧ size ≤ bs.length ∧ cutV bs size ≤ 65536 ∧ bs.length - size < cutV bs size ∧ cutE bs size = 10) ∨
    (rightB size = true ∧ size ≤ bs.length ∧ cutV bs size ≤ 65536 ∧ size + cutV bs size ≤ bs.length ∧ cutE bs size = 0) := by
  unfold cutE
  cases rightB size with
  | false => exact .inl ⟨rfl, rfl⟩
  | true =>
    simp only [if_true]
    by_cases h1 : (bs.length : Int) < size
    · rw [if_pos h1]; exact .inr (.inl ⟨trivial, h1, rfl⟩)
    · rw [if_neg h1]
      by_cases h2 : 65536 < cutV bs size
      · rw [if_pos h2]; exact .inr (.inr (.inl ⟨trivial, by omega, h2, rfl⟩))
      · rw [if_neg h2]
        by_cases h3 : (bs.length : Int) - size < cutV bs size
        · rw [if_pos h3]; exact .inr (.inr (.inr (.inl ⟨trivial, by omega, by omega, h3, rfl⟩)))
        · rw [if_neg h3]; exact .inr (.inr (.inr (.inr ⟨trivial, by omega, by omega, by omega, rfl⟩)))
theorem cut_get (bs : List UInt8) (size : Int) (h : rightB size = true) : getE bs.length 0 size = (if size ≤ bs.length then 0 else 1) ∧ (size ≤ bs.length → getN bs 0 size = cutV bs size) := by
  have hs : size = 1 ∨ size = 2 ∨ size = 4 := by simpa [rightB] using h
  have ht : thereB bs.length 0 size = decide (size ≤ bs.length) := by
    unfold thereB
    apply decide_eq_decide.2
    omega
  constructor
  · unfold getE
    rw [ht]
    simp
  · intro h2
    unfold getN
    rw [ht]
    simp [h2, cutV]
/-- field.cut. -/
theorem cut_bs (v : Value) (bs : List UInt8) (size : Int) (w : World) (h : Bs w v bs) (hl : bs.length ≤ 140737488351232) (h3 : -9223372036854775808 ≤ size) (h4 : size ≤ 9223372036854775807) :
    Calls Try.prog 57 #[v, .int .i64 size] w fun e w' => ∃ v', e = .returned (.tuple #[v', .int .i64 (cutN bs size), .int .i64 (cutE bs size)]) ∧ Fresh w.heap.size w' v' (cutP bs size) ∧ Same w w' := by
  have hr := right_any size w
  have hg := get_bs v bs 0 size w h (by decide) (by decide) h3 h4
  have hcg := cut_get bs size
  obtain ⟨A, cap, rfl, k1, k2, k3⟩ := id h
  unfold cutN cutP
  rcases cut_cases bs size with ⟨c1, c2⟩ | ⟨c1, c3, c2⟩ | ⟨c1, c3, c4, c2⟩ | ⟨c1, c3, c4, c5, c2⟩ | ⟨c1, c3, c4, c5, c2⟩
  · rw [c2, if_neg (by decide), if_neg (by decide)]
    rw [c1] at hr
    clear hcg hg c1 c2 k3
    go_enter Try.func57, Try.ntmps57
    go_wp2_with fail
    refine hr.mono ?_
    rintro e w' ⟨rfl, rfl⟩
    go_wp2
    go_ret3
    exact ⟨_, rfl, Fresh.nil _ w, Upd.refl _ w⟩
  · rw [c2, if_neg (by decide), if_neg (by decide)]
    rw [c1] at hr
    have e1 := (hcg c1).1
    rw [if_neg (by omega)] at e1
    rw [e1] at hg
    generalize getN bs 0 size = GN at hg
    have HG := Lib.hid hg
    clear hcg hg c1 c2 k3 e1
    go_enter Try.func57, Try.ntmps57
    go_wp2_with fail
    refine hr.mono ?_
    rintro e w' ⟨rfl, rfl⟩
    go_wp2_with fail
    refine HG.out.mono ?_
    rintro e w' ⟨rfl, rfl⟩
    go_wp2_with fail
    go_ret3
    exact ⟨_, rfl, Fresh.nil _ w, Upd.refl _ w⟩
  · rw [c2, if_neg (by decide), if_neg (by decide)]
    rw [c1] at hr
    have e1 := (hcg c1).1
    have e2 := (hcg c1).2 c3
    rw [if_pos c3] at e1
    rw [e1, e2] at hg
    generalize cutV bs size = V at hg c4
    have HG := Lib.hid hg
    clear hcg hg c1 c2 k3 e1 e2
    go_enter Try.func57, Try.ntmps57
    go_wp2_with fail
    refine hr.mono ?_
    rintro e w' ⟨rfl, rfl⟩
    go_wp2_with fail
    refine HG.out.mono ?_
    rintro e w' ⟨rfl, rfl⟩
    go_wp2_with fail
    go_ret3
    exact ⟨_, rfl, Fresh.nil _ w, Upd.refl _ w⟩
  · rw [c2, if_neg (by decide), if_neg (by decide)]
    rw [c1] at hr
    have e1 := (hcg c1).1
    have e2 := (hcg c1).2 c3
    rw [if_pos c3] at e1
    rw [e1, e2] at hg
    have hv0 := cutV_nonneg bs size
    have hs : size = 1 ∨ size = 2 ∨ size = 4 := by simpa [rightB] using c1
    have hs2 : 1 ≤ size ∧ size ≤ 4 := by omega
    generalize cutV bs size = V at hg c4 c5 hv0
    have c6 : ¬ 65536 < V := by omega
    have HG := Lib.hid hg
    clear hcg hg c1 c2 k3 e1 e2 hs
    go_enter Try.func57, Try.ntmps57
    go_wp2_with fail
    refine hr.mono ?_
    rintro e w' ⟨rfl, rfl⟩
    go_wp2_with fail
    refine HG.out.mono ?_
    rintro e w' ⟨rfl, rfl⟩
    go_wp2_with fail
    go_ret3
    exact ⟨_, rfl, Fresh.nil _ w, Upd.refl _ w⟩
  · rw [c2, if_pos rfl, if_pos rfl]
    rw [c1] at hr
    have e1 := (hcg c1).1
    have e2 := (hcg c1).2 c3
    rw [if_pos c3] at e1
    rw [e1, e2] at hg
    have hv0 := cutV_nonneg bs size
    have hs : size = 1 ∨ size = 2 ∨ size = 4 := by simpa [rightB] using c1
    obtain ⟨m, rfl⟩ : ∃ m : Nat, size = (m : Int) := ⟨size.toNat, by omega⟩
    obtain ⟨V, hV⟩ : ∃ V : Nat, (V : Int) = cutV bs m := ⟨(cutV bs m).toNat, by omega⟩
    rw [← hV] at hg c4 c5 hv0 ⊢
    have c6 : ¬ (65536 : Int) < V := by omega
    have c7 : ¬ ((bs.length : Int) - (m : Int) < (V : Int)) := by omega
    have hcl := fun w' (hs : Same w w') => clone_bs _ _ w' (((h.drop m (by omega)).take V (by omega)).same hs) (by simp; omega)
    have hm1 : 1 ≤ m ∧ m ≤ 4 := by omega
    have hmn : m + V ≤ bs.length := by omega
    have HG := Lib.hid hg
    have HC := Lib.hid hcl
    obtain ⟨b, off, rfl, _⟩ : ∃ b off, A = some ⟨b, off, none⟩ ∧ True := by
      rcases k3 with k3 | ⟨b, off, k3, _⟩
      · rw [k3] at hmn; simp at hmn; omega
      · exact ⟨b, off, k3, trivial⟩
    clear hcg hg c1 c2 k3 e1 e2 hs hcl hV
    by_cases hcm : cap = m
    · subst hcm
      go_enter Try.func57, Try.ntmps57
      go_wp2_with fail
      refine hr.mono ?_
      rintro e w' ⟨rfl, rfl⟩
      go_wp2_with fail
      refine HG.out.mono ?_
      rintro e w' ⟨rfl, rfl⟩
      go_wp2_with fail
      have hc := HC.out w (Upd.refl _ w)
      simp only [if_true, Nat.sub_self] at hc
      refine hc.mono ?_
      rintro e w1 ⟨v1, rfl, hf1, hs1⟩
      have HF := Lib.hid hf1
      clear hf1
      go_wp2_with fail
      go_ret3
      exact ⟨_, rfl, by have := HF.out; simpa using this, hs1⟩
    · go_enter Try.func57, Try.ntmps57
      go_wp2_with fail
      refine hr.mono ?_
      rintro e w' ⟨rfl, rfl⟩
      go_wp2_with fail
      refine HG.out.mono ?_
      rintro e w' ⟨rfl, rfl⟩
      go_wp2_with fail
      have hc := HC.out w (Upd.refl _ w)
      rw [if_neg hcm] at hc
      simp only [Option.map_some, Addr.add_lit] at hc
      refine hc.mono ?_
      rintro e w1 ⟨v1, rfl, hf1, hs1⟩
      have HF := Lib.hid hf1
      clear hf1
      go_wp2_with fail
      go_ret3
      exact ⟨_, rfl, by have := HF.out; simpa using this, hs1⟩
/-- field.Cut. -/
theorem Cut_bs (v : Value) (bs : List UInt8) (size : Int) (w : World) (h : Bs w v bs) (hl : bs.length ≤ 140737488351232) (h3 : -9223372036854775808 ≤ size) (h4 : size ≤ 9223372036854775807) :
    Calls Try.prog 29 #[v, .int .i64 size] w fun e w' => ∃ v1 v2, e = .returned (.tuple #[v1, v2, .int .i64 (cutE bs size)]) ∧ Fresh w.heap.size w' v1 (cutP bs size) ∧ Fresh w.heap.size w' v2 (cutR bs size) ∧ Same w w' ∧ (∀ k, room v1 = some k → ¬ room v2 = some k) := by
  have hc := cut_bs v bs size w h hl h3 h4
  obtain ⟨A, cap, rfl, k1, k2, k3⟩ := id h
  by_cases he : cutE bs size = 0
  · have hN : cutN bs size = size + cutV bs size := by unfold cutN; rw [if_pos he]
    have hR : cutR bs size = bs.drop (size + cutV bs size).toNat := by unfold cutR; rw [if_pos he]
    have hv0 := cutV_nonneg bs size
    have hb : 1 ≤ size ∧ size + cutV bs size ≤ bs.length := by
      rcases cut_cases bs size with ⟨c1, c2⟩ | ⟨c1, c3, c2⟩ | ⟨c1, c3, c4, c2⟩ | ⟨c1, c3, c4, c5, c2⟩ | ⟨c1, c3, c4, c5, c2⟩
      · omega
      · omega
      · omega
      · omega
      · have hs : size = 1 ∨ size = 2 ∨ size = 4 := by simpa [rightB] using c1
        omega
    obtain ⟨k, hk⟩ : ∃ k : Nat, (k : Int) = size + cutV bs size := ⟨(size + cutV bs size).toNat, by omega⟩
    rw [he, hN, ← hk] at hc
    rw [he, hR, ← hk, Int.toNat_natCast]
    have hkl : 1 ≤ k ∧ k ≤ bs.length := by omega
    obtain ⟨b, off, rfl, _⟩ : ∃ b off, A = some ⟨b, off, none⟩ ∧ True := by
      rcases k3 with k3 | ⟨b, off, k3, _⟩
      · rw [k3] at hkl; simp at hkl; omega
      · exact ⟨b, off, k3, trivial⟩
    have hcl := fun w' (hs : Same w w') => clone_bs _ _ w' ((h.drop k hkl.2).same hs) (by simp; omega)
    generalize cutP bs size = CP at hc
    have HC := Lib.hid hc
    have HCL := Lib.hid hcl
    clear hc hcl k3 he hN hR hb hk h hv0
    by_cases hcm : cap = k
    all_goals
      try subst hcm
      go_enter Try.func29, Try.ntmps29
      go_wp2_with fail
      refine HC.out.mono ?_
      rintro e w1 ⟨v1, rfl, hf1, hs1⟩
      have hc := HCL.out w1 hs1
      first | (simp only [if_true, Nat.sub_self] at hc; rw [show bs.length - cap = 0 by omega] at hc) | (rw [if_neg hcm] at hc; simp only [Option.map_some, Addr.add_lit] at hc)
      have HF := Lib.hid hf1
      have HC2 := Lib.hid hc
      clear hf1 hc
      go_wp2_with fail
      refine HC2.out.mono ?_
      rintro e w2 ⟨v2, rfl, hf2, hs2⟩
      have HF2 := Lib.hid hf2
      clear hf2
      go_wp2_with fail
      go_ret3
      refine ⟨_, _, rfl, HF.out.same hs2, HF2.out.mono hs1.size, Same.trans hs1 hs2, fun k h1 h2 => ?_⟩
      have h3 := (HF.out.ge k h1).2
      have h4 := (HF2.out.ge k h2).1
      omega
  · have hP : cutP bs size = [] := by unfold cutP; rw [if_neg he]
    have hR : cutR bs size = [] := by unfold cutR; rw [if_neg he]
    rw [hP] at hc ⊢
    rw [hR]
    generalize cutN bs size = CN at hc
    generalize cutE bs size = CE at hc he
    have HC := Lib.hid hc
    clear hc k3 hP hR
    go_enter Try.func29, Try.ntmps29
    go_wp2_with fail
    refine HC.out.mono ?_
    rintro e w1 ⟨v1, rfl, hf1, hs1⟩
    have HF := Lib.hid hf1
    clear hf1
    go_wp2_with fail
    go_ret3
    exact ⟨_, _, rfl, Fresh.nil _ _, Fresh.nil _ _, hs1, fun k h1 => by simp [room] at h1⟩
end Go.Proofs.Ytgfdadbgbdcehaa
