/- What the reference's Cut computes. -/
import Derived.Test.YtgfdadbgbdcehaaCut
namespace Go.Proofs.Ytgfdadbgbdcehaa
open Go.RowKit
set_option linter.unusedVariables false
set_option linter.unusedSimpArgs false

theorem Bs.as {w : World} {v v' : Value} {bs : List UInt8} (h : Bs w v bs) (e : v = v') : Bs w v' bs := e ▸ h
set_option maxHeartbeats 1000000 in
theorem rCut_bs (v : Value) (bs : List UInt8) (size : Int) (w : World) (h : Bs w v bs) (hl : bs.length ≤ 140737488351232) (h3 : -9223372036854775808 ≤ size) (h4 : size ≤ 9223372036854775807) :
    Calls Try.prog 30 #[v, .int .i64 size] w fun e w' => ∃ v1 v2, e = .returned (.tuple #[v1, v2, .int .i64 (cutE bs size)]) ∧ Fresh w.heap.size w' v1 (cutP bs size) ∧ Fresh w.heap.size w' v2 (cutR bs size) ∧ Same w w' := by
  have hg := rget_bs v bs 0 size w h (by decide) (by decide) h3 h4
  have hcg := cut_get bs size
  obtain ⟨A, cap, rfl, k1, k2, k3⟩ := id h
  unfold cutP cutR
  rcases cut_cases bs size with ⟨c1, c2⟩ | ⟨c1, c3, c2⟩ | ⟨c1, c3, c4, c2⟩ | ⟨c1, c3, c4, c5, c2⟩ | ⟨c1, c3, c4, c5, c2⟩
  · rw [c2, if_neg (by decide), if_neg (by decide)]
    have hn : ¬ (size = 1 ∨ size = 2 ∨ size = 4) := by simpa [rightB] using c1
    have g1 : (size != 1) = true := by simp; omega
    have g2 : (size != 2) = true := by simp; omega
    have g3 : (size != 4) = true := by simp; omega
    clear hcg hg c1 c2 k3 hn
    go_enter Try.func30, Try.ntmps30
    go_wp2_with fail
    go_ret3
    exact ⟨_, _, rfl, Fresh.nil _ w, Fresh.nil _ w, Upd.refl _ w⟩
  · rw [c2, if_neg (by decide), if_neg (by decide)]
    have hs : size = 1 ∨ size = 2 ∨ size = 4 := by simpa [rightB] using c1
    clear hcg hg c1 c2 k3
    rcases hs with rfl | rfl | rfl
    all_goals
      go_enter Try.func30, Try.ntmps30
      go_wp2_with fail
      go_ret3
      exact ⟨_, _, rfl, Fresh.nil _ w, Fresh.nil _ w, Upd.refl _ w⟩
  · rw [c2, if_neg (by decide), if_neg (by decide)]
    have hs : size = 1 ∨ size = 2 ∨ size = 4 := by simpa [rightB] using c1
    have e2 := (hcg c1).2 c3
    rw [e2] at hg
    generalize cutV bs size = V at hg c4
    generalize getE bs.length 0 size = GE at hg
    have hc9 : ¬ ((bs.length : Int) < size) := by omega
    have HG := Lib.hid hg
    clear hcg hg c1 c2 k3 e2
    rcases hs with rfl | rfl | rfl
    all_goals
      go_enter Try.func30, Try.ntmps30
      go_wp2_with fail
      refine HG.out.mono ?_
      rintro e w' ⟨rfl, rfl⟩
      go_wp2_with fail
      go_ret3
      exact ⟨_, _, rfl, Fresh.nil _ w, Fresh.nil _ w, Upd.refl _ w⟩
  · rw [c2, if_neg (by decide), if_neg (by decide)]
    have hs : size = 1 ∨ size = 2 ∨ size = 4 := by simpa [rightB] using c1
    have e2 := (hcg c1).2 c3
    have hv0 := cutV_nonneg bs size
    rw [e2] at hg
    generalize cutV bs size = V at hg c4 c5 hv0
    generalize getE bs.length 0 size = GE at hg
    have hc9 : ¬ ((bs.length : Int) < size) := by omega
    have hc8 : ¬ (65536 < V) := by omega
    have HG := Lib.hid hg
    clear hcg hg c1 c2 k3 e2
    rcases hs with rfl | rfl | rfl
    all_goals
      go_enter Try.func30, Try.ntmps30
      go_wp2_with fail
      refine HG.out.mono ?_
      rintro e w' ⟨rfl, rfl⟩
      go_wp2_with fail
      go_ret3
      exact ⟨_, _, rfl, Fresh.nil _ w, Fresh.nil _ w, Upd.refl _ w⟩
  · rw [c2, if_pos rfl, if_pos rfl]
    have hs : size = 1 ∨ size = 2 ∨ size = 4 := by simpa [rightB] using c1
    have e2 := (hcg c1).2 c3
    have hv0 := cutV_nonneg bs size
    rw [e2] at hg
    obtain ⟨m, rfl, hm⟩ : ∃ m : Nat, size = (m : Int) ∧ (m = 1 ∨ m = 2 ∨ m = 4) := by
      rcases hs with rfl | rfl | rfl
      · exact ⟨1, rfl, by simp⟩
      · exact ⟨2, rfl, by simp⟩
      · exact ⟨4, rfl, by simp⟩
    obtain ⟨V, hV⟩ : ∃ V : Nat, (V : Int) = cutV bs m := ⟨(cutV bs m).toNat, by omega⟩
    rw [← hV] at hg c4 c5 hv0 ⊢
    have c6 : ¬ (65536 : Int) < V := by omega
    have c7 : ¬ ((bs.length : Int) - (m : Int) < (V : Int)) := by omega
    have hs1 := (h.drop m (by omega)).take V (by omega)
    have hs2 := h.drop (m + V) (by omega)
    have e5 : (bs.drop m).take V = (bs.drop (m : Int).toNat).take (V : Int).toNat := by simp
    have e6 : bs.drop (m + V) = bs.drop ((m : Int) + (V : Int)).toNat := by rw [show ((m : Int) + (V : Int)).toNat = m + V by omega]
    rw [e5] at hs1
    rw [e6] at hs2
    have hmn : m + V ≤ bs.length := by omega
    obtain ⟨b, off, rfl, _⟩ : ∃ b off, A = some ⟨b, off, none⟩ ∧ True := by
      rcases k3 with k3 | ⟨b, off, k3, _⟩
      · rw [k3] at hmn; simp at hmn; omega
      · exact ⟨b, off, k3, trivial⟩
    have hX1 : ((bs.drop (m : Int).toNat).take (V : Int).toNat).length ≤ 140737488351232 := by simp; omega
    have hX2 : (bs.drop ((m : Int) + (V : Int)).toNat).length ≤ 140737488351232 := by simp; omega
    generalize (bs.drop (m : Int).toNat).take (V : Int).toNat = X1 at hs1 hX1 ⊢
    generalize bs.drop ((m : Int) + (V : Int)).toNat = X2 at hs2 hX2 ⊢
    generalize getE bs.length 0 m = GE at hg
    have hm0 : ¬ ((bs.length : Int) < (m : Int)) := by omega
    have HG := Lib.hid hg
    have H1 := Lib.hid hs1
    have H2 := Lib.hid hs2
    clear hcg hg c1 c2 k3 e2 hs hs1 hs2 e5 e6 hV h
    have hcc : (cap = m ∧ cap = m + V) ∨ (cap ≠ m ∧ cap = m + V) ∨ (cap ≠ m ∧ cap ≠ m + V) := by omega
    have hs1 := H1.out
    have hs2 := H2.out
    rcases hcc with ⟨hcm, hcv⟩ | ⟨hcm, hcv⟩ | ⟨hcm, hcv⟩
    · rw [if_pos hcm] at hs1
      rw [if_pos hcv] at hs2
      have hV0 : V = 0 := by omega
      subst hV0
      clear H1 H2 hcv
      subst hcm
      rcases hm with rfl | rfl | rfl
      all_goals
        go_enter Try.func30, Try.ntmps30
        go_wp2_with fail
        refine HG.out.mono ?_
        rintro e w' ⟨rfl, rfl⟩
        go_wp2_with
          (first
          | (at_builtin; refine wpl_append_bytes rfl (.tmp 40) (.tmp 47) 28 rfl Try.underlying28 li5 w.heap.size (.slice none 0 0) _ [] X1 X1 rfl rfl rfl (Fresh.nil _ _) (hs1.as (by simp [Act.eval]; try omega)) (Nat.le_refl _) (by simp; omega) ?_; intro v2 w2 hf2 hu2 hr2; have hs12 : Same w w2 := hu2.mono fun i _ hi => by simp [room] at hi)
          | (at_builtin; refine wpl_append_bytes rfl (.tmp 49) (.tmp 55) 28 rfl Try.underlying28 li5 w.heap.size (.slice none 0 0) _ [] X2 X2 rfl rfl rfl (Fresh.nil _ _) ((hs2.same hs12).as (by simp [Act.eval]; try omega)) hs12.size (by simp; omega) ?_; intro v3 w3 hf3 hu3 hr3))
        have hs23 : Same w2 w3 := hu3.mono fun i _ hi => by simp [room] at hi
        go_ret3
        exact ⟨_, _, rfl, hf2.same hs23, hf3, Same.trans hs12 hs23⟩
    · rw [if_neg hcm] at hs1
      rw [if_pos hcv] at hs2
      simp only [Option.map_some, Addr.add_lit] at hs1
      clear H1 H2
      subst hcv
      rcases hm with rfl | rfl | rfl
      all_goals
        go_enter Try.func30, Try.ntmps30
        go_wp2_with fail
        refine HG.out.mono ?_
        rintro e w' ⟨rfl, rfl⟩
        go_wp2_with
          (first
          | (at_builtin; refine wpl_append_bytes rfl (.tmp 40) (.tmp 47) 28 rfl Try.underlying28 li5 w.heap.size (.slice none 0 0) _ [] X1 X1 rfl rfl rfl (Fresh.nil _ _) (hs1.as (by simp [Act.eval]; try omega)) (Nat.le_refl _) (by simp; omega) ?_; intro v2 w2 hf2 hu2 hr2; have hs12 : Same w w2 := hu2.mono fun i _ hi => by simp [room] at hi)
          | (at_builtin; refine wpl_append_bytes rfl (.tmp 49) (.tmp 55) 28 rfl Try.underlying28 li5 w.heap.size (.slice none 0 0) _ [] X2 X2 rfl rfl rfl (Fresh.nil _ _) ((hs2.same hs12).as (by simp [Act.eval]; try omega)) hs12.size (by simp; omega) ?_; intro v3 w3 hf3 hu3 hr3))
        have hs23 : Same w2 w3 := hu3.mono fun i _ hi => by simp [room] at hi
        go_ret3
        exact ⟨_, _, rfl, hf2.same hs23, hf3, Same.trans hs12 hs23⟩
    · rw [if_neg hcm] at hs1
      rw [if_neg hcv] at hs2
      simp only [Option.map_some, Addr.add_lit] at hs1 hs2
      clear H1 H2
      rcases hm with rfl | rfl | rfl
      all_goals
        go_enter Try.func30, Try.ntmps30
        go_wp2_with fail
        refine HG.out.mono ?_
        rintro e w' ⟨rfl, rfl⟩
        go_wp2_with
          (first
          | (at_builtin; refine wpl_append_bytes rfl (.tmp 40) (.tmp 47) 28 rfl Try.underlying28 li5 w.heap.size (.slice none 0 0) _ [] X1 X1 rfl rfl rfl (Fresh.nil _ _) (hs1.as (by simp [Act.eval]; try omega)) (Nat.le_refl _) (by simp; omega) ?_; intro v2 w2 hf2 hu2 hr2; have hs12 : Same w w2 := hu2.mono fun i _ hi => by simp [room] at hi)
          | (at_builtin; refine wpl_append_bytes rfl (.tmp 49) (.tmp 55) 28 rfl Try.underlying28 li5 w.heap.size (.slice none 0 0) _ [] X2 X2 rfl rfl rfl (Fresh.nil _ _) ((hs2.same hs12).as (by simp [Act.eval]; try omega)) hs12.size (by simp; omega) ?_; intro v3 w3 hf3 hu3 hr3))
        have hs23 : Same w2 w3 := hu3.mono fun i _ hi => by simp [room] at hi
        go_ret3
        exact ⟨_, _, rfl, hf2.same hs23, hf3, Same.trans hs12 hs23⟩
end Go.Proofs.Ytgfdadbgbdcehaa
