/- What the reference's Add computes. -/
import Derived.Test.YtgfdadbgbdcehaaAdd
namespace Go.Proofs.Ytgfdadbgbdcehaa
open Go.RowKit
set_option linter.unusedVariables false
set_option linter.unusedSimpArgs false

theorem putL_zeros (m : Nat) (n : Int) (h1 : 1 ≤ m) (h2 : m ≤ 8) (h3 : fitsB n m = true) : putL (List.replicate m 0) 0 m n = numB n m := by
  have ht : thereB (List.replicate m (0 : UInt8)).length 0 m = true := by simp [thereB]; omega
  unfold putL
  rw [ht, h3]
  simp
def zerosN (m : Nat) : Array Value := madeCells #[.int .u8 0] m
theorem radd_bs (v u : Value) (bs ps : List UInt8) (size : Int) (w : World) (h : Bs w v bs) (hu : Bs w u ps) (hl : bs.length ≤ 140737488351232) (hl2 : ps.length ≤ 140737488351232) :
    Calls Try.prog 28 #[v, .int .i64 size, u] w fun e w' => ∃ v', e = .returned (.tuple #[v', .int .i64 (addE size ps.length)]) ∧ Fresh w.heap.size w' v' (addL bs size ps) ∧ Same w w' := by
  obtain ⟨A, cap, rfl, k1, k2, k3⟩ := id hu
  cases ht : rightB size with
  | false =>
    have hE : addE size ps.length = 1 := by unfold addE; rw [ht]; rfl
    have hL : addL bs size ps = [] := by unfold addL; rw [ht]; rfl
    rw [hE, hL]
    have hn : ¬ (size = 1 ∨ size = 2 ∨ size = 4) := by simpa [rightB] using ht
    have g1 : (size != 1) = true := by simp; omega
    have g2 : (size != 2) = true := by simp; omega
    have g3 : (size != 4) = true := by simp; omega
    clear k3 ht hE hL hn
    go_enter Try.func28, Try.ntmps28
    go_wp2
    go_ret2
    exact ⟨_, rfl, Fresh.nil _ w, Upd.refl _ w⟩
  | true =>
    have hs : size = 1 ∨ size = 2 ∨ size = 4 := by simpa [rightB] using ht
    have hfi := rfits_any ps.length size w (by omega) (by omega) (by omega) (by omega)
    cases ho : addOk size ps.length with
    | false =>
      have hE : addE size ps.length = 3 := by unfold addE; rw [ht, ho]; rfl
      have hL : addL bs size ps = [] := by unfold addL; rw [ht, ho]; rfl
      rw [hE, hL]
      clear hE hL k3 ht
      by_cases hc : (65536 : Int) < ps.length
      · clear ho hfi
        rcases hs with rfl | rfl | rfl
        all_goals
          go_enter Try.func28, Try.ntmps28
          go_wp2_with fail
          go_ret2
          exact ⟨_, rfl, Fresh.nil _ w, Upd.refl _ w⟩
      · have hf : fitsB ps.length size = false := by
          simp only [addOk, Bool.and_eq_false_iff, decide_eq_false_iff_not] at ho
          rcases ho with ho | ho
          · omega
          · exact ho
        rw [hf] at hfi
        clear ho hf
        rcases hs with rfl | rfl | rfl
        all_goals
          go_enter Try.func28, Try.ntmps28
          go_wp2_with fail
          refine hfi.mono ?_
          rintro e w' ⟨rfl, rfl⟩
          go_wp2_with fail
          go_ret2
          exact ⟨_, rfl, Fresh.nil _ w, Upd.refl _ w⟩
    | true =>
      have hE : addE size ps.length = 0 := by unfold addE; rw [ht, ho]; rfl
      have hL : addL bs size ps = bs ++ numB ps.length size.toNat ++ ps := by unfold addL; rw [ht, ho]; rfl
      rw [hE, hL]
      have hf : ps.length ≤ 65536 ∧ fitsB ps.length size = true := by simpa [addOk] using ho
      rw [hf.2] at hfi
      have hc : ¬ (65536 : Int) < ps.length := by omega
      obtain ⟨m, rfl, hm⟩ : ∃ m : Nat, size = (m : Int) ∧ (m = 1 ∨ m = 2 ∨ m = 4) := by
        rcases hs with rfl | rfl | rfl
        · exact ⟨1, rfl, by simp⟩
        · exact ⟨2, rfl, by simp⟩
        · exact ⟨4, rfl, by simp⟩
      have hz := putL_zeros m ps.length (by omega) (by omega) hf.2
      have hmk : ∀ m : Nat, m ≤ 8 → ∀ w, (Instr.makeSlice 28 (.int .i64 m) (.int .i64 m)).run Try.prog w = .ok (.slice (some ⟨w.heap.size, 0, none⟩) m m) (w.alloc (.cells (zerosN m) 5)) :=
        fun m hm w => make_bytes 28 5 Try.underlying28 (by kernel_rfl) m (by omega) w
      have hmk1 := hmk 1 (by decide)
      have hmk2 := hmk 2 (by decide)
      have hmk4 := hmk 4 (by decide)
      rw [show ((1 : Nat) : Int) = 1 from rfl] at hmk1; rw [show ((2 : Nat) : Int) = 2 from rfl] at hmk2; rw [show ((4 : Nat) : Int) = 4 from rfl] at hmk4
      obtain ⟨A0, cap0, rfl, _, _, _⟩ := id h
      have hp := rput_bs (.slice (some ⟨w.heap.size, 0, none⟩) m m) (List.replicate m 0) 0 m ps.length (w.alloc (.cells (zerosN m) 5))
        (Bs.lit _ (zerosN m) _ _ _ _ _ _ rfl (fun j hj => made_at m j (by simpa using hj)) (by simp) (Nat.le_refl _) (by omega)) (by simp; omega) (by decide) (by decide) (by omega) (by omega) (by omega) (by omega)
      rw [hz] at hp
      generalize putE (List.replicate m (0 : UInt8)).length 0 m ps.length = PE at hp
      have HP := Lib.hid hp
      have HF := Lib.hid hfi
      have HB := Lib.hid h
      have HU := Lib.hid hu
      have hf1 := hf.1
      have gm : ((m : Int) != 1 && (m : Int) != 2 && (m : Int) != 4) = false := by rcases hm with rfl | rfl | rfl <;> rfl
      clear hE hL ho hf hs ht k3 hfi h hu hz hp gm hmk
      rcases hm with rfl | rfl | rfl
      all_goals
        go_enter Try.func28, Try.ntmps28
        go_wp2_with fail
        refine HF.out.mono ?_
        rintro e w' ⟨rfl, rfl⟩
        go_wp2_with fail
        refine HP.out.mono ?_
        rintro e w1 ⟨v1, rfl, hf1, hs1⟩
        have hs01 : Same w w1 := Same.trans ((Upd.refl _ w).alloc _) hs1
        have HF1 := Lib.hid hf1
        have hl1 := hs01.size
        clear hf1
        go_wp2_with
          (first
          | (at_builtin; refine wpl_append_bytes rfl (.tmp 42) (.tmp 43) 28 rfl Try.underlying28 li5 w.heap.size (.slice none 0 0) (.slice A0 bs.length cap0) [] bs bs rfl rfl rfl (Fresh.nil _ _) (HB.out.same hs01) hl1 (by simp; omega) ?_; intro v2 w2 hf2 hu2 hr2; have hs12 : Same w1 w2 := hu2.mono fun i _ hi => by simp [room] at hi)
          | (at_builtin; refine wpl_append_bytes rfl (.tmp 45) (.tmp 46) 28 rfl Try.underlying28 li5 w.heap.size v2 v1 bs (numB ps.length _) _ rfl rfl rfl hf2 (HF1.out.bs.same hs12) (by have := hs12.size; omega) (by rw [numB_length]; omega) ?_; intro v3 w3 hf3 hu3 hr3; have hs03 := Same.row (Same.trans hs01 hs12) hf2 hu3)
          | (at_builtin; refine wpl_append_bytes rfl (.tmp 48) (.tmp 49) 28 rfl Try.underlying28 li5 w.heap.size v3 (.slice A ps.length cap) _ ps _ rfl rfl rfl hf3 (HU.out.same hs03) hs03.size (by rw [List.length_append, numB_length]; omega) ?_; intro v4 w4 hf4 hu4 hr4))
        go_ret2
        exact ⟨_, rfl, hf4, Same.row hs03 hf3 hu4⟩
end Go.Proofs.Ytgfdadbgbdcehaa
