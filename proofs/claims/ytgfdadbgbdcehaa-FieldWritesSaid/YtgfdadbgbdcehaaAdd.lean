/- What field.Add and the reference's compute: bytes behind others with their length ahead. -/
import Derived.Test.YtgfdadbgbdcehaaConcat
import Derived.Test.YtgfdadbgbdcehaaFieldR
namespace Go.Proofs.Ytgfdadbgbdcehaa
open Go.RowKit
set_option linter.unusedVariables false
set_option linter.unusedSimpArgs false

def rightB (size : Int) : Bool := decide (size = 1 ∨ size = 2 ∨ size = 4)
def addOk (size : Int) (n : Nat) : Bool := decide (n ≤ 65536) && fitsB n size
def addL (bs : List UInt8) (size : Int) (ps : List UInt8) : List UInt8 := if rightB size then (if addOk size ps.length then bs ++ numB ps.length size.toNat ++ ps else []) else []
def addE (size : Int) (n : Nat) : Int := if rightB size then (if addOk size n then 0 else 3) else 1
theorem right_any (size : Int) (w : World) :
    Calls Try.prog 55 #[.int .i64 size] w fun e w' => e = .returned (.bool (rightB size)) ∧ w = w' := by
  unfold rightB
  by_cases h1 : size = 1
  · subst h1
    go_enter Try.func55, Try.ntmps55
    go_wp2
    go_ret
    exact ⟨rfl, rfl⟩
  · by_cases h2 : size = 2
    · subst h2
      go_enter Try.func55, Try.ntmps55
      go_wp2
      go_ret
      exact ⟨rfl, rfl⟩
    · by_cases h3 : size = 4
      · subst h3
        go_enter Try.func55, Try.ntmps55
        go_wp2
        go_ret
        exact ⟨rfl, rfl⟩
      · have g1 : (size == 1) = false := by simpa using h1
        have g2 : (size == 2) = false := by simpa using h2
        have g3 : (size == 4) = false := by simpa using h3
        go_enter Try.func55, Try.ntmps55
        go_wp2
        go_ret
        exact ⟨ret_bool (by simp [h1, h2, h3]), rfl⟩
theorem Rdr.lit (w : World) (C : Array Value) (t : TypeId) (g n : Nat) (hg : g = w.heap.size) (hs : C.size = n) (hn : n ≤ 9223372036854775807) : Rdr (w.alloc (.cells C t)) (.slice (some ⟨g, 0, none⟩) n n) 1 C.toList :=
  (Own.lit w C t C.toList g n n 1 0 hg (Nat.zero_le _) (fun j u h => by simpa using h) (by simpa using hs) (Nat.le_refl _) hn (by omega)).rdr
/-- field.Add. -/
theorem add_bs (v u : Value) (bs ps : List UInt8) (size : Int) (w : World) (h : Bs w v bs) (hu : Bs w u ps) (hl : bs.length ≤ 140737488351232) (hl2 : ps.length ≤ 140737488351232) :
    Calls Try.prog 27 #[v, .int .i64 size, u] w fun e w' => ∃ v', e = .returned (.tuple #[v', .int .i64 (addE size ps.length)]) ∧ Fresh w.heap.size w' v' (addL bs size ps) ∧ Same w w' := by
  have hr := right_any size w
  obtain ⟨A, cap, rfl, k1, k2, k3⟩ := id hu
  cases ht : rightB size with
  | false =>
    rw [ht] at hr
    have hE : addE size ps.length = 1 := by unfold addE; rw [ht]; rfl
    have hL : addL bs size ps = [] := by unfold addL; rw [ht]; rfl
    rw [hE, hL]
    clear k3
    go_enter Try.func27, Try.ntmps27
    go_wp2_with fail
    refine hr.mono ?_
    rintro e w' ⟨rfl, rfl⟩
    go_wp2
    go_ret2
    exact ⟨_, rfl, Fresh.nil _ w, Upd.refl _ w⟩
  | true =>
    rw [ht] at hr
    have hs : size = 1 ∨ size = 2 ∨ size = 4 := by simpa [rightB] using ht
    have hfi := fits_any ps.length size w (by omega) (by omega) (by omega) (by omega)
    cases ho : addOk size ps.length with
    | false =>
      have hE : addE size ps.length = 3 := by unfold addE; rw [ht, ho]; rfl
      have hL : addL bs size ps = [] := by unfold addL; rw [ht, ho]; rfl
      rw [hE, hL]
      clear hE hL k3 ht
      by_cases hc : (65536 : Int) < ps.length
      · clear ho hfi
        go_enter Try.func27, Try.ntmps27
        go_wp2_with fail
        refine hr.mono ?_
        rintro e w' ⟨rfl, rfl⟩
        go_wp2_with fail
        go_ret2
        exact ⟨_, rfl, Fresh.nil _ w, Upd.refl _ w⟩
      · have hf : fitsB ps.length size = false := by
          simp only [addOk, Bool.and_eq_false_iff, decide_eq_false_iff_not] at ho
          rcases ho with ho | ho
          · omega
          · exact ho
        rw [hf] at hfi
        clear ho hf
        go_enter Try.func27, Try.ntmps27
        go_wp2_with fail
        refine hr.mono ?_
        rintro e w' ⟨rfl, rfl⟩
        go_wp2_with fail
        refine hfi.mono ?_
        rintro e w' ⟨rfl, rfl⟩
        go_wp2_with fail
        go_ret2
        exact ⟨_, rfl, Fresh.nil _ w, Upd.refl _ w⟩
    | true =>
      have hE : addE size ps.length = 0 := by unfold addE; rw [ht, ho]; rfl
      have hL : addL bs size ps = bs ++ numB ps.length size.toNat ++ ps := by unfold addL; rw [ht, ho]; rfl
      rw [hE, hL]
      have hf : ps.length ≤ 65536 ∧ fitsB ps.length size = true := by simpa [addOk] using ho
      rw [hf.2] at hfi
      have hc : ¬ (65536 : Int) < ps.length := by omega
      obtain ⟨m, q, rfl, hq, hm1⟩ : ∃ m q : Nat, size = (m : Int) ∧ q + m = 8 ∧ 1 ≤ m := by
        rcases hs with rfl | rfl | rfl
        · exact ⟨1, 7, rfl, rfl, by decide⟩
        · exact ⟨2, 6, rfl, rfl, by decide⟩
        · exact ⟨4, 4, rfl, rfl, by decide⟩
      obtain ⟨A0, cap0, rfl, _, _, _⟩ := id h
      have g1 : (8 : Int) - (m : Int) = (q : Int) := by omega
      have HF := Lib.hid hfi
      have HR := Lib.hid hr
      have HB := Lib.hid h
      have HU := Lib.hid hu
      have HQ := Lib.hid hq
      have hm8 : (m : Int) ≤ 8 := by omega
      have hq8 : (q : Int) ≤ 8 := by omega
      have hf1 := hf.1
      have q3 : ¬ q = 8 := by omega
      have q4 : ¬ 8 = q := by omega
      clear hE hL ho hf hs ht k3 hfi hr h hu hq
      go_enter Try.func27, Try.ntmps27
      go_wp2_with fail
      refine HR.out.mono ?_
      rintro e w' ⟨rfl, rfl⟩
      go_wp2_with fail
      refine HF.out.mono ?_
      rintro e w' ⟨rfl, rfl⟩
      go_wp2_with fail
      refine (number_any ps.length _ (by omega) (by omega)).mono ?_
      rintro e w2 ⟨rfl, hs2⟩
      simp only [numArr]
      go_wp2_with fail
      have hwa := ((Upd.refl _ w2).alloc (S := fun _ => False) (.cells (numArr ps.length) 71))
      refine (concat_bs _ [(.slice A0 bs.length cap0, bs), (.slice (some ⟨w2.heap.size, q, none⟩) (8 - q) (8 - q), numB ps.length m), (.slice A ps.length cap, ps)] _ ⟨?_, fun p hp => ?_⟩ ?_).mono ?_
      · exact Rdr.lit _ _ _ _ 3 (by simp) rfl (by decide)
      · simp only [List.mem_cons, List.not_mem_nil, or_false] at hp
        rcases hp with rfl | rfl | rfl
        · exact ((HB.out.same hs2).same hwa).same ((Upd.refl _ _).alloc _)
        · exact (Bs.num8 w2 ps.length 71 _ q m rfl HQ.out hm1 (by omega) (by omega)).same ((Upd.refl _ _).alloc _)
        · exact ((HU.out.same hs2).same hwa).same ((Upd.refl _ _).alloc _)
      · simp [lenL, numB_length]
        omega
      · rintro e w3 ⟨v3, rfl, hf3, hs3⟩
        have hs4 := Same.trans (Same.trans (Same.trans hs2 hwa) ((Upd.refl _ _).alloc _)) hs3
        have hf4 := hf3.mono (base' := w.heap.size) (by have := hs2.size; simp; omega)
        have HF4 := Lib.hid hf4
        clear hf3 hf4 hwa hs3
        go_wp2_with fail
        go_ret2
        refine ⟨_, rfl, ?_, hs4⟩
        have := HF4.out
        rw [Int.toNat_natCast]
        simpa [joinL] using this
end Go.Proofs.Ytgfdadbgbdcehaa
