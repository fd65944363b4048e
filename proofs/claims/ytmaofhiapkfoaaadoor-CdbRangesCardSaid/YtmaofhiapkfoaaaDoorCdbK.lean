/- The law's known, given and taken. -/
import Derived.Test.YtmaofhiapkfoaaaDoorCdbP
namespace Go.Proofs.YtmaofhiapkfoaaaDoor
open Go.RowKit
set_option linter.unusedVariables false
set_option linter.unusedSimpArgs false
set_option maxRecDepth 20000
def knB : List UInt8 := [40, 0, 0, 0, 0, 5, 0, 0, 2, 0, 0, 0, 0, 0, 0, 0]
def knB1 : List UInt8 := [40, 1, 0, 0, 0, 5, 0, 0, 2, 0, 0, 0, 0, 0, 0, 0]
theorem knE : parseE knB = 0 := by kernel_rfl
theorem knC : parseC knB = ⟨40, 0, 0, false, 0, 5, 2⟩ := by kernel_rfl
theorem knE1 : parseE knB1 = 11 := by kernel_rfl
theorem knI : inN ⟨40, 0, 0, false, 0, 5, 2⟩ = 128 := by kernel_rfl
def knV : Array Value := #[.int .u8 40, .int .u8 0, .int .u8 0, .int .u8 0, .int .u8 0, .int .u8 5, .int .u8 0, .int .u8 0, .int .u8 2, .int .u8 0, .int .u8 0, .int .u8 0, .int .u8 0, .int .u8 0, .int .u8 0, .int .u8 0]
theorem known_any (w : World) (hT : Tab15 w) : Calls Tryd.prog 11 #[] w fun e w' => e = .returned (.bool true) ∧ Same w w' := by
  have hf := Own.lit w knV 5 (knB.map B) w.heap.size 16 16 1 w.heap.size rfl (by omega) (fun j u hj => by
    obtain ⟨hj', rfl⟩ := B_get hj
    have : j < 16 := hj'
    rcases (show j = 0 ∨ j = 1 ∨ j = 2 ∨ j = 3 ∨ j = 4 ∨ j = 5 ∨ j = 6 ∨ j = 7 ∨ j = 8 ∨ j = 9 ∨ j = 10 ∨ j = 11 ∨ j = 12 ∨ j = 13 ∨ j = 14 ∨ j = 15 by omega) with rfl | rfl | rfl | rfl | rfl | rfl | rfl | rfl | rfl | rfl | rfl | rfl | rfl | rfl | rfl | rfl <;> rfl) (by simp [knB]) (by omega) (by omega) rfl
  have hf : Fresh w.heap.size (w.alloc (.cells knV 5)) (.slice (some ⟨w.heap.size, 0, none⟩) 16 16) knB := hf
  have hp1 := fun v W h hT => parse_any v knB W h (by decide) hT
  rw [knE, knC] at hp1
  have hp2 := fun v W h hT => parse_any v knB1 W h (by decide) hT
  rw [knE1] at hp2
  have hin := fun W => in_any ⟨40, 0, 0, false, 0, 5, 2⟩ W (by unfold Cmd.ok; simp)
  rw [knI] at hin
  simp only [Cmd.cells] at hp1 hin
  generalize hz : parseC knB1 = Z at hp2
  have hzc : Z.cells = #[.int .i64 0, .int .i64 0, .int .i64 0, .bool false, .int .i64 0, .int .u64 0, .int .i64 0] := by rw [← hz]; kernel_rfl
  rw [hzc] at hp2
  have HF := Lib.hid hf
  have HP1 := Lib.hid hp1
  have HP2 := Lib.hid hp2
  have HIN := Lib.hid hin
  have HT := Lib.hid hT
  clear hf hp1 hp2 hin hz hzc hT
  unfold knV at HF
  go_enter Tryd.func11, Tryd.ntmps11
  go_wp2_with fail
  refine (HP1.out _ _ HF.out.bs (HT.out.same ((Upd.refl _ w).alloc _))).mono ?_
  rintro e w1 ⟨rfl, hs1⟩
  have hf1 := HF.out.same hs1
  obtain ⟨c1, c2⟩ := Fresh.at_ hf1 1 (by decide)
  obtain ⟨f1, f2, f3⟩ := Fresh.set hf1 1 (by decide) 1 1 (by decide)
  simp only [Nat.zero_add] at c1 c2 f1 f2
  rw [show knB.set 1 1 = knB1 from rfl] at f1
  rw [show at8 knB 1 = 0 from rfl] at c1
  have hz1 : w.heap.size < w1.heap.size := by have := hs1.size; simp at this; omega
  have HS1 := Lib.hid hs1
  have HF1 := Lib.hid f1
  have HU1 := Lib.hid f2
  clear hf1 hs1 f1 f2 f3
  go_wp2_with fail
  have hs2 : Same (w1.setCell ⟨w.heap.size, 1, none⟩ (.int .u8 1)) ((w1.setCell ⟨w.heap.size, 1, none⟩ (.int .u8 1)).alloc (.cells #[.int .i64 40, .int .i64 0, .int .i64 0, .bool false, .int .i64 0, .int .u64 5, .int .i64 2] 29)) := (Upd.refl _ _).alloc _
  have hs0 : Same w (w1.setCell ⟨w.heap.size, 1, none⟩ (.int .u8 1)) := (Same.trans ((Upd.refl (fun _ => False) w).alloc _) HS1.out).setCell (p := ⟨w.heap.size, 1, none⟩) (fun h => Nat.lt_irrefl _ h) _
  refine (HP2.out _ _ (HF1.out.same hs2).bs (HT.out.same (Same.trans hs0 hs2))).mono ?_
  rintro e w2 ⟨rfl, hs3⟩
  obtain ⟨q0, q1, q2, q3, q4, q5, q6⟩ := box7 _ 29 _ _ _ _ _ _ _ w2 hs3
  simp only [World.size_setCell] at q0 q1 q2 q3 q4 q5 q6
  have hs4 := Same.trans (Same.trans hs0 hs2) hs3
  have hz2 : w1.heap.size < w2.heap.size := by have := hs3.size; simp at this; omega
  have HS4 := Lib.hid hs4
  clear hs0 hs2 hs3 hs4
  go_wp2_with fail
  refine (HIN.out _).mono ?_
  rintro e w3 ⟨rfl, hs5⟩
  have HS5 := Lib.hid hs5
  clear hs5
  go_wp2_with fail
  go_ret
  exact ⟨rfl, Same.trans (HS4.out.alloc _) HS5.out⟩
end Go.Proofs.YtmaofhiapkfoaaaDoor
