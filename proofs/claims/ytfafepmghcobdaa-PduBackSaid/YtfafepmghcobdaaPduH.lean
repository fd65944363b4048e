/- Letters (chapter 17): the program's head. -/
import Derived.Test.YtfafepmghcobdaaGb
namespace Go.Proofs.Ytfafepmghcobdaa
open Go.RowKit
set_option linter.unusedVariables false
set_option linter.unusedSimpArgs false
set_option maxRecDepth 20000
set_option maxHeartbeats 4000000
theorem head_any (p : Pd) (A : Option Addr) (cap : Nat) (hok : p.ok) (hf : p.fits = true) (hl : p.data.length ≤ 65536) (w : World) :
    Calls Try.prog 33 #[pdA p (.slice A p.data.length cap)] w fun e w' => ∃ v', e = .returned v' ∧ Fresh w.heap.size w' v' (headL p) ∧ Same w w' := by
  obtain ⟨hlun, htask, hw7, hw⟩ := hok
  unfold Pd.fits at hf
  obtain ⟨f1, f2, f3, f4⟩ := of_decide_eq_true hf
  clear hf
  have hnow := or64 p.op f1
  have HF := Lib.hid (And.intro f1 (And.intro f2 (And.intro f3 f4)))
  clear f1 f2 f3 f4
  unfold pdA
  go_enter Try.func33, Try.ntmps33
  go_wp2_with fail
  show Calls Try.prog _ _ (w.alloc (.cells (pdC p (.slice A p.data.length cap)).toArray 40)) _
  have hbx0 := BoxAt.new w p (.slice A p.data.length cap) 40
  have hs0 : Same w (w.alloc (.cells (pdC p (.slice A p.data.length cap)).toArray 40)) := (Upd.refl _ w).alloc _
  have hz0 : (w.alloc (.cells (pdC p (.slice A p.data.length cap)).toArray 40)).heap.size = w.heap.size + 1 := by simp
  generalize w.alloc (.cells (pdC p (.slice A p.data.length cap)).toArray 40) = w0 at hbx0 hs0 hz0 ⊢
  refine (newWriter_any _).mono ?_
  rintro e w1 ⟨rfl, ho1, hs1⟩
  have hbx := hbx0.same hs1
  have hwp : WP w w1 w0.heap.size w0.heap.size [] := ⟨⟨_, ho1⟩, Same.trans hs0 hs1, by omega, hs1.size⟩
  have hlt : w.heap.size < w0.heap.size := by omega
  generalize w0.heap.size = B at hwp hlt ⊢
  have HBX := Lib.hid hbx
  have HWP := Lib.hid hwp
  clear hbx0 hs0 hz0 ho1 hs1 hbx hwp
  have c0 := HBX.out 0 _ rfl
  have c1 := HBX.out 1 _ rfl
  have c2 := HBX.out 2 _ rfl
  have c3 := HBX.out 3 _ rfl
  have c4 := HBX.out 4 _ rfl
  have hfp : firstP p = p.op + if p.now then 64 else 0 := rfl
  have hF0 : 0 ≤ firstP p ∧ firstP p ≤ 255 := by have := HF.out.1; unfold firstP; split <;> omega
  have HF0 := Lib.hid hF0
  have HW7 := Lib.hid hw7
  have HWR : Hid (∀ i, i < 7 → 0 ≤ wd p i ∧ wd p i ≤ 4294967295) := fun i hi => wd_range hw7 hw hi
  have HEAD := Lib.hid (head_bytes p hw7)
  clear hw7 hw
  by_cases hn : p.now = true
  · rw [hn] at c1 hfp
    have hfp2 : p.op + 64 = firstP p := by rw [hfp]; rfl
    rw [hfp2] at hnow
    clear hfp hfp2 hF0 c1
    have c1 := HBX.out 1 _ rfl
    rw [hn] at c1
    go_wp2_with fail
    go_loopw [26] (fun v26 wr => ∃ i : Nat, i ≤ 4 ∧ v26 = .int .i64 i ∧ Hid (WP w wr B B (((hd4 p).take i).flatMap fun n => numB n 1) ∧ BoxAt wr w.heap.size p (.slice A p.data.length cap))) (fun v26 _ => 4 - (intOf v26).toNat)
    case atStart => exact ⟨0, by omega, rfl, HWP.out, HBX.out⟩
    case round =>
      obtain ⟨i, hi, rfl, hin⟩ := hrel
      rcases (show i = 0 ∨ i = 1 ∨ i = 2 ∨ i = 3 ∨ i = 4 by omega) with rfl | rfl | rfl | rfl | rfl
      · have ix : ∀ W, (Instr.index 95 (.agg #[.int .i64 (firstP p), .int .i64 p.flags, .int .i64 p.b2, .int .i64 p.b3]) (.int .i64 0)).run Try.prog W = .ok (.int .i64 (firstP p)) W := fun W => by kernel_rfl
        go_wp2_with fail
        refine (wn1 hin.out.1 (firstP p) (by rw [ones_length]; simp [hd4]) HF0.out).mono ?_
        rintro e w2 ⟨rfl, hwp2, hlow⟩
        have HQ : Hid (WP w w2 B B (((hd4 p).take 1).flatMap fun n => numB n 1) ∧ BoxAt w2 w.heap.size p (.slice A p.data.length cap)) := ⟨by simpa [hd4] using hwp2, hin.out.2.low hlt hlow⟩
        clear hwp2 hlow
        go_wp2_with fail
        refine ⟨?_, ?_⟩
        · exact ⟨1, by omega, rfl, HQ⟩
        · simp [intOf]
      · have ix : ∀ W, (Instr.index 95 (.agg #[.int .i64 (firstP p), .int .i64 p.flags, .int .i64 p.b2, .int .i64 p.b3]) (.int .i64 1)).run Try.prog W = .ok (.int .i64 (p.flags)) W := fun W => by kernel_rfl
        go_wp2_with fail
        refine (wn1 hin.out.1 (p.flags) (by rw [ones_length]; simp [hd4]) HF.out.2.1).mono ?_
        rintro e w2 ⟨rfl, hwp2, hlow⟩
        have HQ : Hid (WP w w2 B B (((hd4 p).take 2).flatMap fun n => numB n 1) ∧ BoxAt w2 w.heap.size p (.slice A p.data.length cap)) := ⟨by simpa [hd4] using hwp2, hin.out.2.low hlt hlow⟩
        clear hwp2 hlow
        go_wp2_with fail
        refine ⟨?_, ?_⟩
        · exact ⟨2, by omega, rfl, HQ⟩
        · simp [intOf]
      · have ix : ∀ W, (Instr.index 95 (.agg #[.int .i64 (firstP p), .int .i64 p.flags, .int .i64 p.b2, .int .i64 p.b3]) (.int .i64 2)).run Try.prog W = .ok (.int .i64 (p.b2)) W := fun W => by kernel_rfl
        go_wp2_with fail
        refine (wn1 hin.out.1 (p.b2) (by rw [ones_length]; simp [hd4]) HF.out.2.2.1).mono ?_
        rintro e w2 ⟨rfl, hwp2, hlow⟩
        have HQ : Hid (WP w w2 B B (((hd4 p).take 3).flatMap fun n => numB n 1) ∧ BoxAt w2 w.heap.size p (.slice A p.data.length cap)) := ⟨by simpa [hd4] using hwp2, hin.out.2.low hlt hlow⟩
        clear hwp2 hlow
        go_wp2_with fail
        refine ⟨?_, ?_⟩
        · exact ⟨3, by omega, rfl, HQ⟩
        · simp [intOf]
      · have ix : ∀ W, (Instr.index 95 (.agg #[.int .i64 (firstP p), .int .i64 p.flags, .int .i64 p.b2, .int .i64 p.b3]) (.int .i64 3)).run Try.prog W = .ok (.int .i64 (p.b3)) W := fun W => by kernel_rfl
        go_wp2_with fail
        refine (wn1 hin.out.1 (p.b3) (by rw [ones_length]; simp [hd4]) HF.out.2.2.2).mono ?_
        rintro e w2 ⟨rfl, hwp2, hlow⟩
        have HQ : Hid (WP w w2 B B (((hd4 p).take 4).flatMap fun n => numB n 1) ∧ BoxAt w2 w.heap.size p (.slice A p.data.length cap)) := ⟨by simpa [hd4] using hwp2, hin.out.2.low hlt hlow⟩
        clear hwp2 hlow
        go_wp2_with fail
        refine ⟨?_, ?_⟩
        · exact ⟨4, by omega, rfl, HQ⟩
        · simp [intOf]
      · have HW := Lib.hid hin.out.1
        have c14 := hin.out.2 14 _ rfl
        have HB := Lib.hid hin.out.2
        clear hin
        have hlen : (((hd4 p).take 4).flatMap fun n => numB n 1).length = 4 := by rw [ones_length]; rfl
        generalize (((hd4 p).take 4).flatMap fun n => numB n 1) = Z0 at HW hlen HEAD
        have HZ := Lib.hid hlen
        clear hlen
        go_wp2_with fail
        refine (wn4 HW.out (p.data.length : Int) (by have := HZ.out; omega) (by omega)).mono ?_
        rintro e w2 ⟨rfl, hwp2, hlow⟩
        have HW2 := Lib.hid hwp2
        have HB2 := Lib.hid (HB.out.low hlt hlow)
        clear hwp2 hlow HW HB c14
        have c5 := HB2.out 5 _ rfl
        have hlw : IntKind.i64.wrap p.lun = wrap64 p.lun := by rw [IntKind.wrap_i64]; unfold wrap64; omega
        go_wp2_with fail
        refine (wn8 HW2.out (wrap64 p.lun) (by have := HZ.out; simp [numB_length]; omega) (by unfold wrap64; omega)).mono ?_
        rintro e w3 ⟨rfl, hwp3, hlow⟩
        have HW3 := Lib.hid hwp3
        have HB3 := Lib.hid (HB2.out.low hlt hlow)
        clear hwp3 hlow HW2 HB2 c5 hlw
        have c6 := HB3.out 6 _ rfl
        go_wp2_with fail
        refine (wn4 HW3.out p.task (by have := HZ.out; simp [numB_length]; omega) htask).mono ?_
        rintro e w4 ⟨rfl, hwp4, hlow⟩
        have HW4 := Lib.hid hwp4
        have HB4 := Lib.hid (HB3.out.low hlt hlow)
        clear hwp4 hlow HW3 HB3 c6
        have c7 := HB4.out 7 _ rfl
        have c8 := HB4.out 8 _ rfl
        have c9 := HB4.out 9 _ rfl
        have c10 := HB4.out 10 _ rfl
        have c11 := HB4.out 11 _ rfl
        have c12 := HB4.out 12 _ rfl
        have c13 := HB4.out 13 _ rfl
        have hz4 : (Z0 ++ numB (p.data.length : Int) 4 ++ numB (wrap64 p.lun) 8 ++ numB p.task 4).length = 20 := by have := HZ.out; simp [numB_length]; omega
        obtain ⟨Z1, hZ1⟩ : ∃ Z1, Z1 = Z0 ++ numB (p.data.length : Int) 4 ++ numB (wrap64 p.lun) 8 ++ numB p.task 4 := ⟨_, rfl⟩
        rw [← hZ1] at HW4 hz4
        have HZ1 := Lib.hid hZ1
        have HL1 := Lib.hid hz4
        have hws : WP w w4 B B (Z1 ++ ((wds p).take 0).flatMap fun n => numB n 4) := by simpa using HW4.out
        have HWS := Lib.hid hws
        clear hZ1 hz4 HW4 hws
        go_wp2_with fail
        clear c7 c8 c9 c10 c11 c12 c13
        go_loopw [50] (fun v50 wr => ∃ i : Nat, i ≤ 7 ∧ v50 = .int .i64 i ∧ Hid (WP w wr B B (Z1 ++ ((wds p).take i).flatMap fun n => numB n 4))) (fun v50 _ => 7 - (intOf v50).toNat)
        case atStart => exact ⟨0, by omega, rfl, HWS.out⟩
        case round =>
          obtain ⟨i, hi, rfl, hin⟩ := hrel
          rcases (show i = 0 ∨ i = 1 ∨ i = 2 ∨ i = 3 ∨ i = 4 ∨ i = 5 ∨ i = 6 ∨ i = 7 by omega) with rfl | rfl | rfl | rfl | rfl | rfl | rfl | rfl
          · have ix : ∀ W, (Instr.index 38 (.agg #[.int .u32 (wd p 0), .int .u32 (wd p 1), .int .u32 (wd p 2), .int .u32 (wd p 3), .int .u32 (wd p 4), .int .u32 (wd p 5), .int .u32 (wd p 6)]) (.int .i64 0)).run Try.prog W = .ok (.int .u32 (wd p 0)) W := fun W => by kernel_rfl
            have hwk := HWR.out 0 (by decide)
            go_wp2_with fail
            refine (wn4 hin.out (wd p 0) (by rw [List.length_append, HL1.out, wordsB_length]; simp [wds]) hwk).mono ?_
            rintro e w2 ⟨rfl, hwp2, hlow⟩
            have hq : WP w w2 B B (Z1 ++ ((wds p).take 1).flatMap fun n => numB n 4) := by simpa [wds, List.append_assoc] using hwp2
            have HQ := Lib.hid hq
            clear hwp2 hlow
            go_wp2_with fail
            refine ⟨?_, ?_⟩
            · exact ⟨1, by omega, rfl, HQ⟩
            · simp [intOf]
          · have ix : ∀ W, (Instr.index 38 (.agg #[.int .u32 (wd p 0), .int .u32 (wd p 1), .int .u32 (wd p 2), .int .u32 (wd p 3), .int .u32 (wd p 4), .int .u32 (wd p 5), .int .u32 (wd p 6)]) (.int .i64 1)).run Try.prog W = .ok (.int .u32 (wd p 1)) W := fun W => by kernel_rfl
            have hwk := HWR.out 1 (by decide)
            go_wp2_with fail
            refine (wn4 hin.out (wd p 1) (by rw [List.length_append, HL1.out, wordsB_length]; simp [wds]) hwk).mono ?_
            rintro e w2 ⟨rfl, hwp2, hlow⟩
            have hq : WP w w2 B B (Z1 ++ ((wds p).take 2).flatMap fun n => numB n 4) := by simpa [wds, List.append_assoc] using hwp2
            have HQ := Lib.hid hq
            clear hwp2 hlow
            go_wp2_with fail
            refine ⟨?_, ?_⟩
            · exact ⟨2, by omega, rfl, HQ⟩
            · simp [intOf]
          · have ix : ∀ W, (Instr.index 38 (.agg #[.int .u32 (wd p 0), .int .u32 (wd p 1), .int .u32 (wd p 2), .int .u32 (wd p 3), .int .u32 (wd p 4), .int .u32 (wd p 5), .int .u32 (wd p 6)]) (.int .i64 2)).run Try.prog W = .ok (.int .u32 (wd p 2)) W := fun W => by kernel_rfl
            have hwk := HWR.out 2 (by decide)
            go_wp2_with fail
            refine (wn4 hin.out (wd p 2) (by rw [List.length_append, HL1.out, wordsB_length]; simp [wds]) hwk).mono ?_
            rintro e w2 ⟨rfl, hwp2, hlow⟩
            have hq : WP w w2 B B (Z1 ++ ((wds p).take 3).flatMap fun n => numB n 4) := by simpa [wds, List.append_assoc] using hwp2
            have HQ := Lib.hid hq
            clear hwp2 hlow
            go_wp2_with fail
            refine ⟨?_, ?_⟩
            · exact ⟨3, by omega, rfl, HQ⟩
            · simp [intOf]
          · have ix : ∀ W, (Instr.index 38 (.agg #[.int .u32 (wd p 0), .int .u32 (wd p 1), .int .u32 (wd p 2), .int .u32 (wd p 3), .int .u32 (wd p 4), .int .u32 (wd p 5), .int .u32 (wd p 6)]) (.int .i64 3)).run Try.prog W = .ok (.int .u32 (wd p 3)) W := fun W => by kernel_rfl
            have hwk := HWR.out 3 (by decide)
            go_wp2_with fail
            refine (wn4 hin.out (wd p 3) (by rw [List.length_append, HL1.out, wordsB_length]; simp [wds]) hwk).mono ?_
            rintro e w2 ⟨rfl, hwp2, hlow⟩
            have hq : WP w w2 B B (Z1 ++ ((wds p).take 4).flatMap fun n => numB n 4) := by simpa [wds, List.append_assoc] using hwp2
            have HQ := Lib.hid hq
            clear hwp2 hlow
            go_wp2_with fail
            refine ⟨?_, ?_⟩
            · exact ⟨4, by omega, rfl, HQ⟩
            · simp [intOf]
          · have ix : ∀ W, (Instr.index 38 (.agg #[.int .u32 (wd p 0), .int .u32 (wd p 1), .int .u32 (wd p 2), .int .u32 (wd p 3), .int .u32 (wd p 4), .int .u32 (wd p 5), .int .u32 (wd p 6)]) (.int .i64 4)).run Try.prog W = .ok (.int .u32 (wd p 4)) W := fun W => by kernel_rfl
            have hwk := HWR.out 4 (by decide)
            go_wp2_with fail
            refine (wn4 hin.out (wd p 4) (by rw [List.length_append, HL1.out, wordsB_length]; simp [wds]) hwk).mono ?_
            rintro e w2 ⟨rfl, hwp2, hlow⟩
            have hq : WP w w2 B B (Z1 ++ ((wds p).take 5).flatMap fun n => numB n 4) := by simpa [wds, List.append_assoc] using hwp2
            have HQ := Lib.hid hq
            clear hwp2 hlow
            go_wp2_with fail
            refine ⟨?_, ?_⟩
            · exact ⟨5, by omega, rfl, HQ⟩
            · simp [intOf]
          · have ix : ∀ W, (Instr.index 38 (.agg #[.int .u32 (wd p 0), .int .u32 (wd p 1), .int .u32 (wd p 2), .int .u32 (wd p 3), .int .u32 (wd p 4), .int .u32 (wd p 5), .int .u32 (wd p 6)]) (.int .i64 5)).run Try.prog W = .ok (.int .u32 (wd p 5)) W := fun W => by kernel_rfl
            have hwk := HWR.out 5 (by decide)
            go_wp2_with fail
            refine (wn4 hin.out (wd p 5) (by rw [List.length_append, HL1.out, wordsB_length]; simp [wds]) hwk).mono ?_
            rintro e w2 ⟨rfl, hwp2, hlow⟩
            have hq : WP w w2 B B (Z1 ++ ((wds p).take 6).flatMap fun n => numB n 4) := by simpa [wds, List.append_assoc] using hwp2
            have HQ := Lib.hid hq
            clear hwp2 hlow
            go_wp2_with fail
            refine ⟨?_, ?_⟩
            · exact ⟨6, by omega, rfl, HQ⟩
            · simp [intOf]
          · have ix : ∀ W, (Instr.index 38 (.agg #[.int .u32 (wd p 0), .int .u32 (wd p 1), .int .u32 (wd p 2), .int .u32 (wd p 3), .int .u32 (wd p 4), .int .u32 (wd p 5), .int .u32 (wd p 6)]) (.int .i64 6)).run Try.prog W = .ok (.int .u32 (wd p 6)) W := fun W => by kernel_rfl
            have hwk := HWR.out 6 (by decide)
            go_wp2_with fail
            refine (wn4 hin.out (wd p 6) (by rw [List.length_append, HL1.out, wordsB_length]; simp [wds]) hwk).mono ?_
            rintro e w2 ⟨rfl, hwp2, hlow⟩
            have hq : WP w w2 B B (Z1 ++ ((wds p).take 7).flatMap fun n => numB n 4) := by simpa [wds, List.append_assoc] using hwp2
            have HQ := Lib.hid hq
            clear hwp2 hlow
            go_wp2_with fail
            refine ⟨?_, ?_⟩
            · exact ⟨7, by omega, rfl, HQ⟩
            · simp [intOf]
          · obtain ⟨⟨vE, hoE⟩, hsE, hwE, hBE⟩ := hin.out
            have hbytes : Z1 ++ ((wds p).take 7).flatMap (fun n => numB n 4) = headL p := by rw [HZ1.out]; exact HEAD.out
            rw [hbytes] at hoE
            have HOE := Lib.hid hoE
            have HSE := Lib.hid hsE
            have HBE := Lib.hid hBE
            clear hin hoE hsE hwE hBE hbytes
            go_wp2_with fail
            refine (wend_any B _ _ _ _ HOE.out HBE.out (by rw [headL_length HW7.out]; decide)).mono ?_
            rintro e w2 ⟨v2, rfl, hf2, hs2⟩
            have HF2 := Lib.hid hf2
            have HS2 := Lib.hid (Same.trans HSE.out hs2)
            have HN2 := Lib.hid HSE.out.size
            clear hf2 hs2
            go_wp2_with fail
            go_ret
            exact ⟨_, rfl, Fresh.mono HF2.out HN2.out, HS2.out⟩
  · have hn : p.now = false := by simpa using hn
    rw [hn] at c1 hfp
    have hfp2 : p.op = firstP p := by rw [hfp]; simp
    rw [hfp2] at c0
    clear hfp hfp2 hF0 hnow
    go_wp2_with fail
    go_loopw [26] (fun v26 wr => ∃ i : Nat, i ≤ 4 ∧ v26 = .int .i64 i ∧ Hid (WP w wr B B (((hd4 p).take i).flatMap fun n => numB n 1) ∧ BoxAt wr w.heap.size p (.slice A p.data.length cap))) (fun v26 _ => 4 - (intOf v26).toNat)
    case atStart => exact ⟨0, by omega, rfl, HWP.out, HBX.out⟩
    case round =>
      obtain ⟨i, hi, rfl, hin⟩ := hrel
      rcases (show i = 0 ∨ i = 1 ∨ i = 2 ∨ i = 3 ∨ i = 4 by omega) with rfl | rfl | rfl | rfl | rfl
      · have ix : ∀ W, (Instr.index 95 (.agg #[.int .i64 (firstP p), .int .i64 p.flags, .int .i64 p.b2, .int .i64 p.b3]) (.int .i64 0)).run Try.prog W = .ok (.int .i64 (firstP p)) W := fun W => by kernel_rfl
        go_wp2_with fail
        refine (wn1 hin.out.1 (firstP p) (by rw [ones_length]; simp [hd4]) HF0.out).mono ?_
        rintro e w2 ⟨rfl, hwp2, hlow⟩
        have HQ : Hid (WP w w2 B B (((hd4 p).take 1).flatMap fun n => numB n 1) ∧ BoxAt w2 w.heap.size p (.slice A p.data.length cap)) := ⟨by simpa [hd4] using hwp2, hin.out.2.low hlt hlow⟩
        clear hwp2 hlow
        go_wp2_with fail
        refine ⟨?_, ?_⟩
        · exact ⟨1, by omega, rfl, HQ⟩
        · simp [intOf]
      · have ix : ∀ W, (Instr.index 95 (.agg #[.int .i64 (firstP p), .int .i64 p.flags, .int .i64 p.b2, .int .i64 p.b3]) (.int .i64 1)).run Try.prog W = .ok (.int .i64 (p.flags)) W := fun W => by kernel_rfl
        go_wp2_with fail
        refine (wn1 hin.out.1 (p.flags) (by rw [ones_length]; simp [hd4]) HF.out.2.1).mono ?_
        rintro e w2 ⟨rfl, hwp2, hlow⟩
        have HQ : Hid (WP w w2 B B (((hd4 p).take 2).flatMap fun n => numB n 1) ∧ BoxAt w2 w.heap.size p (.slice A p.data.length cap)) := ⟨by simpa [hd4] using hwp2, hin.out.2.low hlt hlow⟩
        clear hwp2 hlow
        go_wp2_with fail
        refine ⟨?_, ?_⟩
        · exact ⟨2, by omega, rfl, HQ⟩
        · simp [intOf]
      · have ix : ∀ W, (Instr.index 95 (.agg #[.int .i64 (firstP p), .int .i64 p.flags, .int .i64 p.b2, .int .i64 p.b3]) (.int .i64 2)).run Try.prog W = .ok (.int .i64 (p.b2)) W := fun W => by kernel_rfl
        go_wp2_with fail
        refine (wn1 hin.out.1 (p.b2) (by rw [ones_length]; simp [hd4]) HF.out.2.2.1).mono ?_
        rintro e w2 ⟨rfl, hwp2, hlow⟩
        have HQ : Hid (WP w w2 B B (((hd4 p).take 3).flatMap fun n => numB n 1) ∧ BoxAt w2 w.heap.size p (.slice A p.data.length cap)) := ⟨by simpa [hd4] using hwp2, hin.out.2.low hlt hlow⟩
        clear hwp2 hlow
        go_wp2_with fail
        refine ⟨?_, ?_⟩
        · exact ⟨3, by omega, rfl, HQ⟩
        · simp [intOf]
      · have ix : ∀ W, (Instr.index 95 (.agg #[.int .i64 (firstP p), .int .i64 p.flags, .int .i64 p.b2, .int .i64 p.b3]) (.int .i64 3)).run Try.prog W = .ok (.int .i64 (p.b3)) W := fun W => by kernel_rfl
        go_wp2_with fail
        refine (wn1 hin.out.1 (p.b3) (by rw [ones_length]; simp [hd4]) HF.out.2.2.2).mono ?_
        rintro e w2 ⟨rfl, hwp2, hlow⟩
        have HQ : Hid (WP w w2 B B (((hd4 p).take 4).flatMap fun n => numB n 1) ∧ BoxAt w2 w.heap.size p (.slice A p.data.length cap)) := ⟨by simpa [hd4] using hwp2, hin.out.2.low hlt hlow⟩
        clear hwp2 hlow
        go_wp2_with fail
        refine ⟨?_, ?_⟩
        · exact ⟨4, by omega, rfl, HQ⟩
        · simp [intOf]
      · have HW := Lib.hid hin.out.1
        have c14 := hin.out.2 14 _ rfl
        have HB := Lib.hid hin.out.2
        clear hin
        have hlen : (((hd4 p).take 4).flatMap fun n => numB n 1).length = 4 := by rw [ones_length]; rfl
        generalize (((hd4 p).take 4).flatMap fun n => numB n 1) = Z0 at HW hlen HEAD
        have HZ := Lib.hid hlen
        clear hlen
        go_wp2_with fail
        refine (wn4 HW.out (p.data.length : Int) (by have := HZ.out; omega) (by omega)).mono ?_
        rintro e w2 ⟨rfl, hwp2, hlow⟩
        have HW2 := Lib.hid hwp2
        have HB2 := Lib.hid (HB.out.low hlt hlow)
        clear hwp2 hlow HW HB c14
        have c5 := HB2.out 5 _ rfl
        have hlw : IntKind.i64.wrap p.lun = wrap64 p.lun := by rw [IntKind.wrap_i64]; unfold wrap64; omega
        go_wp2_with fail
        refine (wn8 HW2.out (wrap64 p.lun) (by have := HZ.out; simp [numB_length]; omega) (by unfold wrap64; omega)).mono ?_
        rintro e w3 ⟨rfl, hwp3, hlow⟩
        have HW3 := Lib.hid hwp3
        have HB3 := Lib.hid (HB2.out.low hlt hlow)
        clear hwp3 hlow HW2 HB2 c5 hlw
        have c6 := HB3.out 6 _ rfl
        go_wp2_with fail
        refine (wn4 HW3.out p.task (by have := HZ.out; simp [numB_length]; omega) htask).mono ?_
        rintro e w4 ⟨rfl, hwp4, hlow⟩
        have HW4 := Lib.hid hwp4
        have HB4 := Lib.hid (HB3.out.low hlt hlow)
        clear hwp4 hlow HW3 HB3 c6
        have c7 := HB4.out 7 _ rfl
        have c8 := HB4.out 8 _ rfl
        have c9 := HB4.out 9 _ rfl
        have c10 := HB4.out 10 _ rfl
        have c11 := HB4.out 11 _ rfl
        have c12 := HB4.out 12 _ rfl
        have c13 := HB4.out 13 _ rfl
        have hz4 : (Z0 ++ numB (p.data.length : Int) 4 ++ numB (wrap64 p.lun) 8 ++ numB p.task 4).length = 20 := by have := HZ.out; simp [numB_length]; omega
        obtain ⟨Z1, hZ1⟩ : ∃ Z1, Z1 = Z0 ++ numB (p.data.length : Int) 4 ++ numB (wrap64 p.lun) 8 ++ numB p.task 4 := ⟨_, rfl⟩
        rw [← hZ1] at HW4 hz4
        have HZ1 := Lib.hid hZ1
        have HL1 := Lib.hid hz4
        have hws : WP w w4 B B (Z1 ++ ((wds p).take 0).flatMap fun n => numB n 4) := by simpa using HW4.out
        have HWS := Lib.hid hws
        clear hZ1 hz4 HW4 hws
        go_wp2_with fail
        clear c7 c8 c9 c10 c11 c12 c13
        go_loopw [50] (fun v50 wr => ∃ i : Nat, i ≤ 7 ∧ v50 = .int .i64 i ∧ Hid (WP w wr B B (Z1 ++ ((wds p).take i).flatMap fun n => numB n 4))) (fun v50 _ => 7 - (intOf v50).toNat)
        case atStart => exact ⟨0, by omega, rfl, HWS.out⟩
        case round =>
          obtain ⟨i, hi, rfl, hin⟩ := hrel
          rcases (show i = 0 ∨ i = 1 ∨ i = 2 ∨ i = 3 ∨ i = 4 ∨ i = 5 ∨ i = 6 ∨ i = 7 by omega) with rfl | rfl | rfl | rfl | rfl | rfl | rfl | rfl
          · have ix : ∀ W, (Instr.index 38 (.agg #[.int .u32 (wd p 0), .int .u32 (wd p 1), .int .u32 (wd p 2), .int .u32 (wd p 3), .int .u32 (wd p 4), .int .u32 (wd p 5), .int .u32 (wd p 6)]) (.int .i64 0)).run Try.prog W = .ok (.int .u32 (wd p 0)) W := fun W => by kernel_rfl
            have hwk := HWR.out 0 (by decide)
            go_wp2_with fail
            refine (wn4 hin.out (wd p 0) (by rw [List.length_append, HL1.out, wordsB_length]; simp [wds]) hwk).mono ?_
            rintro e w2 ⟨rfl, hwp2, hlow⟩
            have hq : WP w w2 B B (Z1 ++ ((wds p).take 1).flatMap fun n => numB n 4) := by simpa [wds, List.append_assoc] using hwp2
            have HQ := Lib.hid hq
            clear hwp2 hlow
            go_wp2_with fail
            refine ⟨?_, ?_⟩
            · exact ⟨1, by omega, rfl, HQ⟩
            · simp [intOf]
          · have ix : ∀ W, (Instr.index 38 (.agg #[.int .u32 (wd p 0), .int .u32 (wd p 1), .int .u32 (wd p 2), .int .u32 (wd p 3), .int .u32 (wd p 4), .int .u32 (wd p 5), .int .u32 (wd p 6)]) (.int .i64 1)).run Try.prog W = .ok (.int .u32 (wd p 1)) W := fun W => by kernel_rfl
            have hwk := HWR.out 1 (by decide)
            go_wp2_with fail
            refine (wn4 hin.out (wd p 1) (by rw [List.length_append, HL1.out, wordsB_length]; simp [wds]) hwk).mono ?_
            rintro e w2 ⟨rfl, hwp2, hlow⟩
            have hq : WP w w2 B B (Z1 ++ ((wds p).take 2).flatMap fun n => numB n 4) := by simpa [wds, List.append_assoc] using hwp2
            have HQ := Lib.hid hq
            clear hwp2 hlow
            go_wp2_with fail
            refine ⟨?_, ?_⟩
            · exact ⟨2, by omega, rfl, HQ⟩
            · simp [intOf]
          · have ix : ∀ W, (Instr.index 38 (.agg #[.int .u32 (wd p 0), .int .u32 (wd p 1), .int .u32 (wd p 2), .int .u32 (wd p 3), .int .u32 (wd p 4), .int .u32 (wd p 5), .int .u32 (wd p 6)]) (.int .i64 2)).run Try.prog W = .ok (.int .u32 (wd p 2)) W := fun W => by kernel_rfl
            have hwk := HWR.out 2 (by decide)
            go_wp2_with fail
            refine (wn4 hin.out (wd p 2) (by rw [List.length_append, HL1.out, wordsB_length]; simp [wds]) hwk).mono ?_
            rintro e w2 ⟨rfl, hwp2, hlow⟩
            have hq : WP w w2 B B (Z1 ++ ((wds p).take 3).flatMap fun n => numB n 4) := by simpa [wds, List.append_assoc] using hwp2
            have HQ := Lib.hid hq
            clear hwp2 hlow
            go_wp2_with fail
            refine ⟨?_, ?_⟩
            · exact ⟨3, by omega, rfl, HQ⟩
            · simp [intOf]
          · have ix : ∀ W, (Instr.index 38 (.agg #[.int .u32 (wd p 0), .int .u32 (wd p 1), .int .u32 (wd p 2), .int .u32 (wd p 3), .int .u32 (wd p 4), .int .u32 (wd p 5), .int .u32 (wd p 6)]) (.int .i64 3)).run Try.prog W = .ok (.int .u32 (wd p 3)) W := fun W => by kernel_rfl
            have hwk := HWR.out 3 (by decide)
            go_wp2_with fail
            refine (wn4 hin.out (wd p 3) (by rw [List.length_append, HL1.out, wordsB_length]; simp [wds]) hwk).mono ?_
            rintro e w2 ⟨rfl, hwp2, hlow⟩
            have hq : WP w w2 B B (Z1 ++ ((wds p).take 4).flatMap fun n => numB n 4) := by simpa [wds, List.append_assoc] using hwp2
            have HQ := Lib.hid hq
            clear hwp2 hlow
            go_wp2_with fail
            refine ⟨?_, ?_⟩
            · exact ⟨4, by omega, rfl, HQ⟩
            · simp [intOf]
          · have ix : ∀ W, (Instr.index 38 (.agg #[.int .u32 (wd p 0), .int .u32 (wd p 1), .int .u32 (wd p 2), .int .u32 (wd p 3), .int .u32 (wd p 4), .int .u32 (wd p 5), .int .u32 (wd p 6)]) (.int .i64 4)).run Try.prog W = .ok (.int .u32 (wd p 4)) W := fun W => by kernel_rfl
            have hwk := HWR.out 4 (by decide)
            go_wp2_with fail
            refine (wn4 hin.out (wd p 4) (by rw [List.length_append, HL1.out, wordsB_length]; simp [wds]) hwk).mono ?_
            rintro e w2 ⟨rfl, hwp2, hlow⟩
            have hq : WP w w2 B B (Z1 ++ ((wds p).take 5).flatMap fun n => numB n 4) := by simpa [wds, List.append_assoc] using hwp2
            have HQ := Lib.hid hq
            clear hwp2 hlow
            go_wp2_with fail
            refine ⟨?_, ?_⟩
            · exact ⟨5, by omega, rfl, HQ⟩
            · simp [intOf]
          · have ix : ∀ W, (Instr.index 38 (.agg #[.int .u32 (wd p 0), .int .u32 (wd p 1), .int .u32 (wd p 2), .int .u32 (wd p 3), .int .u32 (wd p 4), .int .u32 (wd p 5), .int .u32 (wd p 6)]) (.int .i64 5)).run Try.prog W = .ok (.int .u32 (wd p 5)) W := fun W => by kernel_rfl
            have hwk := HWR.out 5 (by decide)
            go_wp2_with fail
            refine (wn4 hin.out (wd p 5) (by rw [List.length_append, HL1.out, wordsB_length]; simp [wds]) hwk).mono ?_
            rintro e w2 ⟨rfl, hwp2, hlow⟩
            have hq : WP w w2 B B (Z1 ++ ((wds p).take 6).flatMap fun n => numB n 4) := by simpa [wds, List.append_assoc] using hwp2
            have HQ := Lib.hid hq
            clear hwp2 hlow
            go_wp2_with fail
            refine ⟨?_, ?_⟩
            · exact ⟨6, by omega, rfl, HQ⟩
            · simp [intOf]
          · have ix : ∀ W, (Instr.index 38 (.agg #[.int .u32 (wd p 0), .int .u32 (wd p 1), .int .u32 (wd p 2), .int .u32 (wd p 3), .int .u32 (wd p 4), .int .u32 (wd p 5), .int .u32 (wd p 6)]) (.int .i64 6)).run Try.prog W = .ok (.int .u32 (wd p 6)) W := fun W => by kernel_rfl
            have hwk := HWR.out 6 (by decide)
            go_wp2_with fail
            refine (wn4 hin.out (wd p 6) (by rw [List.length_append, HL1.out, wordsB_length]; simp [wds]) hwk).mono ?_
            rintro e w2 ⟨rfl, hwp2, hlow⟩
            have hq : WP w w2 B B (Z1 ++ ((wds p).take 7).flatMap fun n => numB n 4) := by simpa [wds, List.append_assoc] using hwp2
            have HQ := Lib.hid hq
            clear hwp2 hlow
            go_wp2_with fail
            refine ⟨?_, ?_⟩
            · exact ⟨7, by omega, rfl, HQ⟩
            · simp [intOf]
          · obtain ⟨⟨vE, hoE⟩, hsE, hwE, hBE⟩ := hin.out
            have hbytes : Z1 ++ ((wds p).take 7).flatMap (fun n => numB n 4) = headL p := by rw [HZ1.out]; exact HEAD.out
            rw [hbytes] at hoE
            have HOE := Lib.hid hoE
            have HSE := Lib.hid hsE
            have HBE := Lib.hid hBE
            clear hin hoE hsE hwE hBE hbytes
            go_wp2_with fail
            refine (wend_any B _ _ _ _ HOE.out HBE.out (by rw [headL_length HW7.out]; decide)).mono ?_
            rintro e w2 ⟨v2, rfl, hf2, hs2⟩
            have HF2 := Lib.hid hf2
            have HS2 := Lib.hid (Same.trans HSE.out hs2)
            have HN2 := Lib.hid HSE.out.size
            clear hf2 hs2
            go_wp2_with fail
            go_ret
            exact ⟨_, rfl, Fresh.mono HF2.out HN2.out, HS2.out⟩
end Go.Proofs.Ytfafepmghcobdaa
