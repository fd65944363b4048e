/- The law's known. -/
import Derived.Test.YtccbkagmglddfaaChkN
import Derived.Lib.SlBytesConst
namespace Go.Proofs.Ytccbkagmglddfaa
open Go.RowKit
set_option linter.unusedVariables false
set_option linter.unusedSimpArgs false
set_option maxRecDepth 100000
set_option maxHeartbeats 4000000
def kB : List UInt8 := [97, 98, 99, 100, 101]
theorem kB_e : splE 1 kB.length 2 = 0 := by decide
theorem kB_n : splN kB.length 2 = 3 := by decide
theorem splL_get {id size : Int} {b : List UInt8} (h : splE id b.length size = 0) {k : Nat} (hk : k < splN b.length size) : (splL id b size)[k]? = some (splP id b size k) := by
  unfold splL
  rw [if_pos h, List.getElem?_map, List.getElem?_range hk]
  rfl
theorem splL_len {id size : Int} {b : List UInt8} (h : splE id b.length size = 0) : (splL id b size).length = splN b.length size := by
  unfold splL
  rw [if_pos h, List.length_map, List.length_range]
theorem splP_small {id size : Int} {b : List UInt8} (h : splE id b.length size = 0) (k : Nat) : (splP id b size k).length ≤ 5000 := by
  obtain ⟨h1, h2, h3, h4⟩ := splE_ok h
  unfold splP
  rw [pieceL_length, cutAt_length]
  omega
theorem k_miss : missL (stC 1 kB 2 (fun j => decide (j = 2) || decide (j = 0)) (0 + 1 + 1)).l = [1] := by decide
theorem known07_any (W : World) : Calls Try.prog 10 #[] W fun e w' => e = .returned (.bool true) ∧ Same W w' := by
  have hs0 : Same W (W.alloc (.cells #[.int .u8 97, .int .u8 98, .int .u8 99, .int .u8 100, .int .u8 101] 5 (5, 6))) := (Upd.refl _ W).alloc _
  have hb0 : Bs (W.alloc (.cells #[.int .u8 97, .int .u8 98, .int .u8 99, .int .u8 100, .int .u8 101] 5 (5, 6))) (.slice (some ⟨W.heap.size, 0, none⟩) kB.length 5) kB := Bs.lit W _ _ _ kB _ _ _ rfl (fun j hj => by
    have : j < 5 := hj
    rcases (show j = 0 ∨ j = 1 ∨ j = 2 ∨ j = 3 ∨ j = 4 by omega) with rfl | rfl | rfl | rfl | rfl <;> rfl) rfl (by decide) (by decide)
  have HSP := Lib.hid (fun w0 hh => split_any 1 2 (some ⟨W.heap.size, 0, none⟩) 5 kB w0 hh (by decide) (by decide) (by decide))
  have HB0 := Lib.hid hb0
  have HS0 := Lib.hid hs0
  clear hb0 hs0
  have kc := fun (w : World) (C : Array Value) (n c : Nat) => Lib.run_convert_bytes_const (P := Try.prog) w 22 5 C n c Try.underlying22 Try.underlying5
  have hE1 := add_first kB_e (k := 2) (by rw [kB_n]; decide) Cs.none (by decide)
  have hE2 := add_next kB_e (k := 0) (by rw [kB_n]; decide) (fun j => decide (j = 2)) (0 + 1)
  have hE3 := add_next kB_e (k := 1) (by rw [kB_n]; decide) (fun j => decide (j = 2) || decide (j = 0)) (0 + 1 + 1)
  have hE4 := whole_all (id := 1) kB_e (D := fun j => (decide (j = 2) || decide (j = 0)) || decide (j = 1)) (fun k hk => by
    rw [kB_n] at hk
    rcases (show k = 0 ∨ k = 1 ∨ k = 2 by omega) with rfl | rfl | rfl <;> rfl) (0 + 1 + 1 + 1)
  have hG0 := splL_get kB_e (k := 0) (by rw [kB_n]; decide)
  have hG1 := splL_get kB_e (k := 1) (by rw [kB_n]; decide)
  have hG2 := splL_get kB_e (k := 2) (by rw [kB_n]; decide)
  have hL := splL_len kB_e (id := 1) (size := 2) (b := kB)
  rw [kB_n] at hL
  have hm := k_miss
  have hz0 := splP_small kB_e (id := 1) (size := 2) (b := kB) 0
  have hz1 := splP_small kB_e (id := 1) (size := 2) (b := kB) 1
  have hz2 := splP_small kB_e (id := 1) (size := 2) (b := kB) 2
  obtain ⟨C1, hC1⟩ : ∃ C, C = stC 1 kB 2 (fun j => decide (j = 2)) (0 + 1) := ⟨_, rfl⟩
  obtain ⟨C2, hC2⟩ : ∃ C, C = stC 1 kB 2 (fun j => decide (j = 2) || decide (j = 0)) (0 + 1 + 1) := ⟨_, rfl⟩
  obtain ⟨C3, hC3⟩ : ∃ C, C = stC 1 kB 2 (fun j => (decide (j = 2) || decide (j = 0)) || decide (j = 1)) (0 + 1 + 1 + 1) := ⟨_, rfl⟩
  have ha1 : C1.added ≤ 10 := by rw [hC1]; decide
  have ha2 : C2.added ≤ 10 := by rw [hC2]; decide
  rw [show Cs.none.added + 1 = 0 + 1 from rfl, ← hC1] at hE1
  rw [← hC1, ← hC2] at hE2
  rw [← hC2, ← hC3] at hE3
  rw [← hC3] at hE4
  rw [← hC2] at hm
  obtain ⟨P0, hP0⟩ : ∃ P, P = splP 1 kB 2 0 := ⟨_, rfl⟩
  obtain ⟨P1, hP1⟩ : ∃ P, P = splP 1 kB 2 1 := ⟨_, rfl⟩
  obtain ⟨P2, hP2⟩ : ∃ P, P = splP 1 kB 2 2 := ⟨_, rfl⟩
  rw [← hP2] at hE1 hG2 hz2
  rw [← hP0] at hE2 hG0 hz0
  rw [← hP1] at hE3 hG1 hz1
  have HE1 := Lib.hid hE1
  have HE2 := Lib.hid hE2
  have HE3 := Lib.hid hE3
  have HE4 := Lib.hid hE4
  have HM := Lib.hid hm
  have HG := Lib.hid (And.intro hG0 (And.intro hG1 hG2))
  have HZ := Lib.hid (And.intro hz0 (And.intro hz1 hz2))
  have HL := Lib.hid hL
  have HA := Lib.hid (And.intro ha1 ha2)
  clear hC1 hC2 hC3 hP0 hP1 hP2 hE1 hE2 hE3 hE4 hm hG0 hG1 hG2 hz0 hz1 hz2 hL ha1 ha2
  go_enter Try.func10, Try.ntmps10
  go_wp2_with fail
  refine (HSP.out _ HB0.out).mono ?_
  rintro e w1 ⟨B, n, c, rfl, ⟨ss, hss, hpc⟩, hs1⟩
  rw [kB_e]
  have hn := hpc.len
  have hsl : ss.length = 3 := by have h := congrArg List.length hss; rw [HL.out] at h; simpa using h
  obtain ⟨rfl, hnc, hcm⟩ := hn
  rw [hsl] at hpc hnc ⊢
  have HS1 := Lib.hid (Same.trans HS0.out hs1)
  have HPC := Lib.hid hpc
  have HSS := Lib.hid hss
  clear hs1 hpc hss hsl
  go_wp2_with fail
  refine (Rdy.new w1).mono ?_
  rintro e w2 ⟨p, rfl, hr2⟩
  have HR2 := Lib.hid hr2
  obtain ⟨b1, o1, A2, c2, rfl, x2, hb2⟩ := (hr2.pcs HPC.out).at_ (k := 2) (by rw [HSS.out]; exact HG.out.2.2)
  have HB2 := Lib.hid hb2
  clear hr2 hb2
  go_wp2_with fail
  refine (HR2.out.add (by decide) A2 c2 P2 HB2.out (by have := HZ.out; omega)).mono ?_
  rintro e w3 ⟨rfl, hr3⟩
  rw [HE1.out.1]
  rw [HE1.out.2] at hr3
  have HR3 := Lib.hid hr3
  obtain ⟨_, _, A0, c0, e0, x0, hb0⟩ := (hr3.pcs HPC.out).at_ (k := 0) (by rw [HSS.out]; exact HG.out.1)
  injection e0 with e0
  injection e0 with e0 e1
  subst e0 e1
  simp only [Nat.add_zero] at x0
  have HB3 := Lib.hid hb0
  clear hr3 hb0 x2
  go_wp2_with fail
  refine (HR3.out.add (by have := HA.out; omega) A0 c0 P0 HB3.out (by have := HZ.out; omega)).mono ?_
  rintro e w4 ⟨rfl, hr4⟩
  rw [HE2.out.1]
  rw [HE2.out.2] at hr4
  have HR4 := Lib.hid hr4
  clear hr4 x0
  go_wp2_with fail
  refine HR4.out.miss.mono ?_
  rintro e w5 ⟨Am, cm, rfl, hm5, hs5, hr5⟩
  rw [HM.out] at hm5 ⊢
  have HM5 := Lib.hid hm5
  have HR5 := Lib.hid (HR4.out.low.same hs5)
  obtain ⟨_, _, A1, c1, e0, x1, hb1⟩ := (hr5.pcs HPC.out).at_ (k := 1) (by rw [HSS.out]; exact HG.out.2.1)
  injection e0 with e0
  injection e0 with e0 e1
  subst e0 e1
  have HB5 := Lib.hid hb1
  clear hr5 hb1 hm5 hs5
  go_wp2_with fail
  refine (HR5.out.add (by have := HA.out; omega) A1 c1 P1 HB5.out (by have := HZ.out; omega)).mono ?_
  rintro e w6 ⟨rfl, hr6, hu6⟩
  rw [HE3.out.1]
  rw [HE3.out.2] at hr6
  have HM6 := Lib.hid (HM5.out.upd hu6 (fun k hk e => by have := (HM5.out.ge (by decide) k hk).1; have := e.2; omega))
  have HR6 := Lib.hid hr6
  clear hr6 x1 hu6 HM5
  go_wp2_with fail
  refine HR6.out.whole.mono ?_
  rintro e w7 ⟨A7, n7, c7, rfl, hf7, hs7, hr7⟩
  rw [HE4.out] at hf7 ⊢
  have HM7 := Lib.hid (HM6.out.same hs7)
  have HR7 := Lib.hid hr7
  have cv := conv_bs (P := Try.prog) (src := 22) (dst := 9) Try.underlying22 Try.underlying5 Try.underlying9 (hf7.bs.same ((Upd.refl (fun _ => False) w7).alloc (.cells #[.int .i64 1] 3)))
  have HS7 := Lib.hid (Same.into HS1.out hr7.2.1 (fun k hk => Nat.le_trans HS1.out.size hk))
  have HF7 := Lib.hid hf7
  clear hf7 hs7 hr7 cv
  simp only [Option.isSome_some]
  go_wp2_with fail
  have hal : Same w7 (w7.alloc (.cells #[.int .i64 1] 3)) := (Upd.refl _ w7).alloc _
  refine (same_eq Am (some ⟨w7.heap.size, 0, none⟩) cm 1 [1] _ (HM7.out.rdr.same hal) (Rdr.box w7 [.int .i64 1] 3 (0, 0) w7.heap.size rfl 1 rfl) (by decide)).mono ?_
  rintro e w8 ⟨rfl, hs8⟩
  have HS8 := Lib.hid (Same.trans HS7.out (Same.trans hal hs8))
  have cv := conv_bs (P := Try.prog) (src := 22) (dst := 9) Try.underlying22 Try.underlying5 Try.underlying9 ((HF7.out.bs.same hal).same hs8)
  have hkb : (strB kB).toList = [97, 98, 99, 100, 101] := strB_toList kB
  clear hal hs8
  go_wp2_with fail
  go_ret
  exact ⟨rfl, HS8.out⟩
end Go.Proofs.Ytccbkagmglddfaa
