/- chunk.Split. -/
import Derived.Test.YtccbkagmglddfaaChkW
import Derived.Test.YtccbkagmglddfaaChkB
import Derived.Deep.CutRange
import Derived.Deep.CutBlock
import Derived.Deep.Cut
import Derived.Deep.DeepCutAuto
namespace Go.Proofs.Ytccbkagmglddfaa
open Go.RowKit
set_option linter.unusedVariables false
set_option linter.unusedSimpArgs false
set_option maxRecDepth 100000
set_option maxHeartbeats 4000000
theorem hinfo_row : (Try.prog.info? 22).map (fun i => (i.zero, i.size, i.bytes)) = some (some (.slice none 0 0), 1, 24) := by kernel_rfl
theorem splL_take (id : Int) (b : List UInt8) (size : Int) (k : Nat) (hk : k < splN b.length size) : (List.range k).map (splP id b size) ++ [splP id b size k] = (List.range (k + 1)).map (splP id b size) := by
  rw [List.range_succ, List.map_append]
  rfl
theorem body_parts (id k n s : Int) (b : List UInt8) : [] ++ numB id 8 ++ numB k 2 ++ numB n 2 ++ numB s 4 ++ (numB (b.length : Int) 2 ++ b) = bodyL id k n s b := by
  unfold bodyL
  simp only [List.nil_append, List.append_assoc]
theorem cut_slice {w : World} {A : Option Addr} {n cap : Nat} {b : List UInt8} (h : Bs w (.slice A n cap) b) (lo hi : Nat) (hlo : lo ≤ hi) (hhi : hi ≤ n) : Bs w (.slice (if cap = lo then A else A.map (·.add lo)) (hi - lo) (cap - lo)) ((b.drop lo).take (hi - lo)) :=
  (h.drop lo (by omega)).take (hi - lo) (by omega)
def SpS (w wr : World) (id : Int) (b : List UInt8) (size : Int) (v : Value) (k : Nat) : Prop := Same w wr ∧ ∃ ss : List (Value × List UInt8), ss.map (·.2) = (List.range k).map (splP id b size) ∧ PcsV w.heap.size wr v ss
theorem split_any (id size : Int) (A : Option Addr) (cap : Nat) (b : List UInt8) (w : World) (h : Bs w (.slice A b.length cap) b) (hl : b.length ≤ 140737488351232) (hi1 : -9223372036854775808 ≤ id ∧ id ≤ 9223372036854775807) (hs1 : -9223372036854775808 ≤ size ∧ size ≤ 9223372036854775807) :
    Calls Try.prog 9 #[.int .i64 id, .slice A b.length cap, .int .i64 size] w fun e w' => ∃ B n c, e = .returned (.tuple #[.slice B n c, .int .i64 (splE id b.length size)]) ∧ PcsAt w.heap.size w' (.slice B n c) (splL id b size) ∧ Same w w' := by
  have hcapL : b.length ≤ cap ∧ cap ≤ 9223372036854775807 := by
    have hh := h
    obtain ⟨_, _, e, h1, h2, _⟩ := hh
    injection e with _ _ e3
    subst e3
    exact ⟨h1, h2⟩
  have hEdef : splE id b.length size = if id < 1 ∨ 1152921504606846976 < id ∨ size < 1 ∨ 4096 < size then 1 else if 65536 < b.length ∨ 256 < splN b.length size then 3 else 0 := rfl
  by_cases hbad : id < 1 ∨ 1152921504606846976 < id ∨ size < 1 ∨ 4096 < size
  · have hE : splE id b.length size = 1 := by rw [hEdef, if_pos hbad]
    have hL : splL id b size = [] := by unfold splL; rw [hE]; rfl
    rw [hE, hL]
    clear hE hL hEdef h
    have key : ∀ (B : Option Addr), True := fun _ => trivial
    go_enter Try.func9, Try.ntmps9
    go_wp2_with fail
    all_goals first
      | (go_ret2; exact ⟨_, _, _, rfl, ⟨[], rfl, PcsV.nil _ _⟩, Upd.refl _ _⟩)
      | (exfalso; omega)
  · obtain ⟨sz, hszn⟩ : ∃ sz : Nat, size = sz := ⟨size.toNat, by omega⟩
    subst hszn
    have g1 : ¬ id < 1 := by omega
    have g2 : ¬ 1152921504606846976 < id := by omega
    have g3 : ¬ (sz : Int) < 1 := by omega
    have g4 : ¬ 4096 < (sz : Int) := by omega
    obtain ⟨N, hN⟩ : ∃ N, N = splN b.length sz := ⟨_, rfl⟩
    have HE := Lib.hid hEdef
    have HN := Lib.hid hN
    have HH := Lib.hid h
    have HBAD := Lib.hid hbad
    obtain ⟨L, hL⟩ : ∃ L, L = b.length := ⟨_, rfl⟩
    rw [← hL] at hcapL hl hN ⊢
    have HL := Lib.hid hL
    obtain ⟨E, hEv⟩ : ∃ E, E = splE id L sz := ⟨_, rfl⟩
    obtain ⟨LL, hLv⟩ : ∃ LL, LL = splL id b sz := ⟨_, rfl⟩
    rw [← hEv, ← hLv]
    have HEV := Lib.hid hEv
    have HLV := Lib.hid hLv
    clear hEv hLv
    obtain ⟨q, hqd⟩ : ∃ q, q = (L + sz - 1) / sz := ⟨_, rfl⟩
    have hq : Int.tdiv ((L : Int) + (sz : Int) - 1) (sz : Int) = (q : Int) := by
      rw [show (L : Int) + (sz : Int) - 1 = ((L + sz - 1 : Nat) : Int) by omega, hqd]
      rfl
    have hqb : q ≤ 140737488355328 := by
      have := Nat.div_le_self (L + sz - 1) sz
      omega
    have hnq : N = max q 1 := by rw [hN, hqd]; rfl
    have HNQ := Lib.hid hnq
    clear hnq hqd
    clear hEdef hN h hL hbad
    go_enter Try.func9, Try.ntmps9
    go_upto_region 3 with (fail)
    go_cut [8] from 15 (fun v8 wx => v8 = .int .i64 N ∧ w = wx)
    case first =>
      go_wp2_with fail
      all_goals go_meet
      all_goals exact ⟨by have := HNQ.out; congr 1; omega, rfl⟩
    case rest =>
    obtain ⟨rfl, rfl⟩ := hcut
    clear hq hqb HNQ
    by_cases hbig : 65536 < L ∨ 256 < N
    · have hE3 : splE id b.length sz = 3 := by rw [HE.out, if_neg HBAD.out, if_pos (by rw [← HN.out, ← HL.out]; exact hbig)]
      have hL3 : LL = [] := by rw [HLV.out]; unfold splL; rw [hE3]; rfl
      have hE4 : E = 3 := by rw [HEV.out, HL.out]; exact hE3
      have HE4 := Lib.hid hE4
      subst hL3
      have hb2 : ¬ (L ≤ 65536 ∧ N ≤ 256) := by omega
      clear hE3 hE4 HE HN HL HEV HLV
      go_wp2_with fail
      all_goals first
        | (go_ret2; exact ⟨_, _, _, by rw [HE4.out]; rfl, ⟨[], rfl, PcsV.nil _ _⟩, Upd.refl _ _⟩)
        | (exfalso; omega)
    · have h6 : ¬ 65536 < L := by omega
      have h7 : ¬ 256 < N := by omega
      have hE0 : splE id b.length sz = 0 := by rw [HE.out, if_neg HBAD.out, if_neg (by rw [← HN.out, ← HL.out]; exact hbig)]
      have hL0 : LL = (List.range N).map (splP id b sz) := by rw [HLV.out]; unfold splL; rw [hE0, if_pos rfl, ← HN.out]
      have hE1 : E = 0 := by rw [HEV.out, HL.out]; exact hE0
      have HE0 := Lib.hid hE0
      have HE1 := Lib.hid hE1
      have HL0 := Lib.hid hL0
      clear hE0 hE1 hL0 hbig HE HBAD HEV HLV
      rw [← HL.out] at HH
      go_wp2_with fail
      refine (sum_bs _ b _ HH.out).mono ?_
      rintro e w' ⟨rfl, rfl⟩
      go_wp2_with fail
      have hr := u32v_range (crcSum b)
      have HR := Lib.hid hr
      obtain ⟨S, hS⟩ : ∃ S, S = u32v (crcSum b) := ⟨_, rfl⟩
      rw [← hS] at HR hr ⊢
      have HS := Lib.hid hS
      clear hS
      go_loopw [10, 47] (fun v10 v47 wr => ∃ (k : Nat) (B : Option Addr) (n c : Nat), k ≤ N ∧ v47 = .int .i64 k ∧ v10 = .slice B n c ∧ Hid (SpS w wr id b sz (.slice B n c) k)) (fun _ v47 _ => N - (intOf v47).toNat)
      case atStart => exact ⟨0, none, 0, 0, by omega, rfl, rfl, Upd.refl _ _, [], rfl, PcsV.nil _ _⟩
      case round =>
        obtain ⟨k, B, n, c, hk, rfl, rfl, hin⟩ := hrel
        by_cases hlt : k < N
        · have g6 : (k : Int) < (N : Int) := by omega
          obtain ⟨hsw, ss, hss, hpc⟩ := hin.out
          have hkN : k < splN b.length sz := by rw [← HN.out]; exact hlt
          have hat : k * sz ≤ L := by rw [HL.out]; exact splN_at _ _ (by omega) hkN
          obtain ⟨lo, hlo⟩ : ∃ lo, lo = k * sz := ⟨_, rfl⟩
          have hcl := cutAt_length b sz k
          have hsl : Bs w (.slice (if cap = lo then A else A.map (·.add lo)) (min (lo + sz) L - lo) (cap - lo)) (cutAt b sz k) := by
            have h1 := cut_slice HH.out lo (min (lo + sz) L) (by omega) (by omega)
            have h2 : (b.drop lo).take (min (lo + sz) L - lo) = cutAt b sz k := by
              unfold cutAt
              rw [← hlo]
              by_cases hc : lo + sz ≤ L
              · rw [Nat.min_eq_left hc, Nat.add_sub_cancel_left]
              · have t1 : (b.drop lo).take (L - lo) = b.drop lo := List.take_of_length_le (by rw [List.length_drop, ← HL.out]; exact Nat.le_refl _)
                have t2 : (b.drop lo).take sz = b.drop lo := List.take_of_length_le (by rw [List.length_drop, ← HL.out]; omega)
                rw [Nat.min_eq_right (by omega), t1, t2]
            rw [h2] at h1
            exact h1
          have e1 : (k : Int) * (sz : Int) = (lo : Int) := by rw [hlo]; exact (Int.natCast_mul k sz).symm
          have e2 : ((k : Int) + 1) * (sz : Int) = ((lo + sz : Nat) : Int) := by rw [Int.add_mul, e1, Int.one_mul, Int.natCast_add]
          obtain ⟨hi, hhi⟩ : ∃ hi, hi = lo + sz := ⟨_, rfl⟩
          rw [← hhi] at e2 hsl
          have hlol : lo ≤ L := by omega
          have hlohi : lo < hi := by omega
          have hhib : hi ≤ 70000 := by omega
          have hcm : (cutAt b sz k).length ≤ 4096 := by rw [hcl]; omega
          have HCM := Lib.hid hcm
          have HSW := Lib.hid hsw
          have HPC := Lib.hid (And.intro hss hpc)
          have HSL := Lib.hid hsl
          have HKN := Lib.hid hkN
          clear hsw hss hpc hin hat hlo hcl hsl hhi hkN hcm
          obtain ⟨ct, hct⟩ : ∃ ct, ct = cutAt b sz k := ⟨_, rfl⟩
          rw [← hct] at HCM HSL
          have HCT := Lib.hid hct
          clear hct
          go_wp2_with fail
          refine (WP.new w wr wr.heap.size HSW.out HSW.out.size (Nat.le_refl _)).mono ?_
          rintro e w1 ⟨p, rfl, hwp1, hs1⟩
          have HW1 := Lib.hid hwp1
          have HS1 := Lib.hid (LowK.of hs1 : LowK wr.heap.size wr w1)
          clear hwp1 hs1
          go_wp2_with fail
          refine (wn8 HW1.out id (by simp) hi1).mono ?_
          rintro e w2 ⟨rfl, hwp2, hl2⟩
          have HW2 := Lib.hid hwp2
          have HS2 := Lib.hid (HS1.out.trans hl2)
          clear hwp2 hl2
          go_wp2_with fail
          refine (wn2 HW2.out k (by simp only [List.length_append, numB_length, List.length_nil]; omega) (by omega)).mono ?_
          rintro e w3 ⟨rfl, hwp3, hl3⟩
          have HW3 := Lib.hid hwp3
          have HS3 := Lib.hid (HS2.out.trans hl3)
          clear hwp3 hl3
          go_wp2_with fail
          refine (wn2 HW3.out N (by simp only [List.length_append, numB_length, List.length_nil]; omega) (by omega)).mono ?_
          rintro e w4 ⟨rfl, hwp4, hl4⟩
          have HW4 := Lib.hid hwp4
          have HS4 := Lib.hid (HS3.out.trans hl4)
          clear hwp4 hl4
          go_wp2_with fail
          refine (wn4 HW4.out S (by simp only [List.length_append, numB_length, List.length_nil]; omega) HR.out).mono ?_
          rintro e w5 ⟨rfl, hwp5, hl5⟩
          have HW5 := Lib.hid hwp5
          have HS5 := Lib.hid (HS4.out.trans hl5)
          clear hwp5 hl5
          go_upto_region 16 with (fail)
          go_cut [64] from 48 to 97 (fun v64 wx => WP w wx wr.heap.size p (bodyL id k N S ct) ∧ LowK wr.heap.size wr wx)
          case first => as_aux_lemma =>
            have hsl := HSL.out.same HW5.out.2.1
            have HBP := Lib.hid (body_parts id k N S ct)
            clear HSL
            by_cases hc : hi ≤ L
            · rw [Nat.min_eq_left hc] at hsl
              have hci : (hi : Int) ≤ (L : Int) := by omega
              have hcl : ¬ (L : Int) < (hi : Int) := by omega
              by_cases hca : cap = lo
              · exfalso; omega
              · rw [if_neg hca] at hsl
                have HSM := Lib.hid hsl
                clear hsl
                go_wp2_with fail
                refine (wb2 HW5.out _ ct HSM.out (by simp only [List.length_append, numB_length, List.length_nil]; omega) (by have := HCM.out; omega)).mono ?_
                rintro e w6 ⟨rfl, hwp6, hl6⟩
                rw [HBP.out] at hwp6
                have HW6 := Lib.hid hwp6
                have HS6 := Lib.hid (HS5.out.trans hl6)
                clear hwp6 hl6
                go_wp2_with fail
                go_meet
                exact ⟨HW6.out, HS6.out⟩
            · rw [Nat.min_eq_right (by omega)] at hsl
              have hci : (L : Int) < (hi : Int) := by omega
              have hcl : ¬ (hi : Int) ≤ (L : Int) := by omega
              by_cases hca : cap = lo
              · have hcm : L = lo := by omega
                subst hca
                subst hcm
                rw [if_pos rfl, Nat.sub_self] at hsl
                have HSM := Lib.hid hsl
                clear hsl
                go_wp2_with fail
                refine (wb2 HW5.out _ ct HSM.out (by simp only [List.length_append, numB_length, List.length_nil]; omega) (by have := HCM.out; omega)).mono ?_
                rintro e w6 ⟨rfl, hwp6, hl6⟩
                rw [HBP.out] at hwp6
                have HW6 := Lib.hid hwp6
                have HS6 := Lib.hid (HS5.out.trans hl6)
                clear hwp6 hl6
                go_wp2_with fail
                go_meet
                exact ⟨HW6.out, HS6.out⟩
              · rw [if_neg hca] at hsl
                have HSM := Lib.hid hsl
                clear hsl
                go_wp2_with fail
                refine (wb2 HW5.out _ ct HSM.out (by simp only [List.length_append, numB_length, List.length_nil]; omega) (by have := HCM.out; omega)).mono ?_
                rintro e w6 ⟨rfl, hwp6, hl6⟩
                rw [HBP.out] at hwp6
                have HW6 := Lib.hid hwp6
                have HS6 := Lib.hid (HS5.out.trans hl6)
                clear hwp6 hl6
                go_wp2_with fail
                go_meet
                exact ⟨HW6.out, HS6.out⟩
          case rest =>
          obtain ⟨hwp6, hl6⟩ := hcut
          have HW6 := Lib.hid hwp6
          have HS6 := Lib.hid hl6
          have hbl := bodyL_length id k N S ct
          have hplen := pieceL_length id k N S ct
          obtain ⟨bd, hbd⟩ : ∃ bd, bd = bodyL id k N S ct := ⟨_, rfl⟩
          have hpc : pieceL id k N S ct = bd ++ numB (u32v (crcSum bd)) 4 := by rw [hbd]; rfl
          rw [← hbd] at HW6 hbl
          have hbl2 : bd.length ≤ 5000 := by have := HCM.out; omega
          have HPCE := Lib.hid hpc
          clear hwp6 hl6 hbd hpc hbl hplen HS5 HS4 HS3 HS2 HS1 HW1 HW2 HW3 HW4 HW5 HSL
          go_wp2_with fail
          refine (wend HW6.out (by omega)).mono ?_
          rintro e w7 ⟨A7, n7, c7, rfl, hf7, hs7, hwp7⟩
          have HW7 := Lib.hid hwp7
          have HS7 := Lib.hid (HS6.out.trans (LowK.of hs7))
          have HF7 := Lib.hid hf7.bs
          clear hf7 hs7 hwp7
          go_wp2_with fail
          refine (sum_bs _ bd _ HF7.out).mono ?_
          rintro e w8 ⟨rfl, rfl⟩
          have hr8 := u32v_range (crcSum bd)
          have HR8 := Lib.hid hr8
          generalize u32v (crcSum bd) = SB at hr8 HR8 HPCE ⊢
          go_wp2_with fail
          refine (wn4 HW7.out SB (by omega) HR8.out).mono ?_
          rintro e w8 ⟨rfl, hwp8, hl8⟩
          rw [← HPCE.out] at hwp8
          have HW8 := Lib.hid hwp8
          have HS8 := Lib.hid (HS7.out.trans hl8)
          clear hwp8 hl8
          go_wp2_with fail
          have hpl := pieceL_length id k N S ct
          have hpl2 : (pieceL id k N S ct).length ≤ 5000 := by have := HCM.out; omega
          have HPL := Lib.hid hpl2
          clear hpl hpl2
          refine (wend HW8.out (by have := HPL.out; omega)).mono ?_
          rintro e w9 ⟨A9, n9, c9, rfl, hf9, hs9, hwp9⟩
          have HS9 := Lib.hid (HS8.out.trans (LowK.of hs9))
          have HSW9 := Lib.hid hwp9.2.1
          have HF9 := Lib.hid (hf9.mono (HS8.out.size))
          have HP9 := Lib.hid (HPC.out.2.low (Nat.le_refl _) HS9.out)
          clear hf9 hs9 hwp9
          have hsl9 : ss.length = k := by have h := congrArg List.length HPC.out.1; simpa using h
          have HSL9 := Lib.hid hsl9
          clear hsl9
          go_wp2_with (at_builtin; refine wpl_append_own rfl (.tmp 93) (.tmp 95) 23 rfl Try.underlying23 hinfo_row rfl (by decide) (.slice B n c) (.slice (some ⟨w9.heap.size, 0, none⟩) 1 1) rfl rfl (HP9.out.1.same ((Upd.refl _ _).alloc _)) (Rdr.box w9 [.slice A9 n9 c9] _ _ _ rfl 1 rfl) (by simp [Value.oneCell']) (by have := HSW9.out.size; simp; omega) k 1 (by rw [List.length_map, HSL9.out, Nat.mul_one]) rfl (by omega) (by omega) ?_; intro v10 w10 hf10 hu10 hr10; obtain ⟨A10, n10, c10, rfl, -⟩ := Own.open_ hf10; have HF10 := Lib.hid (And.intro hf10 (And.intro hu10 hr10)); clear hf10 hu10 hr10)
          have hz9 : w9.heap.size ≤ (w9.alloc (.cells #[.slice A9 n9 c9] 22)).heap.size := by simp
          have hsn := (HP9.out.same ((Upd.refl (fun _ => False) w9).alloc (.cells #[.slice A9 n9 c9] 22))).snoc (w0 := wr) (u := .slice A9 n9 c9) (bs := pieceL id k N S ct) (v' := .slice A10 n10 c10) (w' := w10) (by have := HS9.out.size; omega) (fun j hj => (HPC.out.2.1.ge (by decide) j hj).2) (HSW.out.size)
            (HF9.out.same ((Upd.refl (fun _ => False) w9).alloc _)) (by rw [List.map_append]; exact HF10.out.1) HF10.out.2.1 HF10.out.2.2
          have hsw10 : Same w w10 := Same.into (HSW9.out.alloc (.cells #[.slice A9 n9 c9] 22)) HF10.out.2.1 (fun j hj => (HPC.out.2.1.ge (by decide) j hj).1)
          have hp : pieceL id k N S ct = splP id b sz k := by rw [HCT.out, HS.out, HN.out]; rfl
          have HFIN := Lib.hid (show SpS w w10 id b sz (.slice A10 n10 c10) (k + 1) from ⟨hsw10, ss ++ [(.slice A9 n9 c9, pieceL id k N S ct)], by rw [List.map_append, HPC.out.1, hp]; exact splL_take id b sz k HKN.out, hsn⟩)
          clear hz9 hsn hsw10 hp
          go_roundw
          case rel => exact ⟨k + 1, A10, n10, c10, by omega, by go_num, rfl, HFIN.out⟩
          case measure => simp [intOf]; omega
        · obtain rfl : k = N := by omega
          have HIN := Lib.hid hin.out
          clear hin
          go_wp2_with fail
          go_ret2
          exact ⟨_, _, _, by rw [HE1.out]; rfl, by rw [HL0.out]; exact HIN.out.2, HIN.out.1⟩
end Go.Proofs.Ytccbkagmglddfaa
