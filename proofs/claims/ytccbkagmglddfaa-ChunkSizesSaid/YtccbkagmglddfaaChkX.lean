/- chunk.Reader: Whole. -/
import Derived.Test.YtccbkagmglddfaaChkP
import Derived.Test.YtccbkagmglddfaaChkS
import Derived.WalkSpells
import Derived.BigQuiet
import Derived.Deep.QuietTactic
import Derived.Deep.CutRange
import Derived.Deep.CutBlock
import Derived.Deep.Cut
import Derived.Deep.DeepCutAuto
namespace Go.Proofs.Ytccbkagmglddfaa
open Go.RowKit
set_option linter.unusedVariables false
set_option linter.unusedSimpArgs false
set_option maxRecDepth 100000
set_option maxHeartbeats 4000000
theorem lacks_any (A : Option Addr) (n c : Nat) (W : World) : Calls Try.prog 39 #[.slice A n c] W fun e w' => e = .returned (.bool A.isNone) ∧ W = w' := by
  have hnil := fun W => Lib.run_eql_slice_nil (P := Try.prog) W 22 5 A n c 0 0 Try.underlying22
  go_enter Try.func39, Try.ntmps39
  go_wp2_with fail
  go_ret
  exact ⟨rfl, rfl⟩
theorem ItemAt.val {base : Nat} {W : World} {p : Nat} {vl : Value} {x : It} (h : ItemAt base W p vl x) : ∃ A n c, x.1 = .slice A n c ∧ A.isNone = x.2.isNone := by
  unfold ItemAt at h
  cases hx : x.2 with
  | none => rw [hx] at h; exact ⟨none, 0, 0, h, rfl⟩
  | some b =>
    rw [hx] at h
    obtain ⟨a, n, cap, h1, -⟩ := h
    exact ⟨some a, n, cap, h1, rfl⟩
section
variable {base : Nat} {W : World} {p : Nat} {vl : Value} {ls : List It} {c : Cs} {dn : Int} {sh : Bool}
theorem ixf_any (h : ChV base W p vl ls c dn sh) (hlen : ls.length ≤ 100000) :
    Calls Try.prog 61 #[vl, .func (.func 39) #[] #[]] W fun e w' => ∃ r : Int, e = .returned (.int .i64 r) ∧ decide (0 ≤ r) = (ls.any fun x => x.2.isNone) ∧ W = w' := by
  obtain ⟨A, cap, rfl, h1, h2⟩ := h.len
  have H := Lib.hid h
  obtain ⟨N, hN⟩ : ∃ N, N = ls.length := ⟨_, rfl⟩
  rw [← hN] at hlen h1 ⊢
  have HN := Lib.hid hN
  have HAT := Lib.hid (fun k x hx => h.at_ (k := k) (x := x) hx)
  rw [← hN] at H
  clear hN h
  go_enter Try.func61, Try.ntmps61
  go_wp2_with fail
  go_loop [8] (fun v8 => ∃ k : Nat, k ≤ N ∧ v8 = .int .i64 k ∧ Hid (∀ j x, j < k → ls[j]? = some x → x.2.isNone = false)) (fun v8 => N - (intOf v8).toNat)
  case atStart => exact ⟨0, by omega, rfl, fun j x h => by omega⟩
  case round =>
    obtain ⟨k, hk, rfl, hno⟩ := hrel
    by_cases hlt : k < N
    · have hkl : k < ls.length := by have := HN.out; omega
      obtain ⟨x, hx⟩ : ∃ x, ls[k]? = some x := ⟨_, List.getElem?_eq_getElem hkl⟩
      obtain ⟨b', off, rfl, x0⟩ := HAT.out k x hx
      obtain ⟨Ax, nx, cx, hxv, hxn⟩ := (H.out.2.2.2.2.1 x (List.mem_of_getElem? hx)).val
      rw [hxv] at x0
      have g1 : (k : Int) < (N : Int) := by omega
      have HX := Lib.hid (And.intro hx hxn)
      clear hx hxn hxv
      go_wp2_with fail
      refine (lacks_any Ax nx cx W).mono ?_
      rintro e w' ⟨rfl, rfl⟩
      rw [HX.out.2]
      by_cases he : x.2.isNone = true
      · rw [he]
        have HR := Lib.hid (show decide (0 ≤ (k : Int)) = ls.any fun x => x.2.isNone from by rw [decide_eq_true (by omega)]; exact (List.any_eq_true.2 ⟨x, List.mem_of_getElem? HX.out.1, he⟩).symm)
        clear he
        go_wp2_with fail
        go_ret
        exact ⟨_, rfl, HR.out, rfl⟩
      · rw [Bool.not_eq_true] at he
        rw [he]
        have HNO := Lib.hid (show ∀ j y, j < k + 1 → ls[j]? = some y → y.2.isNone = false from fun j y hj hy => by
          rcases Nat.lt_succ_iff_lt_or_eq.1 hj with h | h
          · exact hno.out j y h hy
          · subst h
            rw [HX.out.1] at hy
            injection hy with hy
            rw [← hy]
            exact he)
        clear he
        go_wp2_with fail
        go_round
        case rel => exact ⟨k + 1, by omega, by go_num, HNO.out⟩
        case measure => simp [intOf]; omega
    · obtain rfl : k = N := by omega
      have HR := Lib.hid (show decide (0 ≤ (-1 : Int)) = ls.any fun x => x.2.isNone from by
        have : (ls.any fun x => x.2.isNone) = false := by
          rw [Bool.eq_false_iff]
          intro e
          obtain ⟨y, hy, h⟩ := List.any_eq_true.1 e
          obtain ⟨j, hj, rfl⟩ := List.getElem_of_mem hy
          have := hno.out j _ (by have := HN.out; omega) (List.getElem?_eq_getElem hj)
          rw [this] at h
          cases h
        rw [this]
        decide)
      clear hno
      go_wp2_with fail
      go_ret
      exact ⟨_, rfl, HR.out, rfl⟩
theorem cf_any (h : ChV base W p vl ls c dn sh) (hlen : ls.length ≤ 100000) :
    Calls Try.prog 38 #[vl, .func (.func 39) #[] #[]] W fun e w' => e = .returned (.bool (ls.any fun x => x.2.isNone)) ∧ W = w' := by
  have HI := Lib.hid (ixf_any h hlen)
  generalize (ls.any fun x => x.2.isNone) = Z at HI ⊢
  clear h
  go_enter Try.func38, Try.ntmps38
  go_wp2_with fail
  refine HI.out.mono ?_
  rintro e w' ⟨r, rfl, hr, rfl⟩
  have HR := Lib.hid hr
  clear hr
  go_wp2_with fail
  go_ret
  exact ⟨by rw [← HR.out]; rfl, rfl⟩
theorem full_of (h : ChV base W p vl ls c dn sh) : c.full = (decide (ls ≠ []) && !(ls.any fun x => x.2.isNone)) := by
  unfold Cs.full
  rw [h.2.2.2.1, List.any_map]
  congr 1
  cases ls <;> simp
theorem rows_of (h : ChV base W p vl ls c dn sh) (hf : (ls.any fun x => x.2.isNone) = false) : ∃ ss, RowsAt W vl ss ∧ joinL ss = allB c.l := by
  refine ⟨ls.map fun x => (x.1, x.2.getD []), ⟨?_, fun y hy => ?_⟩, ?_⟩
  · rw [List.map_map]; exact h.2.2.1.rdr
  · obtain ⟨x, hx, rfl⟩ := List.mem_map.1 hy
    have h1 := h.2.2.2.2.1 x hx
    have h2 : x.2.isNone = false := by
      rw [Bool.eq_false_iff]
      intro e
      rw [Bool.eq_false_iff] at hf
      exact hf (List.any_eq_true.2 ⟨x, hx, e⟩)
    unfold ItemAt at h1
    cases hxb : x.2 with
    | none => rw [hxb] at h2; cases h2
    | some b =>
      rw [hxb] at h1
      obtain ⟨a, n, cap, q1, q2, q3⟩ := h1
      exact q2.bs
  · unfold joinL allB
    rw [h.2.2.2.1, List.flatMap_map, List.flatMap_map]
theorem chwhole_any (h : ChV base W p vl ls c dn sh) (hlen : c.l.length ≤ 256) (hal : (allB c.l).length ≤ 2000000) (hs : 0 ≤ c.s ∧ c.s ≤ 4294967295) :
    Calls Try.prog 14 #[.pointer (some ⟨p, 0, none⟩)] W fun e w' => ∃ A n cap, e = .returned (.tuple #[.slice A n cap, .bool c.whole.isSome]) ∧ Fresh W.heap.size w' (.slice A n cap) (c.whole.getD []) ∧ Same W w' := by
  obtain ⟨A, cap, hvl, h1, h2⟩ := h.len
  have hll := h.llen
  have HC := Lib.hid (fun W' hs => cf_any (h.same (W' := W') hs) (by omega))
  have HF := Lib.hid (full_of h)
  have HRW := Lib.hid (fun hf => rows_of h hf)
  have H := Lib.hid h
  have HAL := Lib.hid hal
  obtain ⟨wh, hwh⟩ : ∃ x, x = c.whole := ⟨_, rfl⟩
  rw [← hwh]
  have HWH := Lib.hid hwh
  have c2 := h.2.1.1 2 _ rfl
  subst hvl
  obtain ⟨N, hN⟩ : ∃ N, N = ls.length := ⟨_, rfl⟩
  rw [← hN] at h1 hll c2 HC HRW H
  have HN := Lib.hid hN
  have hN256 : N ≤ 256 := by omega
  obtain ⟨Z, hZ⟩ : ∃ Z, Z = ls.any fun x => x.2.isNone := ⟨_, rfl⟩
  rw [← hZ] at HC HF HRW
  clear hN hZ hwh hal h hll
  by_cases h0 : N = 0
  · subst h0
    have hw0 : Hid (wh = none) := by
      show _ = _
      rw [HWH.out]
      unfold Cs.whole
      have : ls = [] := List.length_eq_zero_iff.1 HN.out.symm
      rw [HF.out, this]
      simp
    go_enter Try.func14, Try.ntmps14
    go_wp2_with fail
    go_ret2
    rw [hw0.out]
    exact ⟨_, _, _, rfl, Fresh.nil _ _, Upd.refl _ _⟩
  · have hb0 : (((N : Nat) : Int) == 0) = false := by simpa using h0
    have hl0 : ls ≠ [] := fun e => h0 (by rw [HN.out, e]; rfl)
    have HL0 := Lib.hid hl0
    clear h0 hl0
    go_enter Try.func14, Try.ntmps14
    go_wp2_with fail
    refine (HC.out W (Upd.refl _ _)).mono ?_
    rintro e w1 ⟨rfl, rfl⟩
    cases hZ : Z with
    | true =>
      have hw0 : Hid (wh = none) := by
        show _ = _
        rw [HWH.out]
        unfold Cs.whole
        rw [HF.out, hZ]
        simp
      clear hZ
      go_wp2_with fail
      go_ret2
      rw [hw0.out]
      exact ⟨_, _, _, rfl, Fresh.nil _ _, Upd.refl _ _⟩
    | false =>
      obtain ⟨ss, hrw, hj⟩ := HRW.out hZ
      have HJ := Lib.hid hj
      have HRS := Lib.hid hrw
      have hfu : c.full = true := by rw [HF.out, hZ]; simp [HL0.out]
      have hwd : wh = if (allB c.l).length ≤ 65536 ∧ u32v (crcSum (allB c.l)) = c.s then some (allB c.l) else none := by
        rw [HWH.out]
        unfold Cs.whole
        rw [hfu]
        simp
      obtain ⟨al, hal⟩ : ∃ x, x = allB c.l := ⟨_, rfl⟩
      rw [← hal] at hwd HJ HAL
      have HWD := Lib.hid hwd
      clear hZ hrw hj hfu hwd hal
      go_wp2_with fail
      refine (concat_bs _ ss W HRS.out (by rw [← joinL_length, HJ.out]; have := HAL.out; omega)).mono ?_
      rintro e w2 ⟨v2, rfl, hf2, hs2⟩
      rw [HJ.out] at hf2
      obtain ⟨A2, n2, k2, rfl⟩ := Fresh.shape hf2
      have hn2 : n2 = al.length := by
        obtain ⟨_, _, _, e, h1, _⟩ := hf2
        injection e with _ e2 _
        subst e2
        simpa using h1.symm
      subst hn2
      obtain ⟨M, hM⟩ : ∃ M, M = al.length := ⟨_, rfl⟩
      rw [← hM] at hf2 HAL ⊢
      have HM := Lib.hid hM
      have HF2 := Lib.hid hf2
      have HS2 := Lib.hid hs2
      have c1 := (H.out.same hs2).2.1.1 1 _ rfl
      clear hM hf2 hs2 c2
      go_upto_region 4 with (fail)
      by_cases hb : M ≤ 65536
      · have hb2 : ¬ (65536 : Int) < (M : Int) := by omega
        have hdb : decide ((65536 : Int) < (M : Int)) = false := decide_eq_false hb2
        obtain ⟨Q, hQ⟩ : ∃ Q, Q = u32v (crcSum al) := ⟨_, rfl⟩
        have HQ := Lib.hid hQ
        have hsm := fun W' hs => (sum_bs _ al W' (HF2.out.bs.same (w' := W') hs)).mono (fun e w'' (h : _ ∧ _) => And.intro h.1 h.2.symm)
        rw [← hQ] at hsm
        have HSM := Lib.hid hsm
        clear hQ hsm
        by_cases hq : Q = c.s
        · have hqb : (Q != c.s) = false := by simpa using hq
          have HW2 : Hid (wh = some al) := by show _ = _; rw [HWD.out, if_pos ⟨by rw [← HM.out]; exact hb, by rw [← HQ.out]; exact hq⟩]
          clear hb hq
          go_quiet ((go_at_call 31; exact Calls.quiet_of_same (HSM.out _ (by first | exact Upd.refl _ _ | exact (Upd.refl _ _).drewN _ | exact (Upd.refl _ _).drew))))
          go_wp2_with fail
          go_ret2
          rw [HW2.out]
          exact ⟨_, _, _, rfl, HF2.out.same ((Upd.refl _ w2).drewN _), HS2.out.drewN _⟩
        · have hqb : (Q != c.s) = true := by simpa using hq
          have HW2 : Hid (wh = none) := by show _ = _; rw [HWD.out, if_neg (fun h => hq (by rw [HQ.out]; exact h.2))]
          clear hb hq
          go_quiet ((go_at_call 31; exact Calls.quiet_of_same (HSM.out _ (by first | exact Upd.refl _ _ | exact (Upd.refl _ _).drewN _ | exact (Upd.refl _ _).drew))))
          go_wp2_with fail
          go_ret2
          rw [HW2.out]
          exact ⟨_, _, _, rfl, Fresh.nil _ _, HS2.out.drewN _⟩
      · have hb2 : (65536 : Int) < (M : Int) := by omega
        have hdb : decide ((65536 : Int) < (M : Int)) = true := decide_eq_true hb2
        have HW2 : Hid (wh = none) := by show _ = _; rw [HWD.out, if_neg (fun h => hb (by rw [HM.out]; exact h.1))]
        clear hb
        go_quiet (fail)
        go_wp2_with fail
        go_ret2
        rw [HW2.out]
        exact ⟨_, _, _, rfl, Fresh.nil _ _, HS2.out.drewN _⟩
end
end Go.Proofs.Ytccbkagmglddfaa
