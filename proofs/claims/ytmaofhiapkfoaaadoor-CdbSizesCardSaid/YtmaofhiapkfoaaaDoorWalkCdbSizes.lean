/- The walk of CdbSizes. -/
import Derived.Test.YtmaofhiapkfoaaaDoorCdbS
import Derived.Test.YtmaofhiapkfoaaaDoorCdbG
import Derived.Test.YtmaofhiapkfoaaaDoorOpenC
import Derived.Deep.QuietTactic
import Derived.BigQuiet
import Derived.Deep.RegionLaw
import Derived.Deep.DeepCutAuto
import Derived.Deep.CutRange
import Derived.Deep.CutBlock
namespace Go.Proofs.YtmaofhiapkfoaaaDoor
open Go.RowKit
set_option linter.unusedVariables false
set_option linter.unusedSimpArgs false
set_option maxRecDepth 100000
theorem sizeN_cases (op : Int) : (sizeN op = 0 ∧ findK op = none) ∨ ((sizeN op = 6 ∨ sizeN op = 10 ∨ sizeN op = 12 ∨ sizeN op = 16) ∧ 0 ≤ op ∧ op ≤ 255 ∧ ∃ k, findK op = some k ∧ sizeN op = szK k) := by
  unfold sizeN
  cases hk : findK op with
  | none => exact .inl ⟨rfl, rfl⟩
  | some k =>
    obtain ⟨hk14, hko⟩ := findK_some hk
    have := tb_i64 k hk14 0 (by omega)
    exact .inr ⟨(szK_fit k hk14).1, by omega, by omega, k, rfl, rfl⟩
/-- What the law asks of a command that can not be built. -/
theorem sizes_err (c : Cmd) (h : cE c ≠ 0) : (decide (0 < sizeN c.op) == (cE c != 1)) = true := by
  rcases sizeN_cases c.op with ⟨h1, h2⟩ | ⟨h1, h2, h3, k, h4, h5⟩
  · have : cE c = 1 := by unfold cE buildE; rw [h2]
    rw [h1, this]
    rfl
  · have : cE c ≠ 1 := by
      unfold cE buildE
      rw [h4]
      simp only
      unfold buildK
      split
      · omega
      · split <;> omega
    have h6 : 0 < sizeN c.op := by omega
    simp [h6, this]
set_option maxHeartbeats 4000000 in
theorem cdbSizes_walk0 (w : World) (hT : Tab15 w) (hS : Siz8 w) (c : Cmd) (hc : c.ok) (op2 : Int) (ho : -9223372036854775808 ≤ op2 ∧ op2 ≤ 9223372036854775807) :
    Calls Tryd.prog 4 #[.agg c.cells, .int .i64 op2] w fun e w' => e = .returned (.bool true) ∧ Same w w' := by
  have hg := fun W => given_any c W
  have hb := fun W hT => build_any c W hc hT
  have hlen : cE c = 0 → (cL c).length = 16 := cL_length
  have hz1 := fun W hT hS => size_any op2 W hT hS ho.1 ho.2
  have hz2 := fun W hT hS => size_any c.op W hT hS hc.1.1 hc.1.2
  have herr := sizes_err c
  have hat := fun k (hk : findK c.op = some k) (h : cE c = 0) j (hj : j < 16) => cL_at hk h j hj
  have hnz : cE c = 0 → ∃ k, findK c.op = some k := fun h => by
    cases hk : findK c.op with
    | none => unfold cE buildE at h; rw [hk] at h; simp at h
    | some k => exact ⟨k, rfl⟩
  have hcs := sizeN_cases op2
  have hcs2 := sizeN_cases c.op
  generalize cE c = E at hb hlen herr hat hnz
  generalize cL c = L at hb hlen hat
  generalize sizeN op2 = n at hz1 hcs
  generalize sizeN c.op = k at hz2 hcs2 herr
  have hcs' : (n = 0 ∨ n = 6 ∨ n = 10 ∨ n = 12 ∨ n = 16) ∧ (n = 0 ∨ (0 ≤ op2 ∧ op2 ≤ 255)) := by
    rcases hcs with ⟨h, _⟩ | ⟨h, h2, h3, _⟩
    · exact ⟨.inl h, .inl h⟩
    · exact ⟨by omega, .inr ⟨h2, h3⟩⟩
  clear hcs
  generalize hcc : c.cells = CC at hg hb ⊢
  have hcc2 : CC = #[.int .i64 c.op, .int .i64 c.service, .int .i64 c.page, .bool c.vital, .int .i64 c.typ, .int .u64 c.lba, .int .i64 c.len] := by rw [← hcc]; rfl
  have hopr := hc.1
  obtain ⟨op, service, page, vital, typ, lba, len⟩ := c
  simp only at hcc2 hz2 hat hnz hcs2 hopr
  subst hcc2
  have HG := Lib.hid hg
  have HB := Lib.hid hb
  have HLEN := Lib.hid hlen
  have HZ1 := Lib.hid hz1
  have HZ2 := Lib.hid hz2
  have HERR := Lib.hid herr
  have HAT := Lib.hid hat
  have HNZ := Lib.hid hnz
  have HCS := Lib.hid hcs2
  have HT := Lib.hid hT
  have HS := Lib.hid hS
  have HCS' := Lib.hid hcs'
  clear hg hb hlen hz1 hz2 herr hat hnz hcs2 hT hS hcc hc ho hcs'
  go_enter Tryd.func4, Tryd.ntmps4
  go_wp2_with fail
  refine (HZ1.out _ (HT.out.same ((Upd.refl _ w).alloc _)) (HS.out.same ((Upd.refl _ w).alloc _))).mono ?_
  rintro e w1 ⟨rfl, hs1⟩
  have hs1' := Same.trans ((Upd.refl (fun _ => False) w).alloc _) hs1
  obtain ⟨q0, q1, q2, q3, q4, q5, q6⟩ := box7 w 24 _ _ _ _ _ _ _ w1 hs1
  have HW1 := Lib.hid hs1'
  clear hs1 hs1'
  obtain ⟨hn, hop⟩ := HCS'.out
  have hopB : n = 0 ∨ (decide (op2 < 0) = false ∧ decide (255 < op2) = false) := by
    rcases hop with h | ⟨h1, h2⟩
    · exact .inl h
    · exact .inr ⟨by simp; omega, by simp; omega⟩
  clear hop HCS'
  have hz1 : w.heap.size < w1.heap.size := by have := HW1.out.size; have := cell_lt' q0; simpa using this
  rcases (show (n = 0) ∨ (n ≠ 0 ∧ (n = 6 ∨ n = 10 ∨ n = 12 ∨ n = 16)) by omega) with rfl | ⟨h0, hn'⟩
  case' inr =>
    obtain ⟨o1, o2⟩ := hopB.resolve_left h0
    clear hn h0 hopB
    rcases hn' with rfl | rfl | rfl | rfl
  all_goals
    go_wp2_with fail
    refine (HG.out _).mono ?_
    rintro e w2 ⟨rfl, hs2⟩
    have HW2 := Lib.hid (Same.trans HW1.out hs2)
    go_wp2_with fail
    refine (HB.out _ (HT.out.same HW2.out)).mono ?_
    rintro e w3 ⟨v3, rfl, hf3, hs3⟩
    replace q0 := hs3.cell (hs2.cell q0 id) id
    have hz3 : w.heap.size < w3.heap.size := by have := hs3.size; have := hs2.size; omega
    have HW3 := Lib.hid (Same.trans HW2.out hs3)
    clear hs2 hs3 q1 q2 q3 q4 q5 q6 HW1
    by_cases hE : E = 0
    · subst hE
      have hl16 := HLEN.out rfl
      obtain ⟨k0, hk0⟩ := HNZ.out rfl
      have hks : (k = 6 ∨ k = 10 ∨ k = 12 ∨ k = 16) ∧ k = szK k0 := by
        rcases HCS.out with ⟨_, h⟩ | ⟨h1, h2, h3, k1, h4, h5⟩
        · rw [hk0] at h; cases h
        · rw [hk0] at h4; injection h4 with h4; subst h4; exact ⟨h1, h5⟩
      have hat := fun j hj => HAT.out k0 hk0 (by trivial) j hj
      rw [← hks.2] at hat
      obtain ⟨b2, o2', cp, rfl, hcap⟩ : ∃ b off cp, v3 = .slice (some ⟨b, off, none⟩) 16 cp ∧ 16 ≤ cp := by
        rcases hf3.bs.cases with ⟨e, _⟩ | ⟨_, b, off, cp, rfl, e, _⟩
        · rw [e] at hl16; simp at hl16
        · exact ⟨b, off, cp, by rw [hl16], by omega⟩
      have hk6 : 6 ≤ k ∧ k ≤ 16 := by omega
      have HAT2 := Lib.hid hat
      have HF3 := Lib.hid hf3
      clear hat hf3 hks hk0 HCS HAT HNZ HLEN HERR HB HG
      go_wp2_with fail
      refine (HZ2.out _ (HT.out.same HW3.out) (HS.out.same HW3.out)).mono ?_
      rintro e w4 ⟨rfl, hs4⟩
      replace q0 := hs4.cell q0 id
      have hz4 : w.heap.size < w4.heap.size := by have := hs4.size; omega
      have hf4 := (HF3.out.same hs4).mono HW2.out.size
      obtain ⟨x0, -⟩ := Fresh.at_ hf4 0 (by omega)
      rw [(HAT2.out 0 (by omega)).1 rfl] at x0
      simp only [Nat.add_zero] at x0
      have HW4 := Lib.hid (Same.trans HW3.out hs4)
      have HF4 := Lib.hid hf4
      clear hs4 hf4 HF3 HW3 HW2
      have t6 : decide (k < 6) = false := by simp; omega
      go_wp2_with fail
      go_quiet (fail)
      go_wp2_with fail
      go_loopw [9] (fun v9 wr => ∃ j : Nat, k - 1 ≤ (j : Int) ∧ j ≤ 16 ∧ v9 = .int .i64 j ∧ Hid (Fresh w.heap.size wr (.slice (some ⟨b2, o2', none⟩) 16 cp) L ∧ Same w wr)) (fun v9 _ => 16 - (intOf v9).toNat)
      case atStart => exact ⟨(k - 1).toNat, by omega, by omega, by rw [show (((k - 1).toNat : Nat) : Int) = k - 1 by omega], HF4.out.same ((Upd.refl _ _).drewN _), Same.trans HW4.out ((Upd.refl _ _).drewN _)⟩
      case round =>
        obtain ⟨j, hj1, hj2, rfl, hin⟩ := hrel
        obtain ⟨hfr, hsr⟩ := hin.out
        by_cases hlt : j < 16
        · have g0 : (j : Int) < 16 := by omega
          obtain ⟨y0, -⟩ := Fresh.at_ hfr j (by omega)
          rw [(HAT2.out j hlt).2 hj1] at y0
          clear hfr hsr x0 q0
          go_wp2_with fail
          go_roundw
          case rel => exact ⟨j + 1, by omega, by omega, by go_num, hin⟩
          case measure => simp [intOf]; omega
        · obtain rfl : j = 16 := by omega
          clear hin
          go_wp2_with fail
          refine (known_any _ (HT.out.same hsr)).mono ?_
          rintro e w5 ⟨rfl, hs5⟩
          go_wp2_with fail
          go_ret
          exact ⟨rfl, Same.trans hsr hs5⟩
    · have hne : (E != 0) = true := by simpa using hE
      have herr := HERR.out hE
      clear hE hf3 HERR HAT HNZ HCS HLEN HB HG
      go_wp2_with fail
      refine (HZ2.out _ (HT.out.same HW3.out) (HS.out.same HW3.out)).mono ?_
      rintro e w4 ⟨rfl, hs4⟩
      have HW4 := Lib.hid (Same.trans HW3.out hs4)
      clear hs4
      go_wp2_with fail
      refine (known_any _ (HT.out.same HW4.out)).mono ?_
      rintro e w5 ⟨rfl, hs5⟩
      go_wp2_with fail
      go_ret
      exact ⟨rfl, Same.trans HW4.out hs5⟩
theorem cdbSizes_walk (w : World) (hT : Tab15 w ∧ Siz8 w) (v : Value) (c : Cmd) (h : CmdIn w v c) (op2 : Int) (ho : -9223372036854775808 ≤ op2 ∧ op2 ≤ 9223372036854775807) :
    Calls Tryd.prog 4 #[v, .int .i64 op2] w fun e w' => e = .returned (.bool true) ∧ Same w w' := by
  obtain ⟨rfl, hc⟩ := h
  exact cdbSizes_walk0 w hT.1 hT.2 c hc op2 ho
end Go.Proofs.YtmaofhiapkfoaaaDoor
