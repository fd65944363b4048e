/- What the reference's Reader does. -/
import Derived.Test.YtgfdadbgbdcehaaReaderB
import Derived.Test.YtgfdadbgbdcehaaCutR
import Derived.Test.YtgfdadbgbdcehaaWalkFieldParts
namespace Go.Proofs.Ytgfdadbgbdcehaa
open Go.RowKit
set_option linter.unusedVariables false
set_option linter.unusedSimpArgs false

/-- Of. -/
theorem of_any (v : Value) (bs : List UInt8) (w : World) (h : Bs w v bs) (hl : bs.length ≤ 200000000000000) :
    Calls Try.prog 42 #[v] w fun r w' => ∃ p v', r = .returned (.pointer (some ⟨p, 0, none⟩)) ∧ WObj w.heap.size w' p v' bs 0 ∧ Same w w' := by
  have ho : WObj w.heap.size (w.alloc (.cells #[.slice none 0 0, .int .i64 0] 81)) w.heap.size (.slice none 0 0) [] 0 := ⟨Nat.le_refl _, Cell2.new w _ _ _ _ rfl, Fresh.nil _ _, by simp [room]⟩
  obtain ⟨d0, d1, d2, d3⟩ := ho.2.1
  have hs : Same w (w.alloc (.cells #[.slice none 0 0, .int .i64 0] 81)) := (Upd.refl _ w).alloc _
  have HO := Lib.hid ho
  have HB := Lib.hid (h.same hs)
  have HS := Lib.hid hs
  clear ho h hs
  go_enter Try.func42, Try.ntmps42
  go_wp2_with (at_builtin; refine wpl_append_bytes rfl (.tmp 10) (.tmp 11) 28 rfl Try.underlying28 li5 w.heap.size (.slice none 0 0) v [] bs bs rfl rfl rfl (Fresh.nil _ _) HB.out (by simp) (by simpa using hl) ?_; intro z1 w1 hf1 hu1 hr1; obtain ⟨zA, zc, rfl⟩ := Fresh.shape' hf1; obtain ⟨k0, k1, k2, k3⟩ := HO.out.2.1.upd hu1 HO.out.2.2.2; have HF := Lib.hid hf1; have HU1 := Lib.hid hu1; have HR1 := Lib.hid hr1; clear hf1 hu1 hr1)
  go_ret
  have hg := Grew.row HO.out (by simp) HU1.out HF.out HR1.out
  obtain ⟨v', g1, g2, g3⟩ := hg
  refine ⟨_, v', rfl, g1, Same.into HS.out g2 ?_⟩
  rintro k (rfl | e)
  · exact Nat.le_refl _
  · simp [room] at e
set_option maxHeartbeats 2000000 in
/-- A number. -/
theorem rrnum_any {base : Nat} (p : Nat) (v : Value) (bs : List UInt8) (e size : Int) (w : World) (h : WObj base w p v bs e) (hl : bs.length ≤ 140737488355328) (h3 : -9223372036854775808 ≤ size) (h4 : size ≤ 9223372036854775807) :
    Calls Try.prog 46 #[.pointer (some ⟨p, 0, none⟩), .int .i64 size] w fun r w' => r = .returned (.int .i64 (rnN bs e size)) ∧ Rd base w p v w' (rnL bs e size) (rnE e size bs.length) := by
  obtain ⟨c0, c1, c2, c3⟩ := h.2.1
  by_cases he : e = 0
  · subst he
    by_cases hs : size < 1 ∨ 8 < size
    · have hE : rnE 0 size bs.length = 1 := by unfold rnE; rw [if_neg (by simp), if_pos hs]
      have hN : rnN bs 0 size = 0 := by unfold rnN; rw [hE, if_neg (by decide)]
      have hL : rnL bs 0 size = bs := by unfold rnL; rw [hE, if_neg (by decide)]
      rw [hE, hN, hL]
      have HG := Lib.hid (Rd.err h 1)
      clear hE hN hL h
      rcases hs with hs | hs
      all_goals
        go_enter Try.func46, Try.ntmps46
        go_wp2_with fail
        go_ret
        exact ⟨rfl, HG.out⟩
    · have hg := rget_bs v bs 0 size w h.2.2.1.bs (by decide) (by decide) h3 h4
      have hs1 : ¬ size < 1 := by omega
      have hs2 : ¬ 8 < size := by omega
      obtain ⟨A, cap, rfl⟩ := Fresh.shape' h.2.2.1
      by_cases hlen : (bs.length : Int) < size
      · have hE : rnE 0 size bs.length = 10 := by unfold rnE; rw [if_neg (by simp), if_neg hs, if_pos hlen]
        have hN : rnN bs 0 size = 0 := by unfold rnN; rw [hE, if_neg (by decide)]
        have hL : rnL bs 0 size = bs := by unfold rnL; rw [hE, if_neg (by decide)]
        rw [hE, hN, hL]
        have HG := Lib.hid (Rd.err h 10)
        clear hE hN hL h hg hs
        go_enter Try.func46, Try.ntmps46
        go_wp2_with fail
        go_ret
        exact ⟨rfl, HG.out⟩
      · have ht : thereB bs.length 0 size = true := by simp [thereB]; omega
        have hE : rnE 0 size bs.length = 0 := by unfold rnE; rw [if_neg (by simp), if_neg hs, if_neg hlen]
        have hN : rnN bs 0 size = wrap64 (valB (bs.take size.toNat)) := by unfold rnN; rw [hE, if_pos rfl]
        have hL : rnL bs 0 size = bs.drop size.toNat := by unfold rnL; rw [hE, if_pos rfl]
        have hgE : getE bs.length 0 size = 0 := by unfold getE; rw [ht]; rfl
        have hgN : getN bs 0 size = valB (bs.take size.toNat) := by unfold getN; rw [ht]; rfl
        rw [hE, hN, hL]
        rw [hgE, hgN] at hg
        obtain ⟨m, rfl⟩ : ∃ m : Nat, size = (m : Int) := ⟨size.toNat, by omega⟩
        rw [Int.toNat_natCast] at hg ⊢
        have hV := valB_range (bs.take m)
        have hV2 : valB (bs.take m) ≤ 18446744073709551615 := by
          have h5 : (bs.take m).length ≤ 8 := by simp; omega
          have h6 : 256 ^ (bs.take m).length ≤ 256 ^ 8 := Nat.pow_le_pow_right (by decide) h5
          have h7 : ((256 ^ (bs.take m).length : Nat) : Int) = (256 : Int) ^ (bs.take m).length := by rw [Int.natCast_pow]; rfl
          have h8 := hV.2
          omega
        have hV1 := hV.1
        generalize valB (bs.take m) = V at hg hV1 hV2
        obtain ⟨hf, hr⟩ := h.2.2.1.drop m (by omega)
        have hG := Rd.later h hf hr
        have hlm : m ≤ bs.length := by omega
        have HQ := Lib.hid hg
        have hu64 : IntKind.i64.wrap V = wrap64 V := by unfold wrap64; exact IntKind.wrap_i64 V
        clear hE hN hL hg ht hgE hgN hs hV hf hr
        have hm1 : 1 ≤ m ∧ m ≤ 8 := by omega
        have hlc := (Lentd.cap h.2.2.1).1
        obtain ⟨b, off, rfl⟩ := Fresh.addr h.2.2.1 (by omega)
        have hlm2 : ¬ bs.length < m := by omega
        by_cases hcm : cap = m
        · simp only [if_pos hcm] at hG
          rw [show bs.length - m = 0 by omega, show cap - m = 0 by omega] at hG
          have HG := Lib.hid hG
          clear hG h
          subst hcm
          go_enter Try.func46, Try.ntmps46
          go_wp2_with fail
          refine HQ.out.mono ?_
          rintro r w' ⟨rfl, rfl⟩
          go_wp2_with fail
          go_ret
          exact ⟨rfl, HG.out⟩
        · simp only [if_neg hcm] at hG
          simp only [Option.map_some, Addr.add_lit] at hG
          have HG := Lib.hid hG
          clear hG h
          go_enter Try.func46, Try.ntmps46
          go_wp2_with fail
          refine HQ.out.mono ?_
          rintro r w' ⟨rfl, rfl⟩
          go_wp2_with fail
          go_ret
          exact ⟨rfl, HG.out⟩
  · have hE : rnE e size bs.length = e := by unfold rnE; rw [if_pos he]
    have hN : rnN bs e size = 0 := by unfold rnN; rw [hE, if_neg he]
    have hL : rnL bs e size = bs := by unfold rnL; rw [hE, if_neg he]
    rw [hE, hN, hL]
    have hne : (e != 0) = true := by simpa using he
    have HG := Lib.hid (Rd.refl h)
    clear hE hN hL h
    go_enter Try.func46, Try.ntmps46
    go_wp2_with fail
    go_ret
    exact ⟨rfl, HG.out⟩
/-- Bytes. -/
theorem rrbytes_any {base : Nat} (p : Nat) (v : Value) (bs : List UInt8) (e size : Int) (w : World) (h : WObj base w p v bs e) (hb : base ≤ w.heap.size) (hl : bs.length ≤ 140737488351232) (h3 : -9223372036854775808 ≤ size) (h4 : size ≤ 9223372036854775807) :
    Calls Try.prog 43 #[.pointer (some ⟨p, 0, none⟩), .int .i64 size] w fun r w' => ∃ u, r = .returned u ∧ Fresh w.heap.size w' u (rbP bs e size) ∧ Grew base w p v w' (rbL bs e size) (rbE bs e size) := by
  obtain ⟨c0, c1, c2, c3⟩ := h.2.1
  by_cases he : e = 0
  · subst he
    rw [show rbP bs 0 size = cutP bs size by simp [rbP], show rbE bs 0 size = cutE bs size by simp [rbE], show rbL bs 0 size = if cutE bs size = 0 then bs.drop (cutN bs size).toNat else bs by simp [rbL]]
    have hc := rCut_bs v bs size w h.2.2.1.bs hl h3 h4
    obtain ⟨A, cap, rfl⟩ := Fresh.shape' h.2.2.1
    have HO := Lib.hid h
    by_cases hE : cutE bs size = 0
    · have hR : cutR bs size = bs.drop (cutN bs size).toNat := by unfold cutR cutN; rw [if_pos hE, if_pos hE]
      rw [if_pos hE, hE, ← hR]
      rw [hE] at hc
      generalize cutP bs size = CP at hc
      generalize cutR bs size = CR at hc
      have HC := Lib.hid hc
      clear hc hE h hR
      go_enter Try.func43, Try.ntmps43
      go_wp2_with fail
      refine HC.out.mono ?_
      rintro r w1 ⟨u1, u2, rfl, hf1, hf2, hs1⟩
      obtain ⟨d0, d1, d2, d3⟩ := (HO.out.upd hs1 fun _ _ h => h).2.1
      obtain ⟨A2, cap2, rfl⟩ := Fresh.shape' hf2
      have hG := Grew.row HO.out hb (hs1.mono fun _ _ h => h.elim) (hf2.mono hb) (fun k hk => .inr (hf2.ge k hk).1)
      have HU := Lib.hid hf1
      have HG := Lib.hid hG
      clear hf1 hf2 hs1 hG
      go_wp2_with fail
      go_ret
      exact ⟨_, rfl, HU.out.upd ((Upd.refl (fun k => k = p) w1).setCell (p := ⟨p, 0, none⟩) (fun _ => rfl) _) (fun k hk e => by have := (HU.out.ge k hk).1; have := HO.out.2.1.lt; omega), HG.out⟩
    · rw [if_neg hE]
      have hP : cutP bs size = [] := by unfold cutP; rw [if_neg hE]
      rw [hP] at hc ⊢
      generalize cutR bs size = CR at hc
      generalize cutE bs size = CE at hc hE
      have hne : (CE != 0) = true := by simpa using hE
      have HC := Lib.hid hc
      clear hc hE h hP
      go_enter Try.func43, Try.ntmps43
      go_wp2_with fail
      refine HC.out.mono ?_
      rintro r w1 ⟨u1, u2, rfl, hf1, hf2, hs1⟩
      have ho := HO.out.upd hs1 fun _ _ h => h
      have d1 := ho.2.1.2.1
      have d3 := ho.2.1.2.2.2
      have hG := Grew.trans (w := w) (hs1.mono fun _ _ h => h.elim) (fun k hk => .inl hk) (Grew.err ho CE)
      have HG := Lib.hid hG
      clear hf1 hf2 hs1 ho hG
      go_wp2_with fail
      go_ret
      exact ⟨_, rfl, Fresh.nil _ _, HG.out⟩
  · rw [show rbP bs e size = [] by simp [rbP, he], show rbE bs e size = e by simp [rbE, he], show rbL bs e size = bs by simp [rbL, he]]
    have hne : (e != 0) = true := by simpa using he
    have HG := Lib.hid (Grew.refl h)
    clear h
    go_enter Try.func43, Try.ntmps43
    go_wp2_with fail
    go_ret
    exact ⟨_, rfl, Fresh.nil _ _, HG.out⟩
/-- The end. -/
theorem rrend_any {base : Nat} (p : Nat) (v : Value) (bs : List UInt8) (e : Int) (w : World) (h : WObj base w p v bs e) :
    Calls Try.prog 47 #[.pointer (some ⟨p, 0, none⟩)] w fun r w' => r = .returned (.int .i64 (reE e bs.length)) ∧ w = w' := by
  obtain ⟨c0, c1, c2, c3⟩ := h.2.1
  obtain ⟨A, cap, rfl⟩ := Fresh.shape' h.2.2.1
  have hlc := (Lentd.cap h.2.2.1).1
  unfold reE
  by_cases he : e = 0
  · subst he
    by_cases hn : 0 < bs.length
    · rw [if_pos ⟨rfl, hn⟩]
      have g1 : (0 : Int) < (bs.length : Int) := by omega
      clear h
      go_enter Try.func47, Try.ntmps47
      go_wp2_with fail
      go_ret
      exact ⟨rfl, rfl⟩
    · rw [if_neg (by omega)]
      have g1 : bs.length = 0 := by omega
      rw [g1] at c0
      clear h
      go_enter Try.func47, Try.ntmps47
      go_wp2_with fail
      go_ret
      exact ⟨rfl, rfl⟩
  · rw [if_neg (by omega)]
    have hne : (e == 0) = false := by simpa using he
    clear h he
    go_enter Try.func47, Try.ntmps47
    go_wp2_with fail
    go_ret
    exact ⟨rfl, rfl⟩
end Go.Proofs.Ytgfdadbgbdcehaa
