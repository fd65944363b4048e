/- What the reference's Reader does. -/
import Derived.Test.YtmaofhiapkfoaaaDoorReaderBN
namespace Go.Proofs.YtmaofhiapkfoaaaDoor
open Go.RowKit
set_option linter.unusedVariables false
set_option linter.unusedSimpArgs false

/-- Of. -/
theorem of_any (v : Value) (bs : List UInt8) (w : World) (h : Bs w v bs) (hl : bs.length ≤ 200000000000000) :
    Calls Tryd.prog 51 #[v] w fun r w' => ∃ p v', r = .returned (.pointer (some ⟨p, 0, none⟩)) ∧ WObj w.heap.size w' p v' bs 0 ∧ Same w w' := by
  have ho : WObj w.heap.size (w.alloc (.cells #[.slice none 0 0, .int .i64 0] 113)) w.heap.size (.slice none 0 0) [] 0 := ⟨Nat.le_refl _, Cell2.new w _ _ _ _ rfl, Fresh.nil _ _, by simp [room]⟩
  obtain ⟨d0, d1, d2, d3⟩ := ho.2.1
  have hs : Same w (w.alloc (.cells #[.slice none 0 0, .int .i64 0] 113)) := (Upd.refl _ w).alloc _
  have HO := Lib.hid ho
  have HB := Lib.hid (h.same hs)
  have HS := Lib.hid hs
  clear ho h hs
  go_enter Tryd.func51, Tryd.ntmps51
  go_wp2_with (at_builtin; refine wpl_append_bytes rfl (.tmp 10) (.tmp 11) 25 rfl Tryd.underlying25 li5 w.heap.size (.slice none 0 0) v [] bs bs rfl rfl rfl (Fresh.nil _ _) HB.out (by simp) (by simpa using hl) ?_; intro z1 w1 hf1 hu1 hr1; obtain ⟨zA, zc, rfl⟩ := Fresh.shape' hf1; obtain ⟨k0, k1, k2, k3⟩ := HO.out.2.1.upd hu1 HO.out.2.2.2; have HF := Lib.hid hf1; have HU1 := Lib.hid hu1; have HR1 := Lib.hid hr1; clear hf1 hu1 hr1)
  go_ret
  have hg := Grew.row HO.out (by simp) HU1.out HF.out HR1.out
  obtain ⟨v', g1, g2, g3⟩ := hg
  refine ⟨_, v', rfl, g1, Same.into HS.out g2 ?_⟩
  rintro k (rfl | e)
  · exact Nat.le_refl _
  · simp [room] at e
set_option maxHeartbeats 2000000 in
/-- A number. -/
theorem rrnum_any {base : Nat} (p : Nat) (v : Value) (bs : List UInt8) (e size : Int) (w : World) (h : WObj base w p v bs e) (hl : bs.length ≤ 140737488355328) (h3 : -9223372036854775808 ≤ size) (h4 : size ≤ 9223372036854775807) :
    Calls Tryd.prog 52 #[.pointer (some ⟨p, 0, none⟩), .int .i64 size] w fun r w' => r = .returned (.int .i64 (rnN bs e size)) ∧ Rd base w p v w' (rnL bs e size) (rnE e size bs.length) := by
  obtain ⟨c0, c1, c2, c3⟩ := h.2.1
  by_cases he : e = 0
  · subst he
    by_cases hs : size < 1 ∨ 8 < size
    · have hE : rnE 0 size bs.length = 1 := by unfold rnE; rw [if_neg (by simp), if_pos hs]
      have hN : rnN bs 0 size = 0 := by unfold rnN; rw [hE, if_neg (by decide)]
      have hL : rnL bs 0 size = bs := by unfold rnL; rw [hE, if_neg (by decide)]
      rw [hE, hN, hL]
      have HG := Lib.hid (Rd.err h 1)
      clear hE hN hL h
      rcases hs with hs | hs
      all_goals
        go_enter Tryd.func52, Tryd.ntmps52
        go_wp2_with fail
        go_ret
        exact ⟨rfl, HG.out⟩
    · have hg := rget_bs v bs 0 size w h.2.2.1.bs (by decide) (by decide) h3 h4
      have hs1 : ¬ size < 1 := by omega
      have hs2 : ¬ 8 < size := by omega
      obtain ⟨A, cap, rfl⟩ := Fresh.shape' h.2.2.1
      by_cases hlen : (bs.length : Int) < size
      · have hE : rnE 0 size bs.length = 10 := by unfold rnE; rw [if_neg (by simp), if_neg hs, if_pos hlen]
        have hN : rnN bs 0 size = 0 := by unfold rnN; rw [hE, if_neg (by decide)]
        have hL : rnL bs 0 size = bs := by unfold rnL; rw [hE, if_neg (by decide)]
        rw [hE, hN, hL]
        have HG := Lib.hid (Rd.err h 10)
        clear hE hN hL h hg hs
        go_enter Tryd.func52, Tryd.ntmps52
        go_wp2_with fail
        go_ret
        exact ⟨rfl, HG.out⟩
      · have ht : thereB bs.length 0 size = true := by simp [thereB]; omega
        have hE : rnE 0 size bs.length = 0 := by unfold rnE; rw [if_neg (by simp), if_neg hs, if_neg hlen]
        have hN : rnN bs 0 size = wrap64 (valB (bs.take size.toNat)) := by unfold rnN; rw [hE, if_pos rfl]
        have hL : rnL bs 0 size = bs.drop size.toNat := by unfold rnL; rw [hE, if_pos rfl]
        have hgE : getE bs.length 0 size = 0 := by unfold getE; rw [ht]; rfl
        have hgN : getN bs 0 size = valB (bs.take size.toNat) := by unfold getN; rw [ht]; rfl
        rw [hE, hN, hL]
        rw [hgE, hgN] at hg
        obtain ⟨m, rfl⟩ : ∃ m : Nat, size = (m : Int) := ⟨size.toNat, by omega⟩
        rw [Int.toNat_natCast] at hg ⊢
        have hV := valB_range (bs.take m)
        have hV2 : valB (bs.take m) ≤ 18446744073709551615 := by
          have h5 : (bs.take m).length ≤ 8 := by simp; omega
          have h6 : 256 ^ (bs.take m).length ≤ 256 ^ 8 := Nat.pow_le_pow_right (by decide) h5
          have h7 : ((256 ^ (bs.take m).length : Nat) : Int) = (256 : Int) ^ (bs.take m).length := by rw [Int.natCast_pow]; rfl
          have h8 := hV.2
          omega
        have hV1 := hV.1
        generalize valB (bs.take m) = V at hg hV1 hV2
        obtain ⟨hf, hr⟩ := h.2.2.1.drop m (by omega)
        have hG := Rd.later h hf hr
        have hlm : m ≤ bs.length := by omega
        have HQ := Lib.hid hg
        have hu64 : IntKind.i64.wrap V = wrap64 V := by unfold wrap64; exact IntKind.wrap_i64 V
        clear hE hN hL hg ht hgE hgN hs hV hf hr
        have hm1 : 1 ≤ m ∧ m ≤ 8 := by omega
        have hlc := (Lentd.cap h.2.2.1).1
        obtain ⟨b, off, rfl⟩ := Fresh.addr h.2.2.1 (by omega)
        have hlm2 : ¬ bs.length < m := by omega
        by_cases hcm : cap = m
        · simp only [if_pos hcm] at hG
          rw [show bs.length - m = 0 by omega, show cap - m = 0 by omega] at hG
          have HG := Lib.hid hG
          clear hG h
          subst hcm
          go_enter Tryd.func52, Tryd.ntmps52
          go_wp2_with fail
          refine HQ.out.mono ?_
          rintro r w' ⟨rfl, rfl⟩
          go_wp2_with fail
          go_ret
          exact ⟨rfl, HG.out⟩
        · simp only [if_neg hcm] at hG
          simp only [Option.map_some, Addr.add_lit] at hG
          have HG := Lib.hid hG
          clear hG h
          go_enter Tryd.func52, Tryd.ntmps52
          go_wp2_with fail
          refine HQ.out.mono ?_
          rintro r w' ⟨rfl, rfl⟩
          go_wp2_with fail
          go_ret
          exact ⟨rfl, HG.out⟩
  · have hE : rnE e size bs.length = e := by unfold rnE; rw [if_pos he]
    have hN : rnN bs e size = 0 := by unfold rnN; rw [hE, if_neg he]
    have hL : rnL bs e size = bs := by unfold rnL; rw [hE, if_neg he]
    rw [hE, hN, hL]
    have hne : (e != 0) = true := by simpa using he
    have HG := Lib.hid (Rd.refl h)
    clear hE hN hL h
    go_enter Tryd.func52, Tryd.ntmps52
    go_wp2_with fail
    go_ret
    exact ⟨rfl, HG.out⟩
end Go.Proofs.YtmaofhiapkfoaaaDoor
