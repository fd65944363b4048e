/- What field.Reader does: bytes, a number of things, the end; a new one. -/
import Derived.Test.YtgfdadbgbdcehaaReader
namespace Go.Proofs.Ytgfdadbgbdcehaa
open Go.RowKit
set_option linter.unusedVariables false
set_option linter.unusedSimpArgs false

/-- A new reader. -/
theorem newReader_any (v : Value) (bs : List UInt8) (w : World) (h : Bs w v bs) (hl : bs.length ≤ 200000000000000) :
    Calls Try.prog 38 #[v] w fun r w' => ∃ p v', r = .returned (.pointer (some ⟨p, 0, none⟩)) ∧ WObj w.heap.size w' p v' bs 0 ∧ Same w w' := by
  have hc := clone_bs v bs w h hl
  have HC := Lib.hid hc
  clear hc h
  go_enter Try.func38, Try.ntmps38
  go_wp2_with fail
  refine HC.out.mono ?_
  rintro r w1 ⟨v1, rfl, hf1, hs1⟩
  obtain ⟨A, cap, rfl⟩ := Fresh.shape' hf1
  have HF := Lib.hid hf1
  have HS := Lib.hid hs1
  clear hf1 hs1
  go_wp2_with fail
  go_ret
  refine ⟨_, _, rfl, ⟨HS.out.size, Cell2.new _ _ _ _ _ rfl, HF.out.same ((Upd.refl _ _).alloc _), fun e => ?_⟩, HS.out.alloc _⟩
  have := (HF.out.ge _ e).2
  omega
def rbE (bs : List UInt8) (e size : Int) : Int := if e ≠ 0 then e else cutE bs size
def rbL (bs : List UInt8) (e size : Int) : List UInt8 := if e ≠ 0 then bs else if cutE bs size = 0 then bs.drop (cutN bs size).toNat else bs
def rbP (bs : List UInt8) (e size : Int) : List UInt8 := if e ≠ 0 then [] else cutP bs size
theorem cutN_le (bs : List UInt8) (size : Int) (h : cutE bs size = 0) : 1 ≤ cutN bs size ∧ cutN bs size ≤ bs.length := by
  have hv0 := cutV_nonneg bs size
  have hN : cutN bs size = size + cutV bs size := by unfold cutN; rw [if_pos h]
  rcases cut_cases bs size with ⟨c1, c2⟩ | ⟨c1, c3, c2⟩ | ⟨c1, c3, c4, c2⟩ | ⟨c1, c3, c4, c5, c2⟩ | ⟨c1, c3, c4, c5, c2⟩
  · omega
  · omega
  · omega
  · omega
  · have hs : size = 1 ∨ size = 2 ∨ size = 4 := by simpa [rightB] using c1
    omega
set_option maxHeartbeats 2000000 in
/-- Bytes. -/
theorem rbytes_any {base : Nat} (p : Nat) (v : Value) (bs : List UInt8) (e size : Int) (w : World) (h : WObj base w p v bs e) (hb : base ≤ w.heap.size) (hl : bs.length ≤ 140737488351232) (h3 : -9223372036854775808 ≤ size) (h4 : size ≤ 9223372036854775807) :
    Calls Try.prog 39 #[.pointer (some ⟨p, 0, none⟩), .int .i64 size] w fun r w' => ∃ u, r = .returned u ∧ Fresh w.heap.size w' u (rbP bs e size) ∧ Rd base w p v w' (rbL bs e size) (rbE bs e size) := by
  have hok := rok_any p v bs e w h
  by_cases he : e = 0
  · subst he
    rw [show rbP bs 0 size = cutP bs size by simp [rbP], show rbE bs 0 size = cutE bs size by simp [rbE], show rbL bs 0 size = if cutE bs size = 0 then bs.drop (cutN bs size).toNat else bs by simp [rbL]]
    rw [show ((0 : Int) == 0) = true from rfl] at hok
    have hc := cut_bs v bs size w h.2.2.1.bs hl h3 h4
    obtain ⟨c0, c1, c2, c3⟩ := h.2.1
    obtain ⟨A, cap, rfl⟩ := Fresh.shape' h.2.2.1
    have HK := Lib.hid hok
    have HO := Lib.hid h
    by_cases hE : cutE bs size = 0
    · obtain ⟨hN1, hN2⟩ := cutN_le bs size hE
      rw [if_pos hE, hE]
      rw [hE] at hc
      obtain ⟨m, hm⟩ : ∃ m : Nat, (m : Int) = cutN bs size := ⟨(cutN bs size).toNat, by omega⟩
      rw [← hm] at hc hN1 hN2
      rw [← hm, Int.toNat_natCast]
      have hlm : m ≤ bs.length := by omega
      have hlm2 : ¬ bs.length < m := by omega
      have hlc := (Lentd.cap h.2.2.1).1
      obtain ⟨b, off, rfl⟩ := Fresh.addr h.2.2.1 (by omega)
      generalize cutP bs size = CP at hc
      have HC := Lib.hid hc
      clear hc hm hok hE h
      by_cases hcm : cap = m
      all_goals
        try subst hcm
        go_enter Try.func39, Try.ntmps39
        go_wp2_with fail
        refine HK.out.mono ?_
        rintro r w' ⟨rfl, rfl⟩
        go_wp2_with fail
        refine HC.out.mono ?_
        rintro r w1 ⟨u1, rfl, hf1, hs1⟩
        have ho := HO.out.upd hs1 fun _ _ h => h
        have d0 := ho.2.1.1
        have d1 := ho.2.1.2.1
        have d2 := ho.2.1.2.2.1
        have d3 := ho.2.1.2.2.2
        have k2 := ho.2.1.set1 0
        have e0 := k2.1
        have e2 := k2.2.2.1
        have ho2 := WObj.err ho 0
        have hdr := ho2.2.2.1.drop _ hlm
        first | (rw [if_neg hcm] at hdr; simp only [Option.map_some, Addr.add_lit] at hdr) | simp only [if_true, Nat.sub_self] at hdr
        try rw [show bs.length - cap = 0 by omega] at hdr
        have hG := Rd.later ho2 hdr.1 hdr.2
        have hGG := Rd.trans (v1 := .slice (some ⟨b, off, none⟩) bs.length cap) (Upd.trans (S := fun k => k = p) (hs1.mono fun _ _ h => h.elim) ((Upd.refl (fun k => k = p) w1).setCell (p := ⟨p, 1, none⟩) (fun _ => rfl) (.int .i64 0)) fun _ _ h => h) (fun k hk => hk) hG
        have HU := Lib.hid hf1
        have HGG := Lib.hid hGG
        have HZ := Lib.hid hs1.size
        clear hf1 hs1 ho ho2 hdr hG hGG k2
        go_wp2_with fail
        go_ret
        exact ⟨_, rfl, (HU.out.upd (S := fun k => k = p) (((Upd.refl (fun k => k = p) w1).setCell (p := ⟨p, 1, none⟩) (fun _ => rfl) _).setCell (p := ⟨p, 0, none⟩) (fun _ => rfl) _) fun k hk e => by have := (HU.out.ge k hk).1; have := HO.out.2.1.lt; omega), HGG.out⟩
    · rw [if_neg hE]
      have hP : cutP bs size = [] := by unfold cutP; rw [if_neg hE]
      rw [hP] at hc ⊢
      generalize cutN bs size = CN at hc
      generalize cutE bs size = CE at hc hE
      have hne : (CE != 0) = true := by simpa using hE
      have HC := Lib.hid hc
      clear hc hok hE h hP
      go_enter Try.func39, Try.ntmps39
      go_wp2_with fail
      refine HK.out.mono ?_
      rintro r w' ⟨rfl, rfl⟩
      go_wp2_with fail
      refine HC.out.mono ?_
      rintro r w1 ⟨u1, rfl, hf1, hs1⟩
      have ho := HO.out.upd hs1 fun _ _ h => h
      have d1 := ho.2.1.2.1
      have d3 := ho.2.1.2.2.2
      have hG := Rd.trans (w := w) (hs1.mono fun _ _ h => h.elim) (fun k hk => hk) (Rd.err ho CE)
      have HG := Lib.hid hG
      clear hf1 hs1 ho hG
      go_wp2_with fail
      go_ret
      exact ⟨_, rfl, Fresh.nil _ _, HG.out⟩
  · rw [show rbP bs e size = [] by simp [rbP, he], show rbE bs e size = e by simp [rbE, he], show rbL bs e size = bs by simp [rbL, he]]
    obtain ⟨c0, c1, c2, c3⟩ := h.2.1
    rw [show (e == 0) = false by simpa using he] at hok
    have HK := Lib.hid hok
    have HG := Lib.hid (Rd.refl h)
    clear h hok
    go_enter Try.func39, Try.ntmps39
    go_wp2_with fail
    refine HK.out.mono ?_
    rintro r w' ⟨rfl, rfl⟩
    go_wp2_with fail
    go_ret
    exact ⟨_, rfl, Fresh.nil _ _, HG.out⟩
/-- The end. -/
def reE (e : Int) (n : Nat) : Int := if e = 0 ∧ 0 < n then 11 else e
theorem rend_any {base : Nat} (p : Nat) (v : Value) (bs : List UInt8) (e : Int) (w : World) (h : WObj base w p v bs e) :
    Calls Try.prog 41 #[.pointer (some ⟨p, 0, none⟩)] w fun r w' => r = .returned (.int .i64 (reE e bs.length)) ∧ w = w' := by
  obtain ⟨c0, c1, c2, c3⟩ := h.2.1
  obtain ⟨A, cap, rfl⟩ := Fresh.shape' h.2.2.1
  have hlc := (Lentd.cap h.2.2.1).1
  unfold reE
  by_cases he : e = 0
  · subst he
    by_cases hn : 0 < bs.length
    · rw [if_pos ⟨rfl, hn⟩]
      have g1 : (0 : Int) < (bs.length : Int) := by omega
      clear h
      go_enter Try.func41, Try.ntmps41
      go_wp2_with fail
      go_ret
      exact ⟨rfl, rfl⟩
    · rw [if_neg (by omega)]
      have g1 : bs.length = 0 := by omega
      rw [g1] at c0
      clear h
      go_enter Try.func41, Try.ntmps41
      go_wp2_with fail
      go_ret
      exact ⟨rfl, rfl⟩
  · rw [if_neg (by omega)]
    have hne : (e == 0) = false := by simpa using he
    clear h he
    go_enter Try.func41, Try.ntmps41
    go_wp2_with fail
    go_ret
    exact ⟨rfl, rfl⟩
def rcE (bs : List UInt8) (e size most : Int) : Int :=
  if rnE e size bs.length ≠ 0 then rnE e size bs.length else if rnN bs e size < 0 ∨ most < rnN bs e size then 3 else if ((rnL bs e size).length : Int) < rnN bs e size then 10 else 0
def rcL (bs : List UInt8) (e size most : Int) : List UInt8 := if rcE bs e size most = 0 then rnL bs e size else bs
def rcN (bs : List UInt8) (e size most : Int) : Int := if rcE bs e size most = 0 then rnN bs e size else 0
/-- The row is set back. -/
theorem Rd.back {base : Nat} {w w1 : World} {p : Nat} {v v1 : Value} {bs bs1 : List UInt8} {e e1 : Int} (h : WObj base w p v bs e) (h1 : WObj base w1 p v1 bs1 e1) (hu : Upd (fun k => k = p) w w1) : Rd base w p v (w1.setCell ⟨p, 0, none⟩ v) bs e1 := by
  have hne := h.2.2.2
  exact ⟨v, ⟨h.1, h1.2.1.set0 v, (h.2.2.1.upd hu fun k hk e => hne (by rw [hk, e])).upd ((Upd.refl (fun k => k = p) w1).setCell (p := ⟨p, 0, none⟩) (fun _ => rfl) _) (fun k hk e => hne (by rw [hk, e])), hne⟩,
    Upd.trans (S := fun k => k = p) hu ((Upd.refl (fun k => k = p) w1).setCell (p := ⟨p, 0, none⟩) (fun _ => rfl) _) fun _ _ h => h, fun k hk => hk⟩
set_option maxHeartbeats 2000000 in
/-- A number of things. -/
theorem rcount_any {base : Nat} (p : Nat) (v : Value) (bs : List UInt8) (e size most : Int) (w : World) (h : WObj base w p v bs e) (hl : bs.length ≤ 140737488355328) (h3 : -9223372036854775808 ≤ size) (h4 : size ≤ 9223372036854775807) (h5 : -9223372036854775808 ≤ most) (h6 : most ≤ 9223372036854775807) :
    Calls Try.prog 44 #[.pointer (some ⟨p, 0, none⟩), .int .i64 size, .int .i64 most] w fun r w' => r = .returned (.int .i64 (rcN bs e size most)) ∧ Rd base w p v w' (rcL bs e size most) (rcE bs e size most) := by
  have hok := rok_any p v bs e w h
  have hnum := rnum_any p v bs e size w h hl h3 h4
  obtain ⟨c0, c1, c2, c3⟩ := h.2.1
  obtain ⟨A, cap, rfl⟩ := Fresh.shape' h.2.2.1
  by_cases he : e = 0
  · subst he
    rw [show ((0 : Int) == 0) = true from rfl] at hok
    have hlenL : (rnL bs 0 size).length ≤ bs.length := by unfold rnL; split <;> simp
    have hNr : -9223372036854775808 ≤ rnN bs 0 size ∧ rnN bs 0 size ≤ 9223372036854775807 := by
      unfold rnN
      split
      · unfold wrap64; omega
      · omega
    have hcE : rcE bs 0 size most = if rnE 0 size bs.length ≠ 0 then rnE 0 size bs.length else if rnN bs 0 size < 0 ∨ most < rnN bs 0 size then 3 else if ((rnL bs 0 size).length : Int) < rnN bs 0 size then 10 else 0 := rfl
    unfold rcN rcL
    generalize rnE 0 size bs.length = E1 at hnum hcE
    generalize rnN bs 0 size = N1 at hnum hcE hNr ⊢
    generalize rnL bs 0 size = L1 at hnum hcE hlenL ⊢
    generalize rcE bs 0 size most = CE at hcE ⊢
    have HK := Lib.hid hok
    have HN := Lib.hid hnum
    have HO := Lib.hid h
    clear hok hnum h
    by_cases hE : E1 = 0
    · subst hE
      rw [if_neg (by simp)] at hcE
      by_cases hn : N1 < 0 ∨ most < N1
      · rw [if_pos hn] at hcE
        subst hcE
        rw [if_neg (by decide), if_neg (by decide)]
        have hn' : N1 < 0 ∨ (¬ N1 < 0 ∧ most < N1) := by omega
        clear hn
        rcases hn' with hn | ⟨hn0, hn⟩
        all_goals
          go_enter Try.func44, Try.ntmps44
          go_wp2_with fail
          refine HK.out.mono ?_
          rintro r w' ⟨rfl, rfl⟩
          go_wp2_with fail
          refine HN.out.mono ?_
          rintro r w1 ⟨rfl, v1, ho, hu1, hr1⟩
          obtain ⟨d0, d1, d2, d3⟩ := ho.2.1
          have ho2 := ho.err 3
          obtain ⟨k0, k1, k2, k3⟩ := ho2.2.1
          have hB := Rd.back HO.out ho2 (Upd.trans (S := fun k => k = p) hu1 ((Upd.refl (fun k => k = p) w1).setCell (p := ⟨p, 1, none⟩) (fun _ => rfl) _) fun _ _ h => h)
          obtain ⟨A1, cap1, rfl⟩ := Fresh.shape' ho.2.2.1
          have HB := Lib.hid hB
          clear ho ho2 hu1 hr1 hB
          go_wp2_with fail
          go_ret
          exact ⟨rfl, HB.out⟩
      · rw [if_neg hn] at hcE
        have hn1 : ¬ N1 < 0 := by omega
        have hn2 : ¬ most < N1 := by omega
        by_cases hm : (L1.length : Int) < N1
        · rw [if_pos hm] at hcE
          subst hcE
          rw [if_neg (by decide), if_neg (by decide)]
          clear hn
          go_enter Try.func44, Try.ntmps44
          go_wp2_with fail
          refine HK.out.mono ?_
          rintro r w' ⟨rfl, rfl⟩
          go_wp2_with fail
          refine HN.out.mono ?_
          rintro r w1 ⟨rfl, v1, ho, hu1, hr1⟩
          obtain ⟨A1, cap1, rfl⟩ := Fresh.shape' ho.2.2.1
          obtain ⟨d0, d1, d2, d3⟩ := ho.2.1
          have ho2 := ho.err 10
          obtain ⟨k0, k1, k2, k3⟩ := ho2.2.1
          have hB := Rd.back HO.out ho2 (Upd.trans (S := fun k => k = p) hu1 ((Upd.refl (fun k => k = p) w1).setCell (p := ⟨p, 1, none⟩) (fun _ => rfl) _) fun _ _ h => h)
          have HB := Lib.hid hB
          clear ho ho2 hu1 hr1 hB
          go_wp2_with fail
          go_ret
          exact ⟨rfl, HB.out⟩
        · rw [if_neg hm] at hcE
          subst hcE
          rw [if_pos rfl, if_pos rfl]
          clear hn
          go_enter Try.func44, Try.ntmps44
          go_wp2_with fail
          refine HK.out.mono ?_
          rintro r w' ⟨rfl, rfl⟩
          go_wp2_with fail
          refine HN.out.mono ?_
          rintro r w1 ⟨rfl, v1, ho, hu1, hr1⟩
          obtain ⟨A1, cap1, rfl⟩ := Fresh.shape' ho.2.2.1
          obtain ⟨d0, d1, d2, d3⟩ := ho.2.1
          have hB : Rd base w p (.slice A bs.length cap) w1 L1 0 := ⟨_, ho, hu1, hr1⟩
          have HB := Lib.hid hB
          clear ho hu1 hr1 hB
          go_wp2_with fail
          go_ret
          exact ⟨rfl, HB.out⟩
    · rw [if_pos hE] at hcE
      subst hcE
      rw [if_neg hE, if_neg hE]
      have hne : (CE != 0) = true := by simpa using hE
      clear hE
      go_enter Try.func44, Try.ntmps44
      go_wp2_with fail
      refine HK.out.mono ?_
      rintro r w' ⟨rfl, rfl⟩
      go_wp2_with fail
      refine HN.out.mono ?_
      rintro r w1 ⟨rfl, v1, ho, hu1, hr1⟩
      obtain ⟨A1, cap1, rfl⟩ := Fresh.shape' ho.2.2.1
      obtain ⟨d0, d1, d2, d3⟩ := ho.2.1
      have hB := Rd.back HO.out ho hu1
      have HB := Lib.hid hB
      clear ho hu1 hr1 hB
      go_wp2_with fail
      go_ret
      exact ⟨rfl, HB.out⟩
  · have hE1 : rnE e size bs.length = e := by unfold rnE; rw [if_pos he]
    have hcE : rcE bs e size most = e := by unfold rcE; rw [hE1, if_pos he]
    have hcL : rcL bs e size most = bs := by unfold rcL; rw [hcE, if_neg he]
    have hcN : rcN bs e size most = 0 := by unfold rcN; rw [hcE, if_neg he]
    rw [hcE, hcL, hcN]
    rw [show (e == 0) = false by simpa using he] at hok
    have HK := Lib.hid hok
    have HG := Lib.hid (Rd.refl h)
    clear h hok hnum hE1 hcE hcL hcN
    go_enter Try.func44, Try.ntmps44
    go_wp2_with fail
    refine HK.out.mono ?_
    rintro r w' ⟨rfl, rfl⟩
    go_wp2_with fail
    go_ret
    exact ⟨rfl, HG.out⟩
end Go.Proofs.Ytgfdadbgbdcehaa
