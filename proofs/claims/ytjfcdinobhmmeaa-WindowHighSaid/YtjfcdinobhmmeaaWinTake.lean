/- window.Come: a command that is taken. -/
import Derived.Test.YtjfcdinobhmmeaaWinCome
import Derived.Deep.LoopGhost
import Derived.BigFrame
namespace Go.Proofs.Ytjfcdinobhmmeaa
open Go.RowKit
set_option linter.unusedVariables false
set_option linter.unusedSimpArgs false
attribute [local go_sem ↓] Go.wp_at_zero Go.wp_at_succ

section
variable {base : Nat} {W : World} {p : Nat} {V : WV} {s : WSt}
theorem Step.mono_l {F F0 F' : Nat → Prop} {a b : World} (h : Step F F' a b) (hF : ∀ k, F k → F0 k) : Step F0 F' a b := ⟨h.1.mono fun k _ e => hF k e, fun k hk => (h.2 k hk).elim (fun e => .inl (hF k e)) .inr⟩
theorem WGrew.of {F : Nat → Prop} {W' : World} {s' : WSt} (h : WGrew base (wfoot p V) W p W' s') (hF : ∀ k, wfoot p V k → F k) : WGrew base F W p W' s' := by
  obtain ⟨F', h1, h2⟩ := h
  exact ⟨F', h1, h2.mono_l hF⟩
theorem Ok.len' {s : WSt} (h : s.Ok) : s.ls.length ≤ 64 := by
  have := h.len
  obtain ⟨h1, h2, h3, -⟩ := h
  omega
/-- What a round of Come's loop leaves. -/
def ComeR (base : Nat) (F0 : Nat → Prop) (W : World) (p : Nat) (fin : WSt) (g : Nat) (v9 : Value) (wr : World) : Prop :=
  ∃ s' : WSt, WGrew base F0 W p wr s' ∧ s'.Ok ∧ WSt.drain (s'.ls.length + 1) s' = fin ∧ s'.ls.length + s'.ts.length ≤ 100000 ∧ s'.ls.length ≤ g ∧ v9 = .int .i64 (idxOf s'.nx s'.ls)
/-- The rest of a round: the row behind the deletion, the two numbers. -/
theorem told_end {w2 : World} {v' : Value} {i : Nat} {id : Int} (h : WinV base W p V { s with ts := s.ts ++ [(id, false)] }) (hid : id = (s.ls.getD i (0, 0)).2) (hb : base ≤ W.heap.size) (hf : HeldOwn base w2 v' (s.ls.take i ++ s.ls.drop (i + 1))) (hu : Upd (fun k => room V.l = some k) W w2) (hr : room v' = room V.l) :
    WGrew base (wfoot p V) W p (((w2.setCell ⟨p, 3, none⟩ v').setCell ⟨p, 0, none⟩ (.int .u32 ((s.nx + 1) % 4294967296))).setCell ⟨p, 2, none⟩ (.int .i64 (s.bz + 1))) (s.told i) := by
  obtain ⟨F', ⟨V', hV, hF, hFt⟩, st⟩ := WinV.setl (S := fun _ => False) h hb hf hu fun k hk => .inl (by rw [← hr]; exact hk)
  have h1 := hV.cellset (s' := { s with nx := (s.nx + 1) % 4294967296, ls := s.ls.take i ++ s.ls.drop (i + 1), ts := s.ts ++ [(id, false)] }) (hV.2.1.next ((s.nx + 1) % 4294967296)) rfl rfl
  have h2 := h1.cellset (s' := s.told i) (by rw [WSt.told, ← hid]; exact h1.2.1.busy (s.bz + 1)) rfl (by rw [WSt.told, ← hid])
  have u2 : Upd F' (w2.setCell ⟨p, 3, none⟩ v') (((w2.setCell ⟨p, 3, none⟩ v').setCell ⟨p, 0, none⟩ (.int .u32 ((s.nx + 1) % 4294967296))).setCell ⟨p, 2, none⟩ (.int .i64 (s.bz + 1))) :=
    ((Upd.refl F' _).setCell (p := ⟨p, 0, none⟩) (fun _ => hF p (.inl rfl)) _).setCell (p := ⟨p, 2, none⟩) (fun _ => hF p (.inl rfl)) _
  exact ⟨F', ⟨V', h2, hF, hFt.mono u2.size⟩, st.trans (Step.upd u2)⟩
set_option maxHeartbeats 2000000 in
theorem come_take (h : WinV base W p V s) (hb : base ≤ W.heap.size) (hok : s.Ok) (n : Int) (hn0 : 0 ≤ n) (hn1 : n ≤ 4294967295) (hs : inB s.nx (s.sz - s.bz) n = true) (hi : idxOf n s.ls < 0) (hlen : s.ls.length + s.ts.length ≤ 90000) (id : Int) :
    Calls Try.prog 9 #[.pointer (some ⟨p, 0, none⟩), .int .u32 n, .bool false, .int .i64 id] W fun r w' => r = .returned (.int .i64 0) ∧ WGrew base (wfoot p V) W p w' (WSt.drain (s.ls.length + 1) { s with ls := s.ls ++ [(n, id)] }) := by
  have hokn := hok.hold (id := id) hn0 hn1 hs hi
  have hdm := drain_more (s.ls.length + 1) { s with ls := s.ls ++ [(n, id)] } (by simp)
  generalize hfin : WSt.drain (s.ls.length + 1) { s with ls := s.ls ++ [(n, id)] } = fin at hdm ⊢
  obtain ⟨⟨c0, c1, c2, c3, c4, c5, c6⟩, hf⟩ := h.2.1
  obtain ⟨b1, b2, b3, -⟩ := hok
  have g2 : IntKind.i64.wrap (s.sz - s.bz) = s.sz - s.bz := by rw [IntKind.wrap_i64]; omega
  have hin := fun w => in_any s.nx (s.sz - s.bz) n w
  rw [hs] at hin
  have hcon := fun b w h1 h2 => contains_any V.l s.ls n b w h1 h2
  simp only [show ¬ (0 : Int) ≤ idxOf n s.ls by omega, decide_false] at hcon
  have HIN := Lib.hid hin
  have HCON := Lib.hid hcon
  have H := Lib.hid h
  have HOKN := Lib.hid hokn
  have HDM := Lib.hid hdm
  have HB := Lib.hid hb
  have HLEN := Lib.hid hlen
  clear hf hs h hin hcon hi hokn hdm hb hlen hfin
  go_enter Try.func9, Try.ntmps9
  go_wp2_with fail
  go_quiet ((go_at_call 22; exact Calls.quiet_of_same (HIN.out _)))
  rename_i nq
  go_wp2_with fail
  have s0 := (Upd.refl (fun _ => False) W).drewN nq
  generalize W.drewN nq = W1 at s0 ⊢
  have k3 := s0.cell c3 (fun h => h)
  have HS0 := Lib.hid s0
  clear c0 c1 c2 c3 c4 c5 c6 s0
  go_region_held3 (fun w' => w'.cell? ⟨p, 3, none⟩ = some V.l) (first | assumption | exact (Upd.refl (fun _ => False) _).drew.cell k3 (fun h => h)) (first
    | (go_at_call 24; refine (of_any n _).mono ?_; rintro r w1 ⟨rfl, hc1, hs1⟩; have e3 := hs1.cell ((Upd.refl (fun _ => False) _).drew.cell k3 (fun h => h)) (fun h => h); have HS1 := Lib.hid hs1)
    | (go_at_call 23; refine (HCON.out _ _ (Rdr.same (Own.rdr H.out.2.2.1) (Same.trans (HS0.out.drew) HS1.out)) hc1).mono ?_; rintro r w2 ⟨rfl, hs2⟩; have e4 := hs2.cell e3 (fun h => h); have HS2 := Lib.hid hs2))
  all_goals
    have hs3 := Same.trans (Same.trans (HS0.out.drew) HS1.out) HS2.out
    have hv2 := H.out.upd hs3 fun _ _ h => h
    have d3 := hv2.2.1.1.2.2.2.1
    have hz2 := hs3.size
    have HS3 := Lib.hid hs3
    have HV2 := Lib.hid hv2
    have hp2 := hv2.2.1.lt
    clear hs3 hv2 hs1 hs2 HS0 HS1 HS2 e3 e4 hc1 k3
    go_wp2_with (at_builtin; refine wpl_append_own rfl (.tmp 56) (.tmp 60) 47 rfl Try.underlying47 hinfo_held rfl (by decide) V.l _ rfl rfl (HV2.out.2.2.1.same ((Upd.refl _ _).alloc _)) (Rdr.box _ [.int .u32 n, .int .i64 id] _ _ _ rfl 2 rfl) (by simp; exact ⟨rfl, rfl⟩) (by have := HB.out; simp; omega) s.ls.length 1 (held_length _) rfl (by have := HLEN.out; omega) (by have := HLEN.out; omega) ?_; intro v3 w3 hf3 hu3 hr3; obtain ⟨zA, zn, zc, rfl, -⟩ := Own.open_ hf3; have hc3 := (HV2.out.2.1.upd ((Upd.refl (fun _ => False) _).alloc _) (fun h => h)).upd hu3 (fun e => (HV2.out.2.2.2.2.2.1 p e).1 rfl); have d33 := hc3.1.2.2.2.1; have f33 := hc3.2 3 (by decide); have hu30 := Same.then ((Upd.refl (fun _ => False) _).alloc _) hu3; have HF3 := Lib.hid hf3; have HU3 := Lib.hid hu30; have HR3 := Lib.hid hr3; clear hf3 hu3 hr3 hc3 hu30)
    have hG := WinV.setl (S := fun _ => False) (ls' := s.ls ++ [(n, id)]) HV2.out (by have := HB.out; omega) (by rw [List.flatMap_append]; simpa [heldC] using HF3.out) HU3.out (fun k hk => (HR3.out k hk).imp (fun h => h) fun e => by simp at e; omega)
    obtain ⟨F1, ⟨V1, hV1, hF1, hFt1⟩, st1⟩ := hG
    have hst := (Step.same HS3.out).trans st1
    have HV1 := Lib.hid hV1
    have HST := Lib.hid hst
    have HF1 := Lib.hid hF1
    have m3 := hV1.2.1.1.2.2.2.1
    have m0 := hV1.2.1.1.1
    have HIDX := Lib.hid (fun b w h1 h2 => index_any V1.l (s.ls ++ [(n, id)]) s.nx b w h1 h2)
    have hz4 := st1.1.size
    have HFT := Lib.hid hFt1
    clear hV1 hF1 hFt1 st1 hst HF3 HU3 HR3 d33 f33 d3 hp2 HV2 HCON HIN g2
    generalize hw4 : w3.setCell ⟨p, 3, none⟩ (.slice zA zn zc) = w4 at HV1 HST HFT m3 m0 hz4 ⊢
    clear hw4
    go_region_held3 (fun w' => w'.cell? ⟨p, 3, none⟩ = some V1.l ∧ w'.cell? ⟨p, 0, none⟩ = some (.int .u32 s.nx)) (first | assumption | exact ⟨(Upd.refl (fun _ => False) _).drew.cell m3 (fun h => h), (Upd.refl (fun _ => False) _).drew.cell m0 (fun h => h)⟩ | (constructor <;> assumption)) (first
      | (go_at_call 24; refine (of_any s.nx _).mono ?_; rintro r w5 ⟨rfl, hc1, hs1⟩; have e3 := hs1.cell ((Upd.refl (fun _ => False) _).drew.cell m3 (fun h => h)) (fun h => h); have e0 := hs1.cell ((Upd.refl (fun _ => False) _).drew.cell m0 (fun h => h)) (fun h => h); have HS1 := Lib.hid hs1)
      | (go_at_call 25; refine (HIDX.out _ _ (Rdr.same (Own.rdr HV1.out.2.2.1) (Same.trans ((Upd.refl _ _).drew) HS1.out)) hc1).mono ?_; rintro r w6 ⟨rfl, hs2⟩; have HS2 := Lib.hid hs2; have e3' := hs2.cell e3 (fun h => h); have e0' := hs2.cell e0 (fun h => h) ))
    all_goals
      have hs6 := Same.trans (Same.trans ((Upd.refl (fun _ => False) w4).drew) HS1.out) HS2.out
      have hv6 := HV1.out.upd hs6 fun _ _ h => h
      have hR : ComeR base (wfoot p V) W p fin (s.ls.length + 1) (.int .i64 (idxOf s.nx (s.ls ++ [(n, id)]))) w6 :=
        ⟨_, ⟨F1, ⟨V1, hv6, HF1.out, HFT.out.mono hs6.size⟩, HST.out.trans (Step.same hs6)⟩, HOKN.out, by simpa using HDM.out, by have := HLEN.out; simp; omega, by simp, rfl⟩
      have hz6 := hs6.size
      have HR := Lib.hid hR
      clear hs1 hs2 hs6 hv6 hR HS1 HS2 HV1 HF1 HFT HST HOKN HDM HIDX e3 e0 e3' e0' m3 m0 hc1
      generalize idxOf s.nx (s.ls ++ [(n, id)]) = I0 at HR ⊢
      go_wp2_with fail
      go_loopg [9] (s.ls.length + 1) (fun g v9 wr => ComeR base (wfoot p V) W p fin g v9 wr)
      case atStart => exact HR.out
      case round =>
        obtain ⟨s', ⟨F', ⟨V', hV, hF, hFt⟩, st⟩, hok', hd, hl, hg, hv9⟩ := hrel
        by_cases hi : 0 ≤ idxOf s'.nx s'.ls
        · obtain ⟨hi1, hi2⟩ := idxOf_lt _ _ hi
          have hds : WSt.drain ((s'.told (idxOf s'.nx s'.ls).toNat).ls.length + 1) (s'.told (idxOf s'.nx s'.ls).toNat) = fin := by rw [told_len _ _ hi1, ← drain_step _ _ hi]; exact hd
          have hokt := hok'.told hi
          have htt := told_tot s' _ hi1
          have htl := told_len s' _ hi1
          generalize (idxOf s'.nx s'.ls).toNat = i at hi1 hi2 hds hokt htt htl
          rw [hi2] at hv9
          subst hv9
          obtain ⟨A, m, cap, e, h1, h2, h3⟩ := hV.2.2.1.open_
          rw [held_length] at h1
          obtain rfl : s'.ls.length = m := by omega
          have hat := hV.2.2.1.rdr
          rw [e] at hat
          obtain ⟨b, off, rfl, x0, x1⟩ := HeldAt.at_ hat i hi1
          have hid : (s'.ls[i]'hi1).2 = (s'.ls.getD i (0, 0)).2 := by rw [List.getD_eq_getElem?_getD, List.getElem?_eq_getElem hi1]; rfl
          rw [hid] at x1
          have m3 := hV.2.1.1.2.2.2.1
          rw [e] at m3
          have hbr : base ≤ wr.heap.size := Nat.le_trans HB.out st.1.size
          have hput := put_any hV hbr (by omega) (s'.ls.getD i (0, 0)).2 false
          obtain ⟨I2, hI2⟩ : ∃ I2, I2 = (s'.ls.getD i (0, 0)).2 := ⟨_, rfl⟩
          rw [← hI2] at x1 hput
          have g1 : (0 : Int) ≤ (i : Int) := by omega
          have g3 : (i : Int) < (s'.ls.length : Int) := by omega
          have g4 : (i : Int) ≤ 100000 := by omega
          have g5 : IntKind.i64.wrap ((i : Int) + 1) = (i : Int) + 1 := by rw [IntKind.wrap_i64]; omega
          have HPUT := Lib.hid hput
          have HF := Lib.hid hF
          have HHI := Lib.hid hi1
          have HST := Lib.hid st
          have HD := Lib.hid (And.intro hds (And.intro hokt (And.intro htt htl)))
          have HL := Lib.hid (And.intro hl hg)
          have HI2 := Lib.hid hI2
          have HOK := Lib.hid hok'
          clear hds hokt htt htl hl hg hput hF st hd hi hi2 hi1 hat x0 e h1 h2 h3 hid hI2 hok' hV hFt
          go_wp2_with fail
          refine HPUT.out.mono ?_
          rintro r w7 ⟨rfl, F7, ⟨V7, hV7, hF7, hFt7⟩, st7⟩
          have m3 := hV7.2.1.1.2.2.2.1
          have hz7 := st7.1.size
          have hdel := delete_any V7.l i s'.ls w7 hV7.2.2.1 (by omega) HHI.out (by have := (Ok.len' HOK.out); omega)
          have HDEL := Lib.hid hdel
          have HV7 := Lib.hid hV7
          have HF7 := Lib.hid hF7
          have ST7 := Lib.hid st7
          clear hdel hV7 hF7 st7 HPUT hFt7
          go_wp2_with fail
          refine HDEL.out.mono ?_
          rintro r w8 ⟨v8, rfl, hh8, hu8, hr8⟩
          have G := told_end (s := s') HV7.out HI2.out (by omega) hh8 hu8 hr8
          have hc8 := HV7.out.2.1.upd hu8 fun e => (HV7.out.2.2.2.2.2.1 p e).1 rfl
          obtain ⟨yA, yn, yc, rfl, -⟩ := Own.open_ hh8
          obtain ⟨⟨k0, k1, k2, k3, k4, k5, k6⟩, kf⟩ := hc8
          have f0 := kf 0 (by decide)
          have f2 := kf 2 (by decide)
          have f3 := kf 3 (by decide)
          obtain ⟨⟨o1, o2⟩, ⟨o3, o4⟩, ⟨o5, o6⟩, -⟩ := HOK.out
          have HG := Lib.hid G
          clear hh8 hu8 hr8 kf k1 k4 k5 k6 G HDEL m3
          go_wp2_with fail
          obtain ⟨F9, ⟨V9, hV9, hF9, hFt9⟩, st9⟩ := HG.out
          generalize ((w8.setCell ⟨p, 3, none⟩ (.slice yA yn yc)).setCell ⟨p, 0, none⟩ (.int .u32 ((s'.nx + 1) % 4294967296))).setCell ⟨p, 2, none⟩ (.int .i64 (s'.bz + 1)) = w9 at hV9 hFt9 st9 ⊢
          generalize s'.told i = t at HD hV9
          have m3 := hV9.2.1.1.2.2.2.1
          have m0 := hV9.2.1.1.1
          have HIDX := Lib.hid (fun b w h1 h2 => index_any V9.l t.ls t.nx b w h1 h2)
          have hz9 := st9.1.size
          have hst := HST.out.trans ((ST7.out.mono_l HF.out).trans (st9.mono_l HF7.out))
          have HV9 := Lib.hid hV9
          have HF9 := Lib.hid hF9
          have HFT := Lib.hid hFt9
          have HS9 := Lib.hid hst
          clear hV9 hF9 hFt9 st9 hst HG k0 k2 k3 f0 f2 f3 o1 o2 o3 o4 o5 o6
          go_region_held3 (fun w' => w'.cell? ⟨p, 3, none⟩ = some V9.l ∧ w'.cell? ⟨p, 0, none⟩ = some (.int .u32 t.nx)) (first | assumption | exact ⟨(Upd.refl (fun _ => False) _).drew.cell m3 (fun h => h), (Upd.refl (fun _ => False) _).drew.cell m0 (fun h => h)⟩ | (constructor <;> assumption)) (first
            | (go_at_call 24; refine (of_any t.nx _).mono ?_; rintro r wa ⟨rfl, hc1, hs1⟩; have e3 := hs1.cell ((Upd.refl (fun _ => False) _).drew.cell m3 (fun h => h)) (fun h => h); have e0 := hs1.cell ((Upd.refl (fun _ => False) _).drew.cell m0 (fun h => h)) (fun h => h); have HS1 := Lib.hid hs1)
            | (go_at_call 25; refine (HIDX.out _ _ (Rdr.same (Own.rdr HV9.out.2.2.1) (Same.trans ((Upd.refl _ _).drew) HS1.out)) hc1).mono ?_; rintro r wb ⟨rfl, hs2⟩; have HS2 := Lib.hid hs2; have e3' := hs2.cell e3 (fun h => h); have e0' := hs2.cell e0 (fun h => h)))
          all_goals
            have hsb := Same.trans (Same.trans ((Upd.refl (fun _ => False) w9).drew) HS1.out) HS2.out
            have hvb := HV9.out.upd hsb fun _ _ h => h
            have HR := Lib.hid (⟨F9, ⟨V9, hvb, HF9.out, HFT.out.mono hsb.size⟩, HS9.out.trans (Step.same hsb)⟩ : WGrew base (wfoot p V) W p wb t)
            clear hs1 hs2 hsb hvb HS1 HS2 HV9 HFT HF9 HS9 HIDX e3 e0 e3' e0' m3 m0 hc1
            generalize hI9 : idxOf t.nx t.ls = I9
            have HI9 := Lib.hid hI9
            clear hI9
            go_wp2_with fail
            go_roundg t.ls.length
            case measure => have := HD.out.2.2.2; have := HL.out.2; omega
            case rel => exact ⟨t, HR.out, HD.out.2.1, HD.out.1, by have := HD.out.2.2.1; have := HL.out.1; omega, Nat.le_refl _, by rw [HI9.out]⟩
        · rw [drain_end _ _ hi] at hd
          subst hd
          have hneg : idxOf s'.nx s'.ls < 0 := by omega
          have HST := Lib.hid st
          have HV := Lib.hid (⟨V', hV, hF, hFt⟩ : WinO base F' wr p s')
          subst hv9
          clear hV hF hFt st hi hok' hl hg
          go_wp2_with fail
          go_ret
          exact ⟨rfl, F', HV.out, HST.out⟩
end
end Go.Proofs.Ytjfcdinobhmmeaa
