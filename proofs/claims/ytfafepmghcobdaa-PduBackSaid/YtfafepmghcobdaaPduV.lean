/- Letters (chapter 17): the reference's Put where a letter can be. -/
import Derived.Test.YtfafepmghcobdaaPduU
import Derived.Test.YtfafepmghcobdaaGa
namespace Go.Proofs.Ytfafepmghcobdaa
open Go.RowKit
set_option linter.unusedVariables false
set_option linter.unusedSimpArgs false
set_option maxRecDepth 100000
set_option maxHeartbeats 8000000
/-- The reference's writer, the boxes. -/
def RP (w wr : World) (B : Nat) (p : Pd) (v : Value) (o : Ag) (bs : List UInt8) : Prop := WP w wr B B bs ∧ PB w wr p v o ∧ w.heap.size + 2 ≤ B
theorem RP.next {w wr w2 : World} {B : Nat} {p : Pd} {v : Value} {o : Ag} {bs bs2 : List UInt8} (h : RP w wr B p v o bs) (h2 : WP w w2 B B bs2) (hl : LowK B wr w2) : RP w w2 B p v o bs2 := ⟨h2, h.2.1.low h.2.2 hl, h.2.2⟩
theorem RP.new {w w1 : World} {p : Pd} {v : Value} {o : Ag} (h : PB w w1 p v o) (t : TypeId) (B : Nat) (hB : B = w1.heap.size) : RP w (w1.alloc (.cells #[.slice none 0 0, .int .i64 0] t)) B p v o [] := by
  subst hB
  exact ⟨⟨⟨_, Nat.le_refl _, Cell2.new w1 _ _ _ _ rfl, Fresh.nil _ _, by simp [room]⟩, h.1.alloc _, by have := h.2.2.2; omega, by simp⟩, h.same ((Upd.refl _ _).alloc _), h.2.2.2⟩
/-- What a head is made of. -/
theorem head_parts (p : Pd) (h7 : p.w.length = 7) : [] ++ numB (firstP p) 1 ++ numB p.flags 1 ++ numB p.b2 1 ++ numB p.b3 1 ++ numB (p.data.length : Int) 4 ++ numB (wrap64 p.lun) 8 ++ numB p.task 4 ++ ((wds p).take 7).flatMap (fun n => numB n 4) = headL p := by
  rw [← head_bytes p h7]
  simp [hd4]
theorem wordL (p : Pd) (z : List UInt8) (i : Nat) (hi : i < 7) : z ++ ((wds p).take i).flatMap (fun n => numB n 4) ++ numB (wd p i) 4 = z ++ ((wds p).take (i + 1)).flatMap (fun n => numB n 4) := by
  have e : (wds p).take (i + 1) = (wds p).take i ++ [wd p i] := by
    rcases (show i = 0 ∨ i = 1 ∨ i = 2 ∨ i = 3 ∨ i = 4 ∨ i = 5 ∨ i = 6 by omega) with rfl | rfl | rfl | rfl | rfl | rfl | rfl <;> rfl
  rw [e, List.flatMap_append, List.append_assoc]
  simp
def slen : Value → Nat
  | .slice _ n _ => n
  | _ => 0
/-- The data and the zeros behind them. -/
def PadS (wc wr : World) (d : List UInt8) (j : Nat) (v : Value) : Prop := j ≤ padN d.length ∧ LowK wc.heap.size wc wr ∧ Fresh wc.heap.size wr v (d ++ List.replicate j 0)
theorem Fresh.len {base : Nat} {w : World} {A : Option Addr} {n cap : Nat} {xs : List UInt8} (h : Fresh base w (.slice A n cap) xs) : n = xs.length := by
  obtain ⟨_, _, _, e, h1, _⟩ := h
  injection e with _ e2 _
  subst e2
  simpa using h1.symm
theorem PadS.step {wc wr w1 w2 : World} {d : List UInt8} {j : Nat} {A : Option Addr} {n cap : Nat} {v : Value} (hj : j < padN d.length) (hl : LowK wc.heap.size wc wr) (hf : Fresh wc.heap.size wr (.slice A n cap) (d ++ List.replicate j 0)) (hs : Same wr w1) (hu : Upd (fun k => room (.slice A n cap) = some k) w1 w2) (h : Fresh wc.heap.size w2 v (d ++ List.replicate j 0 ++ [0])) : PadS wc w2 d (j + 1) v := by
  refine ⟨hj, ?_, ?_⟩
  · exact Upd.trans (Same.trans hl hs) hu fun i hi hr => (hf.ge i hr).1
  · rw [List.replicate_succ', ← List.append_assoc]
    exact h
theorem PadS.start {wc wr : World} {d : List UInt8} {v : Value} (h : Fresh wc.heap.size wr v d) (hs : Same wc wr) : PadS wc wr d 0 v := ⟨Nat.zero_le _, hs.mono fun _ _ h => h.elim, by simpa using h⟩
theorem rput_good (p : Pd) (o : Ag) (A : Option Addr) (cap : Nat) (hok : p.ok) (h : o.right = true) (hf : p.fits = true) (hm : ¬ o.most < (p.data.length : Int)) (hl : p.data.length ≤ 65536) (w : World) (hb : Bs w (.slice A p.data.length cap) p.data) : Calls Try.prog 19 #[pdA p (.slice A p.data.length cap), agA o] w fun e w' => ∃ v', e = .returned (.tuple #[v', .int .i64 0]) ∧ Fresh w.heap.size w' v' (rawL p o) ∧ Same w w' := by
  obtain ⟨hlun, htask, hw7, hw⟩ := hok
  unfold Pd.fits at hf
  obtain ⟨f1, f2, f3, f4⟩ := of_decide_eq_true hf
  have n0 : ¬ p.op < 0 := by omega
  have n1 : ¬ 63 < p.op := by omega
  have n2 : ¬ p.flags < 0 := by omega
  have n3 : ¬ 255 < p.flags := by omega
  have n4 : ¬ p.b2 < 0 := by omega
  have n5 : ¬ 255 < p.b2 := by omega
  have n6 : ¬ p.b3 < 0 := by omega
  have n7 : ¬ 255 < p.b3 := by omega
  have HFF := Lib.hid (And.intro f1 (And.intro f2 (And.intro f3 f4)))
  have hF0 : 0 ≤ firstP p ∧ firstP p ≤ 255 := by unfold firstP; split <;> omega
  have HF0 := Lib.hid hF0
  have h64 : p.now = true → IntKind.i64.wrap (p.op + 64) = firstP p := fun hn => by unfold firstP; rw [hn, IntKind.wrap_i64]; simp; omega
  have H64 := Lib.hid h64
  have h65 : p.now = false → p.op = firstP p := fun hn => by unfold firstP; rw [hn]; simp
  have H65 := Lib.hid h65
  clear f1 f2 f3 f4 hf hF0 h64 h65
  have HLUN := Lib.hid hlun
  have HTASK := Lib.hid htask
  have HL0 := Lib.hid hl
  have HHEAD := Lib.hid (head_parts p hw7)
  have H48 := Lib.hid (headL_length hw7)
  have HWR : Hid (∀ i, i < 7 → 0 ≤ wd p i ∧ wd p i ≤ 4294967295) := fun i hi => wd_range hw7 hw hi
  clear hlun htask hw7 hw
  have HR := Lib.hid (fun W => rright_any o W)
  rw [h] at HR
  have hraw : Hid (rawL p o = headL p ++ (sumL o.hs (headL p) ++ (fullD p.data ++ sumL (o.ds && decide (0 < p.data.length)) (fullD p.data)))) := rfl
  unfold agA at HR ⊢
  unfold pdA
  have HB := Lib.hid hb
  clear hb
  go_enter Try.func19, Try.ntmps19
  go_wp2_with fail
  show Calls Try.prog _ _ ((w.alloc (.cells (pdC p (.slice A p.data.length cap)).toArray 42)).alloc (.cells (agC o).toArray 24)) _
  have hpb := PB.init w p (.slice A p.data.length cap) o 42 24
  generalize (w.alloc (.cells (pdC p (.slice A p.data.length cap)).toArray 42)).alloc (.cells (agC o).toArray 24) = w0 at hpb ⊢
  refine (HR.out _).mono ?_
  rintro e w1 ⟨rfl, hs⟩
  have HPB := Lib.hid (hpb.same hs)
  clear hpb hs HR
  have c0 := HPB.out.2.1 0 _ rfl
  have c1 := HPB.out.2.1 1 _ rfl
  have c2 := HPB.out.2.1 2 _ rfl
  have c3 := HPB.out.2.1 3 _ rfl
  have c4 := HPB.out.2.1 4 _ rfl
  have c5 := HPB.out.2.1 5 _ rfl
  have c6 := HPB.out.2.1 6 _ rfl
  have c7 := HPB.out.2.1 7 _ rfl
  have c8 := HPB.out.2.1 8 _ rfl
  have c9 := HPB.out.2.1 9 _ rfl
  have c10 := HPB.out.2.1 10 _ rfl
  have c11 := HPB.out.2.1 11 _ rfl
  have c12 := HPB.out.2.1 12 _ rfl
  have c13 := HPB.out.2.1 13 _ rfl
  have c14 := HPB.out.2.1 14 _ rfl
  have d0 := HPB.out.2.2.1 0 _ rfl
  have d1 := HPB.out.2.2.1 1 _ rfl
  have d2 := HPB.out.2.2.1 2 _ rfl
  go_upto_if 64 with (fail)
  go_cut [0, 6] from 8 (fun v0 v6 wx => v6 = .int .i64 (firstP p) ∧ PB w wx p (.slice A p.data.length cap) o)
  case first =>
    by_cases hn : p.now = true
    · rw [hn] at c1 ⊢
      have hw := H64.out hn
      clear hn
      go_wp2_with fail
      go_meet
      exact ⟨rfl, HPB.out⟩
    · rw [Bool.not_eq_true] at hn
      have hw := H65.out hn
      rw [hn] at c1 ⊢
      clear hn
      go_wp2_with fail
      go_meet
      exact ⟨by rw [hw], HPB.out⟩
  case rest =>
    obtain ⟨rfl, hpb⟩ := hcut
    clear c0 c1 c2 c3 c4 c5 c6 c7 c8 c9 c10 c11 c12 c13 c14 d0 d1 d2
    clear n0 n1 n2 n3 n4 n5 n6 n7
    clear HPB h hm
    go_wp2_with fail
    have hrp := RP.new hpb 84 wc.heap.size rfl
    generalize wc.alloc (.cells #[.slice none 0 0, .int .i64 0] 84) = wa at hrp ⊢
    generalize wc.heap.size = B at hrp ⊢
    have HP0 := Lib.hid hrp
    clear hrp hpb
    refine (rwn1 HP0.out.1 (firstP p) (by simp [numB_length]) HF0.out).mono ?_
    rintro e wb0 ⟨rfl, hwp, hlow⟩
    have HP1 := Lib.hid (HP0.out.next hwp hlow)
    clear hwp hlow HP0
    have c2 := HP1.out.2.1.2.1 2 _ rfl
    go_wp2_with fail
    refine (rwn1 HP1.out.1 p.flags (by simp [numB_length]) HFF.out.2.1).mono ?_
    rintro e wb1 ⟨rfl, hwp, hlow⟩
    have HP2 := Lib.hid (HP1.out.next hwp hlow)
    clear hwp hlow HP1 c2
    have c3 := HP2.out.2.1.2.1 3 _ rfl
    go_wp2_with fail
    refine (rwn1 HP2.out.1 p.b2 (by simp [numB_length]) HFF.out.2.2.1).mono ?_
    rintro e wb2 ⟨rfl, hwp, hlow⟩
    have HP3 := Lib.hid (HP2.out.next hwp hlow)
    clear hwp hlow HP2 c3
    have c4 := HP3.out.2.1.2.1 4 _ rfl
    go_wp2_with fail
    refine (rwn1 HP3.out.1 p.b3 (by simp [numB_length]) HFF.out.2.2.2).mono ?_
    rintro e wb3 ⟨rfl, hwp, hlow⟩
    have HP4 := Lib.hid (HP3.out.next hwp hlow)
    clear hwp hlow HP3 c4
    have c14 := HP4.out.2.1.2.1 14 _ rfl
    go_wp2_with fail
    refine (rwn4 HP4.out.1 (p.data.length : Int) (by simp [numB_length]) (by have := HL0.out; omega)).mono ?_
    rintro e wb4 ⟨rfl, hwp, hlow⟩
    have HP5 := Lib.hid (HP4.out.next hwp hlow)
    clear hwp hlow HP4 c14
    have c5 := HP5.out.2.1.2.1 5 _ rfl
    have hlw : IntKind.i64.wrap p.lun = wrap64 p.lun := by rw [IntKind.wrap_i64]; unfold wrap64; omega
    go_wp2_with fail
    refine (rwn8 HP5.out.1 (wrap64 p.lun) (by simp [numB_length]) (by unfold wrap64; omega)).mono ?_
    rintro e wb5 ⟨rfl, hwp, hlow⟩
    have HP6 := Lib.hid (HP5.out.next hwp hlow)
    clear hwp hlow HP5 c5 hlw
    have c6 := HP6.out.2.1.2.1 6 _ rfl
    have htask := HTASK.out
    go_wp2_with fail
    refine (rwn4 HP6.out.1 p.task (by simp [numB_length]) HTASK.out).mono ?_
    rintro e wb6 ⟨rfl, hwp, hlow⟩
    have HP7 := Lib.hid (HP6.out.next hwp hlow)
    clear hwp hlow HP6 c6 htask
    have hz : ([] ++ numB (firstP p) 1 ++ numB p.flags 1 ++ numB p.b2 1 ++ numB p.b3 1 ++ numB (p.data.length : Int) 4 ++ numB (wrap64 p.lun) 8 ++ numB p.task 4).length = 20 := by simp [numB_length]
    generalize [] ++ numB (firstP p) 1 ++ numB p.flags 1 ++ numB p.b2 1 ++ numB p.b3 1 ++ numB (p.data.length : Int) 4 ++ numB (wrap64 p.lun) 8 ++ numB p.task 4 = Z1 at HP7 HHEAD hz
    have HZ := Lib.hid hz
    clear hz
    have hws : RP w wb6 B p (.slice A p.data.length cap) o (Z1 ++ ((wds p).take 0).flatMap fun n => numB n 4) := by simpa using HP7.out
    have HWS := Lib.hid hws
    clear hws HP7
    go_wp2_with fail
    go_loopw [8] (fun v8 wr => ∃ i : Nat, i ≤ 7 ∧ v8 = .int .i64 i ∧ Hid (RP w wr B p (.slice A p.data.length cap) o (Z1 ++ ((wds p).take i).flatMap fun n => numB n 4))) (fun v8 _ => 7 - (intOf v8).toNat)
    case atStart => exact ⟨0, by omega, rfl, HWS.out⟩
    case round =>
      obtain ⟨i, hi, rfl, hin⟩ := hrel
      rcases (show i = 0 ∨ i = 1 ∨ i = 2 ∨ i = 3 ∨ i = 4 ∨ i = 5 ∨ i = 6 ∨ i = 7 by omega) with rfl | rfl | rfl | rfl | rfl | rfl | rfl | rfl
      · have cw := hin.out.2.1.2.1 7 _ rfl
        have hwk := HWR.out 0 (by decide)
        go_wp2_with fail
        refine (rwn4 hin.out.1 (wd p 0) (by rw [List.length_append, HZ.out, wordsB_length]; simp [wds]) hwk).mono ?_
        rintro e w2 ⟨rfl, hwp2, hlow⟩
        rw [wordL p Z1 0 (by decide)] at hwp2
        have HQ := Lib.hid (hin.out.next hwp2 hlow)
        clear hwp2 hlow cw hwk
        go_wp2_with fail
        refine ⟨?_, ?_⟩
        · exact ⟨1, by omega, rfl, HQ⟩
        · simp [intOf]
      · have cw := hin.out.2.1.2.1 8 _ rfl
        have hwk := HWR.out 1 (by decide)
        go_wp2_with fail
        refine (rwn4 hin.out.1 (wd p 1) (by rw [List.length_append, HZ.out, wordsB_length]; simp [wds]) hwk).mono ?_
        rintro e w2 ⟨rfl, hwp2, hlow⟩
        rw [wordL p Z1 1 (by decide)] at hwp2
        have HQ := Lib.hid (hin.out.next hwp2 hlow)
        clear hwp2 hlow cw hwk
        go_wp2_with fail
        refine ⟨?_, ?_⟩
        · exact ⟨2, by omega, rfl, HQ⟩
        · simp [intOf]
      · have cw := hin.out.2.1.2.1 9 _ rfl
        have hwk := HWR.out 2 (by decide)
        go_wp2_with fail
        refine (rwn4 hin.out.1 (wd p 2) (by rw [List.length_append, HZ.out, wordsB_length]; simp [wds]) hwk).mono ?_
        rintro e w2 ⟨rfl, hwp2, hlow⟩
        rw [wordL p Z1 2 (by decide)] at hwp2
        have HQ := Lib.hid (hin.out.next hwp2 hlow)
        clear hwp2 hlow cw hwk
        go_wp2_with fail
        refine ⟨?_, ?_⟩
        · exact ⟨3, by omega, rfl, HQ⟩
        · simp [intOf]
      · have cw := hin.out.2.1.2.1 10 _ rfl
        have hwk := HWR.out 3 (by decide)
        go_wp2_with fail
        refine (rwn4 hin.out.1 (wd p 3) (by rw [List.length_append, HZ.out, wordsB_length]; simp [wds]) hwk).mono ?_
        rintro e w2 ⟨rfl, hwp2, hlow⟩
        rw [wordL p Z1 3 (by decide)] at hwp2
        have HQ := Lib.hid (hin.out.next hwp2 hlow)
        clear hwp2 hlow cw hwk
        go_wp2_with fail
        refine ⟨?_, ?_⟩
        · exact ⟨4, by omega, rfl, HQ⟩
        · simp [intOf]
      · have cw := hin.out.2.1.2.1 11 _ rfl
        have hwk := HWR.out 4 (by decide)
        go_wp2_with fail
        refine (rwn4 hin.out.1 (wd p 4) (by rw [List.length_append, HZ.out, wordsB_length]; simp [wds]) hwk).mono ?_
        rintro e w2 ⟨rfl, hwp2, hlow⟩
        rw [wordL p Z1 4 (by decide)] at hwp2
        have HQ := Lib.hid (hin.out.next hwp2 hlow)
        clear hwp2 hlow cw hwk
        go_wp2_with fail
        refine ⟨?_, ?_⟩
        · exact ⟨5, by omega, rfl, HQ⟩
        · simp [intOf]
      · have cw := hin.out.2.1.2.1 12 _ rfl
        have hwk := HWR.out 5 (by decide)
        go_wp2_with fail
        refine (rwn4 hin.out.1 (wd p 5) (by rw [List.length_append, HZ.out, wordsB_length]; simp [wds]) hwk).mono ?_
        rintro e w2 ⟨rfl, hwp2, hlow⟩
        rw [wordL p Z1 5 (by decide)] at hwp2
        have HQ := Lib.hid (hin.out.next hwp2 hlow)
        clear hwp2 hlow cw hwk
        go_wp2_with fail
        refine ⟨?_, ?_⟩
        · exact ⟨6, by omega, rfl, HQ⟩
        · simp [intOf]
      · have cw := hin.out.2.1.2.1 13 _ rfl
        have hwk := HWR.out 6 (by decide)
        go_wp2_with fail
        refine (rwn4 hin.out.1 (wd p 6) (by rw [List.length_append, HZ.out, wordsB_length]; simp [wds]) hwk).mono ?_
        rintro e w2 ⟨rfl, hwp2, hlow⟩
        rw [wordL p Z1 6 (by decide)] at hwp2
        have HQ := Lib.hid (hin.out.next hwp2 hlow)
        clear hwp2 hlow cw hwk
        go_wp2_with fail
        refine ⟨?_, ?_⟩
        · exact ⟨7, by omega, rfl, HQ⟩
        · simp [intOf]
      · rw [HHEAD.out] at hin
        have HQ := Lib.hid hin.out
        clear hin HWS
        generalize hHL : headL p = HL at HQ H48 hraw
        go_wp2_with fail
        obtain ⟨⟨⟨v, ho⟩, hs, hw, hBs⟩, hpb, hB2⟩ := HQ.out
        refine (rwend_any B v HL 0 wr ho hBs (by rw [H48.out]; decide)).mono ?_
        rintro e we ⟨v1, rfl, hf1, hs1⟩
        rw [if_pos rfl] at hf1
        obtain ⟨A1, n1, cp1, rfl⟩ := Fresh.shape hf1
        have HPB3 := Lib.hid (hpb.same hs1)
        have HF1 := Lib.hid (hf1.mono (base' := w.heap.size + 2) (Nat.le_trans hB2 hBs))
        have d0 := HPB3.out.2.2.1 0 _ rfl
        clear hf1 hpb hs1 ho hs hw hBs hB2 HQ
        go_upto_if 116 with (fail)
        go_cut [1, 9] from 12 (fun v1 v9 wx => PutS w wx p (.slice A p.data.length cap) o v9 (HL ++ sumL o.hs HL))
        case first =>
          by_cases hhs : o.hs = true
          · rw [hhs] at d0 ⊢
            have HHS := Lib.hid hhs
            clear hhs
            go_wp2_with fail
            refine (rdigest_bs _ _ _ HF1.out.bs).mono ?_
            rintro e w4 ⟨v2, rfl, hf2, hs4⟩
            obtain ⟨A2, n2, cp2, rfl⟩ := Fresh.shape hf2
            go_wp2_with (at_builtin; refine wpl_append_bytes rfl (.tmp 117) (.tmp 119) 33 rfl Try.underlying33 li5 (w.heap.size + 2) (.slice A1 n1 cp1) (.slice A2 n2 cp2) HL (crcDigest (crcSum HL)) (HL ++ (crcDigest (crcSum HL))) rfl rfl rfl (HF1.out.same hs4) hf2.bs (Nat.le_trans HPB3.out.2.2.2 hs4.size) (by rw [H48.out, crcDigest_length]; omega) ?_; intro v3 w5 hf3 hu3 hr3)
            go_meet
            exact PutS.mk' ((HPB3.out.same hs4).row (HF1.out.same hs4) hu3) (by rw [HHS.out]; exact hf3)
          · rw [Bool.not_eq_true] at hhs
            rw [hhs] at d0 ⊢
            have HHS := Lib.hid hhs
            clear hhs
            go_wp2_with fail
            go_meet
            exact PutS.mk' HPB3.out (by rw [HHS.out]; simpa [sumL] using HF1.out)
        case rest =>
          clear d0
          obtain ⟨hpb, hf6⟩ := hcut
          obtain ⟨A6, n6, cp6, rfl⟩ := Fresh.shape hf6
          have HPB4 := Lib.hid hpb
          have HF6 := Lib.hid hf6
          clear hpb hf6 HPB3 HF1
          have c14 := HPB4.out.2.1 14 _ rfl
          go_wp2_with (at_builtin; refine wpl_append_bytes rfl (.tmp 121) (.tmp 123) 33 rfl Try.underlying33 li5 wc.heap.size (.slice none 0 0) (.slice A p.data.length cap) [] p.data ([] ++ p.data) rfl rfl rfl (Fresh.nil _ _) (HB.out.same HPB4.out.1) (Nat.le_refl _) (by have := HL0.out; simp; omega) ?_; intro v11 w11 hf3 hu3 hr3; have hin0 := PadS.start hf3 (hu3.mono fun i _ hi => by simp [room] at hi); have HIN0 := Lib.hid hin0; clear hin0 hf3 hu3 hr3)
          go_loopw [11] (fun v11 wr => ∃ j : Nat, PadS wc wr p.data j v11) (fun v11 _ => p.data.length + padN p.data.length - slen v11)
          case atStart => exact ⟨0, HIN0.out⟩
          case round =>
            obtain ⟨j, hj, hlow, hf11⟩ := hrel
            obtain ⟨A11, n11, cp11, rfl⟩ := Fresh.shape hf11
            have hn11 := hf11.len
            simp only [List.length_append, List.length_replicate] at hn11
            have hpw : PB w wr p (.slice A p.data.length cap) o := HPB4.out.low HPB4.out.2.2.2 hlow
            have hw6 : Fresh (w.heap.size + 2) wr (.slice A6 n6 cp6) (HL ++ sumL o.hs HL) := HF6.out.upd hlow (fun k hk e => by have := (HF6.out.ge k hk).2; omega)
            have hlt6 : ∀ k, room (.slice A6 n6 cp6) = some k → k < wc.heap.size := fun k hk => (HF6.out.ge k hk).2
            have HLOW := Lib.hid hlow
            have HF11 := Lib.hid hf11
            have HPW := Lib.hid hpw
            have HW6 := Lib.hid hw6
            have HLT6 := Lib.hid hlt6
            have hpl := padN_lt p.data.length
            have hc0 : n11 ≤ 100000 := by omega
            have HN11 := Lib.hid hn11
            have HJ := Lib.hid hj
            clear hlow hf11 hpw hw6 hlt6 hpl
            by_cases h4 : (p.data.length + j) % 4 = 0
            · have hjp : j = padN p.data.length := by unfold padN at hj ⊢; omega
              have h5 : (n11 : Int) % 4 = 0 := by omega
              have hfd : Fresh wc.heap.size wr (.slice A11 n11 cp11) (fullD p.data) := by
                have := HF11.out
                rw [hjp] at this
                exact this
              have HFD := Lib.hid hfd
              have hD16 := fullD_length p.data
              have HD16 := Lib.hid (show n11 = (fullD p.data).length by rw [hD16]; omega)
              have hz : n11 = 0 ↔ p.data.length = 0 := by unfold padN at hjp; omega
              have HZ0 := Lib.hid hz
              clear hfd hn11 hj h4 hjp hc0 hz
              by_cases hds : o.ds = true
              · by_cases hz : 0 < p.data.length
                · have hz2 : (0 : Int) < (n11 : Int) := by have := HZ0.out; omega
                  have hsum : sumL (o.ds && decide (0 < p.data.length)) (fullD p.data) = crcDigest (crcSum (fullD p.data)) := by rw [hds, decide_eq_true hz]; rfl
                  have HSUM := Lib.hid hsum
                  have HHDS := Lib.hid hds
                  clear hsum hds hz
                  go_wp2_with (at_builtin; refine wpl_append_bytes rfl (.tmp 132) (.tmp 133) 33 rfl Try.underlying33 li5 (w.heap.size + 2) (.slice A6 n6 cp6) (.slice A11 _ cp11) (HL ++ sumL o.hs HL) (fullD p.data) ((HL ++ sumL o.hs HL) ++ (fullD p.data)) rfl rfl rfl HW6.out HFD.out.bs HPW.out.2.2.2 (by rw [List.length_append, H48.out, sumL_length, hD16]; have := padN_lt p.data.length; have := HL0.out; split <;> omega) ?_; intro v9 w9 hf3 hu3 hr3; have hd9 := HFD.out.upd hu3 (HFD.out.off (fun k hk e => by have := HLT6.out k e; omega)); have HD9 := Lib.hid hd9; have HPB9 := Lib.hid (HPW.out.row HW6.out hu3); obtain ⟨A9, n9, cp9, rfl⟩ := Fresh.shape hf3; have HF9 := Lib.hid hf3; have d1 := HPB9.out.2.2.1 1 _ rfl; rw [HHDS.out] at d1; clear hd9 hf3 hu3 hr3)
                  refine (rdigest_bs _ _ _ HD9.out.bs).mono ?_
                  rintro e w10 ⟨v10, rfl, hf10, hs10⟩
                  obtain ⟨A10, n10, cp10, rfl⟩ := Fresh.shape hf10
                  go_wp2_with (at_builtin; refine wpl_append_bytes rfl (.tmp 142) (.tmp 144) 33 rfl Try.underlying33 li5 (w.heap.size + 2) (.slice A9 n9 cp9) (.slice A10 n10 cp10) (HL ++ sumL o.hs HL ++ fullD p.data) (crcDigest (crcSum (fullD p.data))) ((HL ++ sumL o.hs HL ++ fullD p.data) ++ (crcDigest (crcSum (fullD p.data)))) rfl rfl rfl (HF9.out.same hs10) hf10.bs (Nat.le_trans HPB9.out.2.2.2 hs10.size) (by rw [List.length_append, List.length_append, H48.out, sumL_length, hD16, crcDigest_length]; have := padN_lt p.data.length; have := HL0.out; split <;> omega) ?_; intro v11 w11 hf3 hu3 hr3)
                  go_ret2
                  refine ⟨v11, rfl, ?_, ((HPB9.out.same hs10).row (HF9.out.same hs10) hu3).1⟩
                  rw [hraw.out, HSUM.out]
                  have hf4 := hf3.mono (base' := w.heap.size) (by omega)
                  simpa only [List.append_assoc] using hf4
                · have hz2 : n11 = 0 := by have := HZ0.out; omega
                  have hsum : sumL (o.ds && decide (0 < p.data.length)) (fullD p.data) = [] := by rw [hds, decide_eq_false hz]; rfl
                  have HSUM := Lib.hid hsum
                  have HHDS := Lib.hid hds
                  subst hz2
                  clear hsum hds hz
                  go_wp2_with (at_builtin; refine wpl_append_bytes rfl (.tmp 132) (.tmp 133) 33 rfl Try.underlying33 li5 (w.heap.size + 2) (.slice A6 n6 cp6) (.slice A11 _ cp11) (HL ++ sumL o.hs HL) (fullD p.data) ((HL ++ sumL o.hs HL) ++ (fullD p.data)) rfl rfl rfl HW6.out HFD.out.bs HPW.out.2.2.2 (by rw [List.length_append, H48.out, sumL_length, hD16]; have := padN_lt p.data.length; have := HL0.out; split <;> omega) ?_; intro v9 w9 hf3 hu3 hr3; have hd9 := HFD.out.upd hu3 (HFD.out.off (fun k hk e => by have := HLT6.out k e; omega)); have HD9 := Lib.hid hd9; have HPB9 := Lib.hid (HPW.out.row HW6.out hu3); obtain ⟨A9, n9, cp9, rfl⟩ := Fresh.shape hf3; have HF9 := Lib.hid hf3; have d1 := HPB9.out.2.2.1 1 _ rfl; rw [HHDS.out] at d1; clear hd9 hf3 hu3 hr3)
                  go_ret2
                  refine ⟨.slice A9 _ cp9, rfl, ?_, HPB9.out.1⟩
                  rw [hraw.out, HSUM.out, List.append_nil]
                  have hf4 := HF9.out.mono (base' := w.heap.size) (by omega)
                  simpa only [List.append_assoc] using hf4
              · rw [Bool.not_eq_true] at hds
                have hsum : sumL (o.ds && decide (0 < p.data.length)) (fullD p.data) = [] := by rw [hds]; rfl
                have HSUM := Lib.hid hsum
                have HHDS := Lib.hid hds
                clear hsum hds
                go_wp2_with (at_builtin; refine wpl_append_bytes rfl (.tmp 132) (.tmp 133) 33 rfl Try.underlying33 li5 (w.heap.size + 2) (.slice A6 n6 cp6) (.slice A11 _ cp11) (HL ++ sumL o.hs HL) (fullD p.data) ((HL ++ sumL o.hs HL) ++ (fullD p.data)) rfl rfl rfl HW6.out HFD.out.bs HPW.out.2.2.2 (by rw [List.length_append, H48.out, sumL_length, hD16]; have := padN_lt p.data.length; have := HL0.out; split <;> omega) ?_; intro v9 w9 hf3 hu3 hr3; have hd9 := HFD.out.upd hu3 (HFD.out.off (fun k hk e => by have := HLT6.out k e; omega)); have HD9 := Lib.hid hd9; have HPB9 := Lib.hid (HPW.out.row HW6.out hu3); obtain ⟨A9, n9, cp9, rfl⟩ := Fresh.shape hf3; have HF9 := Lib.hid hf3; have d1 := HPB9.out.2.2.1 1 _ rfl; rw [HHDS.out] at d1; clear hd9 hf3 hu3 hr3)
                go_ret2
                refine ⟨.slice A9 _ cp9, rfl, ?_, HPB9.out.1⟩
                rw [hraw.out, HSUM.out, List.append_nil]
                have hf4 := HF9.out.mono (base' := w.heap.size) (by omega)
                simpa only [List.append_assoc] using hf4
            · have hjp : j < padN p.data.length := by unfold padN at hj ⊢; omega
              have h5 : ¬ (n11 : Int) % 4 = 0 := by omega
              have HJP := Lib.hid hjp
              clear hn11 hj h4 hjp
              go_wp2_with (at_builtin; refine wpl_append_bytes rfl (.tmp 129) (.tmp 130) 33 rfl Try.underlying33 li5 wc.heap.size (.slice A11 n11 cp11) _ (p.data ++ List.replicate j 0) [0] ((p.data ++ List.replicate j 0) ++ [0]) rfl rfl rfl (HF11.out.same ((Upd.refl _ wr).alloc _)) (Bs.one wr 0 _ _ rfl (by decide) (by decide)) (by have := HLOW.out.size; simp; omega) (by have := HN11.out; simp; omega) ?_; intro v12 w12 hf3 hu3 hr3; have hps := PadS.step HJP.out HLOW.out HF11.out ((Upd.refl (fun _ => False) wr).alloc _) hu3 hf3; obtain ⟨A12, n12, cp12, rfl⟩ := Fresh.shape hf3; have hn12 := hf3.len; have HN12 := Lib.hid hn12; have HPS := Lib.hid hps; clear hps hf3 hu3 hr3 hn12)
              go_roundw
              case rel => exact ⟨j + 1, HPS.out⟩
              case measure =>
                have h1 := HN11.out
                have h2 := HN12.out
                have h3 := HJP.out
                simp at h2
                simp [slen]
                omega
/-- The reference's Put. -/
theorem rput_any (p : Pd) (o : Ag) (A : Option Addr) (n cap : Nat) (hok : p.ok) (w : World) (hb : Bs w (.slice A n cap) p.data) : Calls Try.prog 19 #[pdA p (.slice A n cap), agA o] w fun e w' => ∃ v', e = .returned (.tuple #[v', .int .i64 (pduE p o)]) ∧ Fresh w.heap.size w' v' (pduL p o) ∧ Same w w' := by
  have hn : n = p.data.length := by
    obtain ⟨_, _, e, _⟩ := id hb
    injection e
  subst hn
  by_cases h : o.right = true
  · by_cases hf : p.fits = true
    · by_cases hm : o.most < (p.data.length : Int)
      · have e : pduE p o = 3 := by unfold pduE; rw [h, hf]; simp [hm]
        have e2 : pduL p o = [] := by unfold pduL; rw [e]; rfl
        rw [e, e2]
        refine (rput_long p o A cap h hf hm w).mono ?_
        rintro e w' ⟨rfl, hs⟩
        exact ⟨_, rfl, Fresh.nil _ _, hs⟩
      · have e : pduE p o = 0 := by unfold pduE; rw [h, hf]; simp [hm]
        have e2 : pduL p o = rawL p o := by unfold pduL; rw [e]; rfl
        rw [e, e2]
        have hr := of_decide_eq_true h
        exact rput_good p o A cap hok h hf hm (by omega) w hb
    · rw [Bool.not_eq_true] at hf
      have e : pduE p o = 1 := by unfold pduE; rw [hf]; simp
      have e2 : pduL p o = [] := by unfold pduL; rw [e]; rfl
      rw [e, e2]
      refine (rput_bad2 p o A _ cap h hf w).mono ?_
      rintro e w' ⟨rfl, hs⟩
      exact ⟨_, rfl, Fresh.nil _ _, hs⟩
  · rw [Bool.not_eq_true] at h
    have e : pduE p o = 1 := by unfold pduE; rw [h]; simp
    have e2 : pduL p o = [] := by unfold pduL; rw [e]; rfl
    rw [e, e2]
    refine (rput_bad1 p o A _ cap h w).mono ?_
    rintro e w' ⟨rfl, hs⟩
    exact ⟨_, rfl, Fresh.nil _ _, hs⟩
end Go.Proofs.Ytfafepmghcobdaa
