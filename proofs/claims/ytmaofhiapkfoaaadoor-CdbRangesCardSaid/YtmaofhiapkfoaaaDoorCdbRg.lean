/- Ranges, the program's and the reference's. -/
import Derived.Test.YtmaofhiapkfoaaaDoorCdbX
import Derived.Test.YtmaofhiapkfoaaaDoorCdbZ
namespace Go.Proofs.YtmaofhiapkfoaaaDoor
open Go.RowKit
set_option linter.unusedVariables false
set_option linter.unusedSimpArgs false
set_option maxRecDepth 20000
set_option maxHeartbeats 4000000
theorem rnat (bs : List UInt8) (pos s : Nat) (h1 : 1 ≤ s) (h8 : s ≤ 8) (h : pos + s ≤ bs.length) : rnE 0 s (bs.drop pos).length = 0 ∧ rnL (bs.drop pos) 0 s = bs.drop (pos + s) ∧ rnN (bs.drop pos) 0 s = wrap64 (rgV bs pos s) := by
  have hE : rnE 0 s (bs.drop pos).length = 0 := by
    unfold rnE
    rw [List.length_drop]
    simp
    omega
  refine ⟨hE, ?_, ?_⟩
  · unfold rnL; rw [if_pos hE, Int.toNat_natCast, List.drop_drop]
  · unfold rnN; rw [if_pos hE, Int.toNat_natCast]; rfl
theorem wrap_small (x : Int) (h : 0 ≤ x ∧ x ≤ 4294967295) : wrap64 x = x := by unfold wrap64; omega
/-- The state behind i ranges: the reader's block p, its row; what has been collected lies from B on. -/
def RS (w wr : World) (bs : List UInt8) (p B : Nat) (v8 : Value) (i : Nat) : Prop :=
  (∃ v, WObj w.heap.size wr p v (bs.drop (8 + 16 * i)) 0 ∧ ∀ k, room v = some k → k < B) ∧ p < B ∧ B ≤ wr.heap.size ∧ w.heap.size ≤ B ∧ Own B wr v8 2 (((List.range i).map (rgI bs)).flatMap rgC) ∧ Same w wr
/-- A reader's step. -/
theorem rd_step {w wr w' : World} {bs : List UInt8} {p B : Nat} {v : Value} (pos s : Nat) (h1 : 1 ≤ s) (h8 : s ≤ 8) (hl : pos + s ≤ bs.length) (ho : WObj w.heap.size wr p v (bs.drop pos) 0) (hs : Same w wr) (hr : ∀ k, room v = some k → k < B)
    (hg : Rd w.heap.size wr p v w' (rnL (bs.drop pos) 0 s) (rnE 0 s (bs.drop pos).length)) : ∃ v', WObj w.heap.size w' p v' (bs.drop (pos + s)) 0 ∧ Same w w' ∧ (∀ k, room v' = some k → k < B) ∧ Upd (fun k => k = p) wr w' := by
  obtain ⟨e1, e2, e3⟩ := rnat bs pos s h1 h8 hl
  rw [e1, e2] at hg
  obtain ⟨v', g1, g2, g3⟩ := hg
  exact ⟨v', g1, Same.into hs g2 (fun k hk => by rw [hk]; exact ho.1), fun k hk => hr k (g3 k hk), g2⟩
/-- What a reader's step leaves. -/
def RdQ (w wr w' : World) (bs : List UInt8) (p B pos : Nat) : Prop := (∃ v, WObj w.heap.size w' p v (bs.drop pos) 0 ∧ ∀ k, room v = some k → k < B) ∧ Same w w' ∧ Upd (fun k => k = p) wr w'
theorem rdn {w wr : World} {bs : List UInt8} {p B : Nat} {v : Value} (pos s : Nat) (x : Int) (hl40 : bs.length ≤ 140737488355328) (h1 : 1 ≤ s) (h8 : s ≤ 8) (hl : pos + s ≤ bs.length) (ho : WObj w.heap.size wr p v (bs.drop pos) 0) (hs : Same w wr) (hr : ∀ k, room v = some k → k < B) (hx : wrap64 (rgV bs pos s) = x) :
    Calls Tryd.prog 49 #[.pointer (some ⟨p, 0, none⟩), .int .i64 (s : Int)] wr fun r w' => r = .returned (.int .i64 x) ∧ RdQ w wr w' bs p B (pos + s) := by
  refine (rnum_any p v (bs.drop pos) 0 (s : Int) wr ho (by rw [List.length_drop]; omega) (by omega) (by omega)).mono ?_
  rintro r w' ⟨rfl, hg⟩
  rw [(rnat bs pos s h1 h8 hl).2.2, hx]
  obtain ⟨v', a, b, c, d⟩ := rd_step pos s h1 h8 hl ho hs hr hg
  exact ⟨rfl, ⟨v', a, c⟩, b, d⟩
theorem rrdn {w wr : World} {bs : List UInt8} {p B : Nat} {v : Value} (pos s : Nat) (x : Int) (hl40 : bs.length ≤ 140737488355328) (h1 : 1 ≤ s) (h8 : s ≤ 8) (hl : pos + s ≤ bs.length) (ho : WObj w.heap.size wr p v (bs.drop pos) 0) (hs : Same w wr) (hr : ∀ k, room v = some k → k < B) (hx : wrap64 (rgV bs pos s) = x) :
    Calls Tryd.prog 52 #[.pointer (some ⟨p, 0, none⟩), .int .i64 (s : Int)] wr fun r w' => r = .returned (.int .i64 x) ∧ RdQ w wr w' bs p B (pos + s) := by
  refine (rrnum_any p v (bs.drop pos) 0 (s : Int) wr ho (by rw [List.length_drop]; omega) (by omega) (by omega)).mono ?_
  rintro r w' ⟨rfl, hg⟩
  rw [(rnat bs pos s h1 h8 hl).2.2, hx]
  obtain ⟨v', a, b, c, d⟩ := rd_step pos s h1 h8 hl ho hs hr hg
  exact ⟨rfl, ⟨v', a, c⟩, b, d⟩
theorem own_off {B : Nat} {wr w' : World} {v8 : Value} {cs : List Value} {p : Nat} (h : Own B wr v8 2 cs) (hp : p < B) (hu : Upd (fun k => k = p) wr w') : Own B w' v8 2 cs := h.upd hu (fun k hk e => by have := (h.ge (by decide) k hk).1; omega)
/-- A range more has been collected. -/
theorem rs_more {w w7 w9 : World} {bs : List UInt8} {p B : Nat} {v8 v9 u7 : Value} {i : Nat} {o : Obj} {xs : List Value} (ho : WObj w.heap.size w7 p u7 (bs.drop (8 + 16 * i + 12 + 4)) 0) (hr : ∀ k, room u7 = some k → k < B) (hp : p < B) (hB : B ≤ w7.heap.size) (hw : w.heap.size ≤ B) (hs : Same w w7)
    (h8 : ∀ k, room v8 = some k → B ≤ k) (hxs : xs = ((List.range i).map (rgI bs)).flatMap rgC ++ rgC (rgI bs i)) (hf : Own B w9 v9 2 xs) (hu : Upd (fun k => room v8 = some k) (w7.alloc o) w9) : RS w w9 bs p B v9 (i + 1) := by
  have ho' := ho.upd ((Upd.refl (fun _ => False) w7).alloc o) (fun _ _ h => h)
  have ho9 := ho'.upd hu (fun k hk e => by
    have := h8 k e
    rcases hk with hk | hk
    · omega
    · have := hr k hk; omega)
  refine ⟨⟨u7, ?_, hr⟩, hp, Nat.le_trans hB (Nat.le_trans (by simp) hu.size), hw, ?_, Same.into (hs.alloc o) hu (fun k hk => Nat.le_trans hw (h8 k hk))⟩
  · rw [show 8 + 16 * (i + 1) = 8 + 16 * i + 12 + 4 by omega]; exact ho9
  · rw [List.range_succ, List.map_append, List.flatMap_append]
    simp only [List.map_cons, List.map_nil, List.flatMap_cons, List.flatMap_nil, List.append_nil]
    rw [← hxs]
    exact hf
theorem step_no {f : Nat → Bool} {i : Nat} (h : ∀ j, j < i → f j = false) (hi : f i = false) : ∀ j, j < i + 1 → f j = false := by
  intro j hj
  rcases Nat.lt_or_ge j i with hl | hl
  · exact h j hl
  · rw [show j = i by omega]; exact hi
theorem rg_bad1 {bs : List UInt8} (h8 : ¬ bs.length < 8) (h : rgBad bs = true) : rgE bs = 11 ∧ rgL bs = [] := by
  have hE : rgE bs = 11 := by unfold rgE; rw [if_neg h8, h]; simp
  exact ⟨hE, by unfold rgL; rw [hE]; rfl⟩
theorem rg_bad2 {bs : List UInt8} (h8 : ¬ bs.length < 8) {i : Nat} (hi : i < rgM bs) (h : rgBadI bs i = true) : rgE bs = 11 ∧ rgL bs = [] := by
  have hE : rgE bs = 11 := by unfold rgE; rw [if_neg h8, anyB_true hi h]; simp
  exact ⟨hE, by unfold rgL; rw [hE]; rfl⟩
theorem rg_end {bs : List UInt8} (h8 : ¬ bs.length < 8) (h : rgBad bs = false) (hi : ∀ i, i < rgM bs → rgBadI bs i = false) : rgE bs = (if 32 < rgM bs then 3 else 0) ∧ rgL bs = if 32 < rgM bs then [] else (List.range (rgM bs)).map (rgI bs) := by
  have hE : rgE bs = if 32 < rgM bs then 3 else 0 := by unfold rgE; rw [if_neg h8, h, anyB_of hi]; rfl
  refine ⟨hE, ?_⟩
  unfold rgL
  rw [hE]
  by_cases h32 : 32 < rgM bs
  · rw [if_pos h32, if_pos h32]; rfl
  · rw [if_neg h32, if_neg h32, if_pos rfl]
theorem rg_head {bs : List UInt8} (h8 : ¬ bs.length < 8) (h : rgBad bs = false) : rgV bs 0 2 = (bs.length : Int) - 2 ∧ rgV bs 2 2 = (bs.length : Int) - 8 ∧ rgV bs 2 2 % 16 = 0 ∧ rgV bs 4 4 = 0 ∧ bs.length = 8 + 16 * rgM bs ∧ rgV bs 2 2 / 16 = (rgM bs : Int) := by
  unfold rgBad at h
  simp only [Bool.or_eq_false_iff, Bool.not_eq_false', beq_iff_eq] at h
  obtain ⟨⟨⟨b1, b2⟩, b3⟩, b4⟩ := h
  have hl : bs.length = 8 + 16 * rgM bs := by unfold rgM; omega
  exact ⟨b1, b2, b3, b4, hl, by omega⟩
theorem ranges_any (v : Value) (bs : List UInt8) (w : World) (h : Bs w v bs) (hl : bs.length ≤ 140737488355328) :
    Calls Tryd.prog 31 #[v] w fun e w' => ∃ v', e = .returned (.tuple #[v', .int .i64 (rgE bs)]) ∧ Own w.heap.size w' v' 2 ((rgL bs).flatMap rgC) ∧ Same w w' := by
  obtain ⟨A, cap, rfl, k1, k2, _⟩ := id h
  by_cases h8 : bs.length < 8
  · have hE : rgE bs = 10 := by unfold rgE; rw [if_pos h8]
    have hL : rgL bs = [] := by unfold rgL; rw [hE]; rfl
    rw [hE, hL]
    have g0 : (bs.length : Int) < 8 := by omega
    clear hE hL h
    go_enter Tryd.func31, Tryd.ntmps31
    go_wp2_with fail
    go_ret2
    exact ⟨_, rfl, Own.nil _ _ _, Upd.refl _ w⟩
  · have g0 : ¬ ((bs.length : Int) < 8) := by omega
    have HNEW := Lib.hid (newReader_any _ bs w h (by omega))
    have hb1 := fun hb => rg_bad1 h8 hb
    have hb2 := fun i hi hb => rg_bad2 h8 (i := i) hi hb
    have hend := fun hb hi => rg_end h8 hb hi
    have hhd := fun hb => rg_head h8 hb
    generalize rgE bs = E at hb1 hb2 hend ⊢
    generalize rgL bs = L at hb1 hb2 hend ⊢
    have HB1 := Lib.hid hb1
    have HB2 := Lib.hid hb2
    have HEND := Lib.hid hend
    have HHD := Lib.hid hhd
    have H8 := Lib.hid h8
    obtain ⟨i0, hi0, hz1, hz2, hz3⟩ := info_parts hinfo_given2
    clear hb1 hb2 hend hhd h h8
    go_enter Tryd.func31, Tryd.ntmps31
    go_wp2_with fail
    refine HNEW.out.mono ?_
    rintro e w1 ⟨p, u1, rfl, ho1, hs1⟩
    have HO1 : Hid (WObj w.heap.size w1 p u1 (bs.drop 0) 0) := ho1
    have HS1 := Lib.hid hs1
    clear ho1 hs1
    go_wp2_with fail
    refine (rdn (B := w1.heap.size) 0 2 (rgV bs 0 2) hl (by omega) (by omega) (by have := H8.out; omega) HO1.out HS1.out (fun k hk => (HO1.out.2.2.1.ge k hk).2) (wrap_small _ ⟨(rgV_range bs 0 2 (by omega)).1, (rgV_range bs 0 2 (by omega)).2.2.1 (by omega)⟩)).mono ?_
    rintro e w2 ⟨rfl, ⟨u2, ho2, hr2⟩, hs2, hu2⟩
    have HO2 := Lib.hid ho2
    have HS2 := Lib.hid hs2
    have HR2 := Lib.hid hr2
    have HZ2 := Lib.hid hu2.size
    clear ho2 hs2 hr2 hu2
    go_wp2_with fail
    refine (rdn (B := w1.heap.size) 2 2 (rgV bs 2 2) hl (by omega) (by omega) (by have := H8.out; omega) HO2.out HS2.out HR2.out (wrap_small _ ⟨(rgV_range bs 2 2 (by omega)).1, (rgV_range bs 2 2 (by omega)).2.2.1 (by omega)⟩)).mono ?_
    rintro e w3 ⟨rfl, ⟨u3, ho3, hr3⟩, hs3, hu3⟩
    have HO3 := Lib.hid ho3
    have HS3 := Lib.hid hs3
    have HR3 := Lib.hid hr3
    have HZ3 := Lib.hid hu3.size
    clear ho3 hs3 hr3 hu3
    go_wp2_with fail
    refine (rdn (B := w1.heap.size) 4 4 (rgV bs 4 4) hl (by omega) (by omega) (by have := H8.out; omega) HO3.out HS3.out HR3.out (wrap_small _ ⟨(rgV_range bs 4 4 (by omega)).1, (rgV_range bs 4 4 (by omega)).2.2.1 (by omega)⟩)).mono ?_
    rintro e w4 ⟨rfl, ⟨u4, ho4, hr4⟩, hs4, hu4⟩
    have hp1 : p < w1.heap.size := HO1.out.2.1.lt
    have hz41 : w1.heap.size ≤ w4.heap.size := Nat.le_trans HZ2.out (Nat.le_trans HZ3.out hu4.size)
    have hRS : RS w w4 bs p w1.heap.size (.slice none 0 0) 0 := ⟨⟨u4, ho4, hr4⟩, hp1, hz41, HS1.out.size, Own.nil _ _ _, hs4⟩
    have HRS := Lib.hid hRS
    have HS4 := Lib.hid hs4
    have ra := rgV_range bs 0 2 (by omega)
    have rb := rgV_range bs 2 2 (by omega)
    have rc := rgV_range bs 4 4 (by omega)
    clear ho4 hs4 hr4 hu4 hRS HZ2 HZ3 HO1 HO2 HO3 HS1 HS2 HS3 HR2 HR3 HNEW
    by_cases hbad : rgBad bs = true
    · obtain ⟨rfl, rfl⟩ := HB1.out hbad
      have hbb : ¬ (rgV bs 0 2 = (bs.length : Int) - 2 ∧ rgV bs 2 2 = (bs.length : Int) - 8 ∧ rgV bs 2 2 % 16 = 0 ∧ rgV bs 4 4 = 0) := fun ⟨x1, x2, x3, x4⟩ => by
        unfold rgBad at hbad
        rw [x1, x2, x4] at hbad
        rw [x2] at x3
        simp [x3] at hbad
      have hw2 : IntKind.i64.wrap ((bs.length : Int) - 2) = (bs.length : Int) - 2 := by rw [IntKind.wrap_i64]; omega
      have hw8 : IntKind.i64.wrap ((bs.length : Int) - 8) = (bs.length : Int) - 8 := by rw [IntKind.wrap_i64]; omega
      have HBB := Lib.hid hbb
      generalize rgV bs 0 2 = a at HBB ra ⊢
      generalize rgV bs 2 2 = n at HBB rb ⊢
      generalize rgV bs 4 4 = z at HBB rc ⊢
      clear hbad hbb HB1 HB2 HEND HHD
      by_cases t1 : a = (bs.length : Int) - 2
      · by_cases t2 : n = (bs.length : Int) - 8
        · by_cases t3 : n % 16 = 0
          · have t4 : ¬ z = 0 := fun t4 => HBB.out ⟨t1, t2, t3, t4⟩
            have e1 : (a != (bs.length : Int) - 2) = false := by simpa using t1
            have e2 : (n != (bs.length : Int) - 8) = false := by simpa using t2
            have e3 : (n % 16 != 0) = false := by simpa using t3
            have e4 : (z != 0) = true := by simpa using t4
            clear t1 t2 t3 t4 HBB
            go_wp2_with fail
            go_ret2
            exact ⟨_, rfl, Own.nil _ _ _, HS4.out⟩
          · have e1 : (a != (bs.length : Int) - 2) = false := by simpa using t1
            have e2 : (n != (bs.length : Int) - 8) = false := by simpa using t2
            have e3 : (n % 16 != 0) = true := by simpa using t3
            clear t1 t2 t3 HBB
            go_wp2_with fail
            go_ret2
            exact ⟨_, rfl, Own.nil _ _ _, HS4.out⟩
        · have e1 : (a != (bs.length : Int) - 2) = false := by simpa using t1
          have e2 : (n != (bs.length : Int) - 8) = true := by simpa using t2
          clear t1 t2 HBB
          go_wp2_with fail
          go_ret2
          exact ⟨_, rfl, Own.nil _ _ _, HS4.out⟩
      · have e1 : (a != (bs.length : Int) - 2) = true := by simpa using t1
        clear t1 HBB
        go_wp2_with fail
        go_ret2
        exact ⟨_, rfl, Own.nil _ _ _, HS4.out⟩
    · have hbf : rgBad bs = false := by simpa using hbad
      obtain ⟨y1, y2, y3, y4, y5, y6⟩ := HHD.out hbf
      have hw2 : IntKind.i64.wrap ((bs.length : Int) - 2) = (bs.length : Int) - 2 := by rw [IntKind.wrap_i64]; omega
      have hw8 : IntKind.i64.wrap ((bs.length : Int) - 8) = (bs.length : Int) - 8 := by rw [IntKind.wrap_i64]; omega
      have e1 : (rgV bs 0 2 != (bs.length : Int) - 2) = false := by simpa using y1
      have e2 : (rgV bs 2 2 != (bs.length : Int) - 8) = false := by simpa using y2
      have e3 : (rgV bs 2 2 % 16 != 0) = false := by simpa using y3
      have e4 : (rgV bs 4 4 != 0) = false := by simpa using y4
      have HEND2 := Lib.hid (HEND.out hbf)
      have Y5 := Lib.hid y5
      generalize rgV bs 0 2 = a at e1 ra ⊢
      generalize rgV bs 2 2 = n at e2 e3 rb y6 ⊢
      generalize rgV bs 4 4 = z at e4 rc ⊢
      have hm40 : rgM bs ≤ 8796093022208 := by have := Y5.out; omega
      generalize hM : rgM bs = m at y6 hm40 HEND2 Y5 HB2
      clear y1 y2 y3 y4 y5 hbad hbf HB1 HEND HHD hM
      go_wp2_with fail
      rw [y6]
      go_loopw [8, 44] (fun v8 v44 wr => ∃ i : Nat, i ≤ m ∧ v44 = .int .i64 i ∧ Hid (RS w wr bs p w1.heap.size v8 i ∧ ∀ j, j < i → rgBadI bs j = false)) (fun _ v44 _ => m - (intOf v44).toNat)
      case atStart => exact ⟨0, by omega, rfl, HRS.out, fun j hj => by omega⟩
      case round =>
        obtain ⟨i, hi, rfl, hin⟩ := hrel
        obtain ⟨⟨⟨u, ho, hr⟩, hpB, hBz, hwB, hown, hs⟩, hno⟩ := hin.out
        by_cases hlt : i < m
        · have gi : (i : Int) < (m : Int) := by omega
          obtain ⟨zA0, zn0, zc0, hz0, -⟩ := Own.open_ hown
          subst hz0
          have h88 : ∀ k, room (.slice zA0 zn0 zc0) = some k → w1.heap.size ≤ k := fun k hk => (hown.ge (by decide) k hk).1
          have hln : (((List.range i).map (rgI bs)).flatMap rgC).length = i * 2 := by rw [flat_len]; simp
          have r8 := rgV_range bs (8 + 16 * i) 8 (by omega)
          have r4 := rgV_range bs (8 + 16 * i + 8) 4 (by omega)
          have rz := rgV_range bs (8 + 16 * i + 12) 4 (by omega)
          have hz0 := u64_back (rgV bs (8 + 16 * i) 8) ⟨r8.1, r8.2.1⟩
          have q4 := wrap_small _ ⟨r4.1, r4.2.2.1 (by omega)⟩
          have qz := wrap_small _ ⟨rz.1, rz.2.2.1 (by omega)⟩
          have hrgi : rgC (rgI bs i) = [.int .u64 (rgV bs (8 + 16 * i) 8), .int .i64 (rgV bs (8 + 16 * i + 8) 4)] := rfl
          have hbadi : rgBadI bs i = !(rgV bs (8 + 16 * i + 12) 4 == 0) := rfl
          have HN1 := Lib.hid (fun W v hl40 h1 h8 hl ho hs hr => @rdn w W bs p w1.heap.size v (8 + 16 * i) 8 _ hl40 h1 h8 hl ho hs hr rfl)
          have HN2 := Lib.hid (fun W v hl40 h1 h8 hl ho hs hr => @rdn w W bs p w1.heap.size v (8 + 16 * i + 8) 4 _ hl40 h1 h8 hl ho hs hr q4)
          have HN3 := Lib.hid (fun W v hl40 h1 h8 hl ho hs hr => @rdn w W bs p w1.heap.size v (8 + 16 * i + 12) 4 _ hl40 h1 h8 hl ho hs hr qz)
          generalize rgV bs (8 + 16 * i) 8 = lba at HN1 hz0 hrgi r8
          generalize rgV bs (8 + 16 * i + 8) 4 = N at HN2 hrgi r4
          generalize rgV bs (8 + 16 * i + 12) 4 = z3 at HN3 hbadi rz
          have HO := Lib.hid ho
          have HR := Lib.hid hr
          have HOWN := Lib.hid hown
          have HS := Lib.hid hs
          have H88 := Lib.hid h88
          have HLN := Lib.hid hln
          have HRGI := Lib.hid hrgi
          have HBI := Lib.hid hbadi
          have HNO := Lib.hid hno
          have HBZ := Lib.hid hBz
          have HWB := Lib.hid hwB
          have HL16 : Hid (8 + 16 * i + 16 ≤ bs.length) := by have := Y5.out; show 8 + 16 * i + 16 ≤ bs.length; omega
          clear ho hr hown hs h88 hln hrgi hbadi hno hBz hwB hin q4 qz r8 r4 hlt
          go_wp2_with fail
          refine (HN1.out _ _ hl (by omega) (by omega) (by have := HL16.out; omega) HO.out HS.out HR.out).mono ?_
          rintro e w5 ⟨rfl, ⟨u5, ho5, hr5⟩, hs5, hu5⟩
          have HO5 := Lib.hid ho5
          have HR5 := Lib.hid hr5
          have HS5 := Lib.hid hs5
          have HOWN5 := Lib.hid (own_off HOWN.out hpB hu5)
          have HBZ5 := Lib.hid (Nat.le_trans HBZ.out hu5.size)
          clear ho5 hr5 hs5 hu5 HO HR HS HOWN HBZ
          go_wp2_with fail
          refine (HN2.out _ _ hl (by omega) (by omega) (by have := HL16.out; omega) HO5.out HS5.out HR5.out).mono ?_
          rintro e w6 ⟨rfl, ⟨u6, ho6, hr6⟩, hs6, hu6⟩
          have HOWN6 := Lib.hid ((own_off HOWN5.out hpB hu6).same ((Upd.refl (fun _ => False) w6).alloc (.cells #[.int .u64 lba, .int .i64 N] 101)))
          have HBZ6 := Lib.hid (Nat.le_trans HBZ5.out hu6.size)
          have HO6 := Lib.hid (ho6.upd ((Upd.refl (fun _ => False) w6).alloc (.cells #[.int .u64 lba, .int .i64 N] 101)) (fun _ _ h => h))
          have HR6 := Lib.hid hr6
          have HS6 := Lib.hid (hs6.alloc (.cells #[.int .u64 lba, .int .i64 N] 101))
          clear ho6 hr6 hs6 hu6 HO5 HR5 HS5 HOWN5 HBZ5
          go_wp2_with fail
          refine (HN3.out _ _ hl (by omega) (by omega) (by have := HL16.out; omega) HO6.out HS6.out HR6.out).mono ?_
          rintro e w7 ⟨rfl, ⟨u7, ho7, hr7⟩, hs7, hu7⟩
          have hpw6 : ¬ w6.heap.size = p := by have := HBZ6.out; omega
          have c0 : w7.cell? ⟨w6.heap.size, 0, none⟩ = some (.int .u64 lba) := hu7.cell (by rw [cell_of_row _ _ 0 _ _ (0, 0) (heap_alloc_new w6 _)]; rfl) hpw6
          have c1 : w7.cell? ⟨w6.heap.size, 1, none⟩ = some (.int .i64 N) := hu7.cell (by rw [cell_of_row _ _ 1 _ _ (0, 0) (heap_alloc_new w6 _)]; rfl) hpw6
          have HOWN7 := Lib.hid (own_off HOWN6.out hpB hu7)
          have HBZ7 : Hid (w1.heap.size ≤ w7.heap.size) := Nat.le_trans HBZ6.out (Nat.le_trans (by simp) hu7.size)
          have HO7 := Lib.hid ho7
          have HR7 := Lib.hid hr7
          have HS7 := Lib.hid hs7
          clear ho7 hr7 hs7 hu7 HO6 HR6 HS6 HOWN6 HBZ6 HN1 HN2 HN3 hpw6
          by_cases hz : z3 = 0
          · have ez : (z3 != 0) = false := by simpa using hz
            have hbf : rgBadI bs i = false := by rw [HBI.out, hz]; rfl
            have HBF := Lib.hid hbf
            clear hz hbf
            go_wp2_with (at_builtin; refine wpl_append rfl (.tmp 55) (.tmp 57) 55 rfl Tryd.underlying55 hi0 hz1 hz2 hz3 rfl (by decide) (xs := ((List.range i).map (rgI bs)).flatMap rgC) (ys := [.int .u64 lba, .int .i64 N]) (HOWN7.out.same ((Upd.refl _ w7).alloc _)) (Rdr.box w7 [.int .u64 lba, .int .i64 N] 101 (0, 0) w7.heap.size rfl 2 rfl) (by simp; exact ⟨rfl, rfl⟩) (by have := HBZ7.out; simp; omega) i 1 HLN.out rfl (by omega) (by omega) ?_; intro v9 w9 hf9 hu9 hr9; have H9 : Hid (RS w w9 bs p w1.heap.size v9 (i + 1) ∧ ∀ j, j < i + 1 → rgBadI bs j = false) := ⟨rs_more (v8 := .slice zA0 zn0 zc0) HO7.out HR7.out hpB HBZ7.out HWB.out HS7.out H88.out (by rw [HRGI.out]) hf9 hu9, step_no HNO.out HBF.out⟩; clear hf9 hu9 hr9)
            go_roundw
            case rel => exact ⟨i + 1, by omega, by go_num, H9⟩
            case measure => simp [intOf]; omega
          · have ez : (z3 != 0) = true := by simpa using hz
            have hbt : rgBadI bs i = true := by rw [HBI.out]; simpa using hz
            obtain ⟨rfl, rfl⟩ := HB2.out i (by omega) hbt
            clear hz hbt HEND2 HB2
            go_wp2_with fail
            go_ret2
            exact ⟨_, rfl, Own.nil _ _ _, HS7.out⟩
        · obtain rfl : i = m := by omega
          obtain ⟨hE, hL⟩ := HEND2.out hno
          obtain ⟨zA0, zn0, zc0, hz0, zl, -⟩ := Own.open_ hown
          subst hz0
          have hln : zn0 = i := by rw [flat_len] at zl; simp at zl; omega
          subst hln
          have HOWN := Lib.hid (hown.mono hwB)
          have HS := Lib.hid hs
          clear ho hr hpB hBz hwB hown hs hno hin HEND2 HB2 zl
          by_cases h32 : 32 < zn0
          · rw [if_pos h32] at hE hL
            subst hE hL
            have g32 : (32 : Int) < (zn0 : Int) := by omega
            clear h32
            go_wp2_with fail
            go_ret2
            exact ⟨_, rfl, Own.nil _ _ _, HS.out⟩
          · rw [if_neg h32] at hE hL
            subst hE hL
            have g32 : ¬ ((32 : Int) < (zn0 : Int)) := by omega
            clear h32
            go_wp2_with fail
            go_ret2
            exact ⟨_, rfl, HOWN.out, HS.out⟩
end Go.Proofs.YtmaofhiapkfoaaaDoor
