/- The reference's Ranges. -/
import Derived.Test.YtmaofhiapkfoaaaDoorCdbRg
namespace Go.Proofs.YtmaofhiapkfoaaaDoor
open Go.RowKit
set_option linter.unusedVariables false
set_option linter.unusedSimpArgs false
set_option maxRecDepth 20000
set_option maxHeartbeats 4000000
/-- What the loop keeps: while nothing is bad, RS. -/
def RB (w wr : World) (bs : List UInt8) (p B : Nat) (v9 : Value) (i : Nat) (E : Int) (L : List (Int × Int)) (b : Bool) : Prop :=
  match b with
  | true => (E = 11 ∧ L = []) ∧ Same w wr
  | false => RS w wr bs p B v9 i ∧ ∀ j, j < i → rgBadI bs j = false
theorem rranges_any (v : Value) (bs : List UInt8) (w : World) (h : Bs w v bs) (hl : bs.length ≤ 140737488355328) :
    Calls Tryd.prog 32 #[v] w fun e w' => ∃ v', e = .returned (.tuple #[v', .int .i64 (rgE bs)]) ∧ Own w.heap.size w' v' 2 ((rgL bs).flatMap rgC) ∧ Same w w' := by
  obtain ⟨A, cap, rfl, k1, k2, _⟩ := id h
  by_cases h8 : bs.length < 8
  · have hE : rgE bs = 10 := by unfold rgE; rw [if_pos h8]
    have hL : rgL bs = [] := by unfold rgL; rw [hE]; rfl
    rw [hE, hL]
    have g0 : (bs.length : Int) < 8 := by omega
    clear hE hL h
    go_enter Tryd.func32, Tryd.ntmps32
    go_wp2_with fail
    go_ret2
    exact ⟨_, rfl, Own.nil _ _ _, Upd.refl _ w⟩
  · have g0 : ¬ ((bs.length : Int) < 8) := by omega
    have HNEW := Lib.hid (of_any _ bs w h (by omega))
    have hb1 := fun hb => rg_bad1 h8 hb
    have hb2 := fun i hi hb => rg_bad2 h8 (i := i) hi hb
    have hend := fun hb hi => rg_end h8 hb hi
    have hhd := fun hb => rg_head h8 hb
    generalize rgE bs = E at hb1 hb2 hend ⊢
    generalize rgL bs = L at hb1 hb2 hend ⊢
    have HB1 := Lib.hid hb1
    have HB2 := Lib.hid hb2
    have HEND := Lib.hid hend
    have HHD := Lib.hid hhd
    have H8 := Lib.hid h8
    obtain ⟨i0, hi0, hz1, hz2, hz3⟩ := info_parts hinfo_taken2
    clear hb1 hb2 hend hhd h h8
    go_enter Tryd.func32, Tryd.ntmps32
    go_wp2_with fail
    refine HNEW.out.mono ?_
    rintro e w1 ⟨p, u1, rfl, ho1, hs1⟩
    have HO1 : Hid (WObj w.heap.size w1 p u1 (bs.drop 0) 0) := ho1
    have HS1 := Lib.hid hs1
    clear ho1 hs1
    go_wp2_with fail
    refine (rrdn (B := w1.heap.size) 0 2 (rgV bs 0 2) hl (by omega) (by omega) (by have := H8.out; omega) HO1.out HS1.out (fun k hk => (HO1.out.2.2.1.ge k hk).2) (wrap_small _ ⟨(rgV_range bs 0 2 (by omega)).1, (rgV_range bs 0 2 (by omega)).2.2.1 (by omega)⟩)).mono ?_
    rintro e w2 ⟨rfl, ⟨u2, ho2, hr2⟩, hs2, hu2⟩
    have HO2 := Lib.hid ho2
    have HS2 := Lib.hid hs2
    have HR2 := Lib.hid hr2
    have HZ2 := Lib.hid hu2.size
    clear ho2 hs2 hr2 hu2
    go_wp2_with fail
    refine (rrdn (B := w1.heap.size) 2 2 (rgV bs 2 2) hl (by omega) (by omega) (by have := H8.out; omega) HO2.out HS2.out HR2.out (wrap_small _ ⟨(rgV_range bs 2 2 (by omega)).1, (rgV_range bs 2 2 (by omega)).2.2.1 (by omega)⟩)).mono ?_
    rintro e w3 ⟨rfl, ⟨u3, ho3, hr3⟩, hs3, hu3⟩
    have HO3 := Lib.hid ho3
    have HS3 := Lib.hid hs3
    have HR3 := Lib.hid hr3
    have HZ3 := Lib.hid hu3.size
    clear ho3 hs3 hr3 hu3
    go_wp2_with fail
    refine (rrdn (B := w1.heap.size) 4 4 (rgV bs 4 4) hl (by omega) (by omega) (by have := H8.out; omega) HO3.out HS3.out HR3.out (wrap_small _ ⟨(rgV_range bs 4 4 (by omega)).1, (rgV_range bs 4 4 (by omega)).2.2.1 (by omega)⟩)).mono ?_
    rintro e w4 ⟨rfl, ⟨u4, ho4, hr4⟩, hs4, hu4⟩
    have hp1 : p < w1.heap.size := HO1.out.2.1.lt
    have hz41 : w1.heap.size ≤ w4.heap.size := Nat.le_trans HZ2.out (Nat.le_trans HZ3.out hu4.size)
    have hRS : RS w w4 bs p w1.heap.size (.slice none 0 0) 0 := ⟨⟨u4, ho4, hr4⟩, hp1, hz41, HS1.out.size, Own.nil _ _ _, hs4⟩
    have HRS := Lib.hid hRS
    have HS4 := Lib.hid hs4
    have ra := rgV_range bs 0 2 (by omega)
    have rb := rgV_range bs 2 2 (by omega)
    have rc := rgV_range bs 4 4 (by omega)
    clear ho4 hs4 hr4 hu4 hRS HZ2 HZ3 HO1 HO2 HO3 HS1 HS2 HS3 HR2 HR3 HNEW
    by_cases hbad : rgBad bs = true
    · obtain ⟨rfl, rfl⟩ := HB1.out hbad
      have hbb : ¬ (rgV bs 0 2 = (bs.length : Int) - 2 ∧ rgV bs 2 2 = (bs.length : Int) - 8 ∧ rgV bs 2 2 % 16 = 0 ∧ rgV bs 4 4 = 0) := fun ⟨x1, x2, x3, x4⟩ => by
        unfold rgBad at hbad
        rw [x1, x2, x4] at hbad
        rw [x2] at x3
        simp [x3] at hbad
      have hw2 : IntKind.i64.wrap ((bs.length : Int) - 2) = (bs.length : Int) - 2 := by rw [IntKind.wrap_i64]; omega
      have hw8 : IntKind.i64.wrap ((bs.length : Int) - 8) = (bs.length : Int) - 8 := by rw [IntKind.wrap_i64]; omega
      have HBB := Lib.hid hbb
      generalize rgV bs 0 2 = a at HBB ra ⊢
      generalize rgV bs 2 2 = n at HBB rb ⊢
      generalize rgV bs 4 4 = z at HBB rc ⊢
      clear hbad hbb HB1 HB2 HEND HHD
      by_cases t1 : a = (bs.length : Int) - 2
      · by_cases t2 : n = (bs.length : Int) - 8
        · by_cases t3 : n % 16 = 0
          · have t4 : ¬ z = 0 := fun t4 => HBB.out ⟨t1, t2, t3, t4⟩
            have e1 : (a != (bs.length : Int) - 2) = false := by simpa using t1
            have e2 : (n != (bs.length : Int) - 8) = false := by simpa using t2
            have e3 : (n % 16 != 0) = false := by simpa using t3
            have e4 : (z != 0) = true := by simpa using t4
            clear t1 t2 t3 t4 HBB
            go_wp2_with fail
            go_loopw [8, 10] (fun v8 v10 wr => v8 = .bool true ∧ v10 = .int .i64 0 ∧ wr = w4) (fun _ _ _ => 0)
            case atStart => exact ⟨rfl, rfl, rfl⟩
            case round =>
              obtain ⟨rfl, rfl, rfl⟩ := hrel
              by_cases q : 0 < n / 16
              · go_wp2_with fail
                go_ret2
                exact ⟨_, rfl, Own.nil _ _ _, HS4.out⟩
              · go_wp2_with fail
                go_ret2
                exact ⟨_, rfl, Own.nil _ _ _, HS4.out⟩
          · have e1 : (a != (bs.length : Int) - 2) = false := by simpa using t1
            have e2 : (n != (bs.length : Int) - 8) = false := by simpa using t2
            have e3 : (n % 16 != 0) = true := by simpa using t3
            clear t1 t2 t3 HBB
            go_wp2_with fail
            go_loopw [8, 10] (fun v8 v10 wr => v8 = .bool true ∧ v10 = .int .i64 0 ∧ wr = w4) (fun _ _ _ => 0)
            case atStart => exact ⟨rfl, rfl, rfl⟩
            case round =>
              obtain ⟨rfl, rfl, rfl⟩ := hrel
              by_cases q : 0 < n / 16
              · go_wp2_with fail
                go_ret2
                exact ⟨_, rfl, Own.nil _ _ _, HS4.out⟩
              · go_wp2_with fail
                go_ret2
                exact ⟨_, rfl, Own.nil _ _ _, HS4.out⟩
        · have e1 : (a != (bs.length : Int) - 2) = false := by simpa using t1
          have e2 : (n != (bs.length : Int) - 8) = true := by simpa using t2
          clear t1 t2 HBB
          go_wp2_with fail
          go_loopw [8, 10] (fun v8 v10 wr => v8 = .bool true ∧ v10 = .int .i64 0 ∧ wr = w4) (fun _ _ _ => 0)
          case atStart => exact ⟨rfl, rfl, rfl⟩
          case round =>
            obtain ⟨rfl, rfl, rfl⟩ := hrel
            by_cases q : 0 < n / 16
            · go_wp2_with fail
              go_ret2
              exact ⟨_, rfl, Own.nil _ _ _, HS4.out⟩
            · go_wp2_with fail
              go_ret2
              exact ⟨_, rfl, Own.nil _ _ _, HS4.out⟩
      · have e1 : (a != (bs.length : Int) - 2) = true := by simpa using t1
        clear t1 HBB
        go_wp2_with fail
        go_loopw [8, 10] (fun v8 v10 wr => v8 = .bool true ∧ v10 = .int .i64 0 ∧ wr = w4) (fun _ _ _ => 0)
        case atStart => exact ⟨rfl, rfl, rfl⟩
        case round =>
          obtain ⟨rfl, rfl, rfl⟩ := hrel
          by_cases q : 0 < n / 16
          · go_wp2_with fail
            go_ret2
            exact ⟨_, rfl, Own.nil _ _ _, HS4.out⟩
          · go_wp2_with fail
            go_ret2
            exact ⟨_, rfl, Own.nil _ _ _, HS4.out⟩
    · have hbf : rgBad bs = false := by simpa using hbad
      obtain ⟨y1, y2, y3, y4, y5, y6⟩ := HHD.out hbf
      have hw2 : IntKind.i64.wrap ((bs.length : Int) - 2) = (bs.length : Int) - 2 := by rw [IntKind.wrap_i64]; omega
      have hw8 : IntKind.i64.wrap ((bs.length : Int) - 8) = (bs.length : Int) - 8 := by rw [IntKind.wrap_i64]; omega
      have e1 : (rgV bs 0 2 != (bs.length : Int) - 2) = false := by simpa using y1
      have e2 : (rgV bs 2 2 != (bs.length : Int) - 8) = false := by simpa using y2
      have e3 : (rgV bs 2 2 % 16 != 0) = false := by simpa using y3
      have e4 : (rgV bs 4 4 != 0) = false := by simpa using y4
      have HEND2 := Lib.hid (HEND.out hbf)
      have Y5 := Lib.hid y5
      generalize rgV bs 0 2 = a at e1 ra ⊢
      generalize rgV bs 2 2 = n at e2 e3 rb y6 ⊢
      generalize rgV bs 4 4 = z at e4 rc ⊢
      have hm40 : rgM bs ≤ 8796093022208 := by have := Y5.out; omega
      generalize hM : rgM bs = m at y6 hm40 HEND2 Y5 HB2
      clear y1 y2 y3 y4 y5 hbad hbf HB1 HEND HHD hM
      go_wp2_with fail
      go_loopw [8, 9, 10] (fun v8 v9 v10 wr => ∃ (i : Nat) (b : Bool), i ≤ m ∧ v10 = .int .i64 i ∧ v8 = .bool b ∧ Hid (RB w wr bs p w1.heap.size v9 i E L b)) (fun _ _ v10 _ => m - (intOf v10).toNat)
      case atStart => exact ⟨0, false, by omega, rfl, rfl, HRS.out, fun j hj => by omega⟩
      case round =>
        obtain ⟨i, b, hi, rfl, rfl, hin⟩ := hrel
        by_cases hb : b = true
        · subst hb
          obtain ⟨⟨rfl, rfl⟩, hs⟩ := hin.out
          have HS := Lib.hid hs
          clear hin hs HEND2 HB2
          by_cases hlt : i < m
          · have gi : (i : Int) < (m : Int) := by omega
            clear hlt
            go_wp2_with fail
            go_ret2
            exact ⟨_, rfl, Own.nil _ _ _, HS.out⟩
          · have gi : ¬ ((i : Int) < (m : Int)) := by omega
            clear hlt
            go_wp2_with fail
            go_ret2
            exact ⟨_, rfl, Own.nil _ _ _, HS.out⟩
        · obtain rfl : b = false := by simpa using hb
          obtain ⟨⟨⟨u, ho, hr⟩, hpB, hBz, hwB, hown, hs⟩, hno⟩ := hin.out
          clear hb
          by_cases hlt : i < m
          · have gi : (i : Int) < (m : Int) := by omega
            obtain ⟨zA0, zn0, zc0, hz0, -⟩ := Own.open_ hown
            subst hz0
            have h88 : ∀ k, room (.slice zA0 zn0 zc0) = some k → w1.heap.size ≤ k := fun k hk => (hown.ge (by decide) k hk).1
            have hln : (((List.range i).map (rgI bs)).flatMap rgC).length = i * 2 := by rw [flat_len]; simp
            have r8 := rgV_range bs (8 + 16 * i) 8 (by omega)
            have r4 := rgV_range bs (8 + 16 * i + 8) 4 (by omega)
            have rz := rgV_range bs (8 + 16 * i + 12) 4 (by omega)
            have hz0 := u64_back (rgV bs (8 + 16 * i) 8) ⟨r8.1, r8.2.1⟩
            have q4 := wrap_small _ ⟨r4.1, r4.2.2.1 (by omega)⟩
            have qz := wrap_small _ ⟨rz.1, rz.2.2.1 (by omega)⟩
            have hrgi : rgC (rgI bs i) = [.int .u64 (rgV bs (8 + 16 * i) 8), .int .i64 (rgV bs (8 + 16 * i + 8) 4)] := rfl
            have hbadi : rgBadI bs i = !(rgV bs (8 + 16 * i + 12) 4 == 0) := rfl
            have HN1 := Lib.hid (fun W v hl40 h1 h8 hl ho hs hr => @rrdn w W bs p w1.heap.size v (8 + 16 * i) 8 _ hl40 h1 h8 hl ho hs hr rfl)
            have HN2 := Lib.hid (fun W v hl40 h1 h8 hl ho hs hr => @rrdn w W bs p w1.heap.size v (8 + 16 * i + 8) 4 _ hl40 h1 h8 hl ho hs hr q4)
            have HN3 := Lib.hid (fun W v hl40 h1 h8 hl ho hs hr => @rrdn w W bs p w1.heap.size v (8 + 16 * i + 12) 4 _ hl40 h1 h8 hl ho hs hr qz)
            generalize rgV bs (8 + 16 * i) 8 = lba at HN1 hz0 hrgi r8
            generalize rgV bs (8 + 16 * i + 8) 4 = N at HN2 hrgi r4
            generalize rgV bs (8 + 16 * i + 12) 4 = z3 at HN3 hbadi rz
            have HO := Lib.hid ho
            have HR := Lib.hid hr
            have HOWN := Lib.hid hown
            have HS := Lib.hid hs
            have H88 := Lib.hid h88
            have HLN := Lib.hid hln
            have HRGI := Lib.hid hrgi
            have HBI := Lib.hid hbadi
            have HNO := Lib.hid hno
            have HBZ := Lib.hid hBz
            have HWB := Lib.hid hwB
            have HL16 : Hid (8 + 16 * i + 16 ≤ bs.length) := by have := Y5.out; show 8 + 16 * i + 16 ≤ bs.length; omega
            clear ho hr hown hs h88 hln hrgi hbadi hno hBz hwB hin q4 qz r8 r4 hlt
            go_wp2_with fail
            refine (HN1.out _ _ hl (by omega) (by omega) (by have := HL16.out; omega) HO.out HS.out HR.out).mono ?_
            rintro e w5 ⟨rfl, ⟨u5, ho5, hr5⟩, hs5, hu5⟩
            have HOWN5 := Lib.hid ((own_off HOWN.out hpB hu5).same ((Upd.refl (fun _ => False) w5).alloc (.cells #[.int .u64 lba, .int .i64 0] 102)))
            have HBZ5 := Lib.hid (Nat.le_trans HBZ.out hu5.size)
            have HO5 := Lib.hid (ho5.upd ((Upd.refl (fun _ => False) w5).alloc (.cells #[.int .u64 lba, .int .i64 0] 102)) (fun _ _ h => h))
            have HR5 := Lib.hid hr5
            have HRL5 : Hid (∀ k, room (.slice zA0 zn0 zc0) = some k → k < w5.heap.size) := fun k hk => ((own_off HOWN.out hpB hu5).ge (by decide) k hk).2
            have HS5 := Lib.hid (hs5.alloc (.cells #[.int .u64 lba, .int .i64 0] 102))
            clear ho5 hr5 hs5 hu5 HO HR HS HOWN HBZ
            go_wp2_with fail
            refine (HN2.out _ _ hl (by omega) (by omega) (by have := HL16.out; omega) HO5.out HS5.out HR5.out).mono ?_
            rintro e w6 ⟨rfl, ⟨u6, ho6, hr6⟩, hs6, hu6⟩
            have hpw6 : ¬ w5.heap.size = p := by have := HBZ5.out; omega
            have hc6 := (Cell2.new w5 (.int .u64 lba) 0 102 _ rfl).upd hu6 hpw6
            obtain ⟨c0, c1, z0, z1⟩ := id hc6
            have HC6 := Lib.hid (hc6.set1 N)
            have hx6 : Upd (fun k => k = w5.heap.size) w6 (w6.setCell ⟨w5.heap.size, 1, none⟩ (.int .i64 N)) := Upd.setCell (S := fun k => k = w5.heap.size) (p := ⟨w5.heap.size, 1, none⟩) (Upd.refl _ w6) (fun _ => rfl) _
            have HOWN6 := Lib.hid ((own_off HOWN5.out hpB hu6).upd hx6 (fun k hk e => by have := HRL5.out k hk; omega))
            have HBZ6 : Hid (w5.heap.size < w6.heap.size) := Nat.lt_of_lt_of_le (by simp) hu6.size
            have HO6 := Lib.hid (ho6.upd hx6 (fun k hk e => by
              rcases hk with hk | hk
              · omega
              · have := hr6 k hk; have := HBZ5.out; omega))
            have HR6 := Lib.hid hr6
            have HS6 := Lib.hid (Same.into hs6 hx6 (fun k hk => by have := HBZ5.out; have := HWB.out; omega))
            clear ho6 hr6 hs6 hu6 HO5 HR5 HS5 HOWN5 hc6 hx6
            go_wp2_with fail
            refine (HN3.out _ _ hl (by omega) (by omega) (by have := HL16.out; omega) HO6.out HS6.out HR6.out).mono ?_
            rintro e w7 ⟨rfl, ⟨u7, ho7, hr7⟩, hs7, hu7⟩
            clear c0 c1 z0 z1
            obtain ⟨c0, c1, -, -⟩ := HC6.out.upd hu7 hpw6
            have HOWN7 := Lib.hid (own_off HOWN6.out hpB hu7)
            have HBZ7 : Hid (w1.heap.size ≤ w7.heap.size) := Nat.le_trans HBZ5.out (Nat.le_trans (Nat.le_of_lt HBZ6.out) (Nat.le_trans (by simp) hu7.size))
            have HO7 := Lib.hid ho7
            have HR7 := Lib.hid hr7
            have HS7 := Lib.hid hs7
            clear ho7 hr7 hs7 hu7 HO6 HR6 HS6 HOWN6 HBZ5 HBZ6 HC6 HRL5 HN1 HN2 HN3 hpw6
            by_cases hz : z3 = 0
            · have ez : (z3 != 0) = false := by simpa using hz
              have hbf : rgBadI bs i = false := by rw [HBI.out, hz]; rfl
              have HBF := Lib.hid hbf
              clear hz hbf
              go_wp2_with (at_builtin; refine wpl_append rfl (.tmp 64) (.tmp 66) 53 rfl Tryd.underlying53 hi0 hz1 hz2 hz3 rfl (by decide) (xs := ((List.range i).map (rgI bs)).flatMap rgC) (ys := [.int .u64 lba, .int .i64 N]) (HOWN7.out.same ((Upd.refl _ w7).alloc _)) (Rdr.box w7 [.int .u64 lba, .int .i64 N] 102 (0, 0) w7.heap.size rfl 2 rfl) (by simp; exact ⟨rfl, rfl⟩) (by have := HBZ7.out; simp; omega) i 1 HLN.out rfl (by omega) (by omega) ?_; intro v9 w9 hf9 hu9 hr9; have H9 : Hid (RS w w9 bs p w1.heap.size v9 (i + 1) ∧ ∀ j, j < i + 1 → rgBadI bs j = false) := ⟨rs_more (v8 := .slice zA0 zn0 zc0) HO7.out HR7.out hpB HBZ7.out HWB.out HS7.out H88.out (by rw [HRGI.out]) hf9 hu9, step_no HNO.out HBF.out⟩; clear hf9 hu9 hr9)
              refine ⟨?_, ?_⟩
              · exact ⟨i + 1, false, by omega, by go_num, rfl, H9⟩
              · simp [intOf]; omega
            · have ez : (z3 != 0) = true := by simpa using hz
              have hbt : rgBadI bs i = true := by rw [HBI.out]; simpa using hz
              have HEL := Lib.hid (HB2.out i (by omega) hbt)
              clear hz hbt HEND2 HB2
              go_wp2_with (at_builtin; refine wpl_append rfl (.tmp 64) (.tmp 66) 53 rfl Tryd.underlying53 hi0 hz1 hz2 hz3 rfl (by decide) (xs := ((List.range i).map (rgI bs)).flatMap rgC) (ys := [.int .u64 lba, .int .i64 N]) (HOWN7.out.same ((Upd.refl _ w7).alloc _)) (Rdr.box w7 [.int .u64 lba, .int .i64 N] 102 (0, 0) w7.heap.size rfl 2 rfl) (by simp; exact ⟨rfl, rfl⟩) (by have := HBZ7.out; simp; omega) i 1 HLN.out rfl (by omega) (by omega) ?_; intro v9 w9 hf9 hu9 hr9; have H9 : Hid (RB w w9 bs p w1.heap.size v9 (i + 1) E L true) := ⟨HEL.out, Same.into (HS7.out.alloc _) hu9 (fun k hk => Nat.le_trans HWB.out (H88.out k hk))⟩; clear hf9 hu9 hr9)
              refine ⟨?_, ?_⟩
              · exact ⟨i + 1, true, by omega, by go_num, rfl, H9⟩
              · simp [intOf]; omega
          · obtain rfl : i = m := by omega
            have gi : ¬ ((i : Int) < (i : Int)) := by omega
            obtain ⟨hE, hL⟩ := HEND2.out hno
            obtain ⟨zA0, zn0, zc0, hz0, zl, -⟩ := Own.open_ hown
            subst hz0
            have hln : zn0 = i := by rw [flat_len] at zl; simp at zl; omega
            subst hln
            have HOWN := Lib.hid (hown.mono hwB)
            have HS := Lib.hid hs
            clear ho hr hpB hBz hwB hown hs hno hin HEND2 HB2 zl
            by_cases h32 : 32 < zn0
            · rw [if_pos h32] at hE hL
              subst hE hL
              have g32 : (32 : Int) < (zn0 : Int) := by omega
              clear h32
              go_wp2_with fail
              go_ret2
              exact ⟨_, rfl, Own.nil _ _ _, HS.out⟩
            · rw [if_neg h32] at hE hL
              subst hE hL
              have g32 : ¬ ((32 : Int) < (zn0 : Int)) := by omega
              clear h32
              go_wp2_with fail
              go_ret2
              exact ⟨_, rfl, HOWN.out, HS.out⟩
end Go.Proofs.YtmaofhiapkfoaaaDoor
