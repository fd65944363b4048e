/- The walk of WindowHigh. -/
import Derived.Test.YtjfcdinobhmmeaaWinKn
import Derived.Test.YtjfcdinobhmmeaaOpenAct
import Derived.Test.YtjfcdinobhmmeaaActs
import Derived.Test.YtjfcdinobhmmeaaCount
import Derived.Deep.DeepCutAuto
import Derived.Deep.CutRange
import Derived.Deep.CutBlock
import Derived.Deep.RegionHeld3
namespace Go.Proofs.Ytjfcdinobhmmeaa
open Go.RowKit
set_option linter.unusedVariables false
set_option linter.unusedSimpArgs false
attribute [local go_sem ↓] Go.wp_at_zero Go.wp_at_succ

theorem drain_high (k : Nat) : ∀ s : WSt, highOf (WSt.drain k s).nx (WSt.drain k s).sz (WSt.drain k s).bz = highOf s.nx s.sz s.bz := by
  induction k with
  | zero => intro s; rfl
  | succ k ih =>
    intro s
    rw [WSt.drain]
    split
    · rw [ih]
      simp only [WSt.told, highOf]
      omega
    · rfl
theorem come_high (s : WSt) (n : Int) (now : Bool) (id : Int) : highOf (s.come n now id).2.nx (s.come n now id).2.sz (s.come n now id).2.bz = highOf s.nx s.sz s.bz := by
  unfold WSt.come
  split
  · split <;> rfl
  · split
    · rw [drain_high]
    · rfl
theorem come_now_same (s : WSt) (n : Int) (id : Int) : (s.come n true id).2.ls = s.ls ∧ (s.come n true id).2.bz = s.bz := by
  unfold WSt.come
  simp only [if_true]
  split <;> exact ⟨rfl, rfl⟩
theorem next_high (s : WSt) : highOf s.next.2.2.nx s.next.2.2.sz s.next.2.2.bz = highOf s.nx s.sz s.bz := by
  unfold WSt.next
  split <;> rfl
theorem done_high (s : WSt) : (highOf s.done.2.nx s.done.2.sz s.done.2.bz - highOf s.nx s.sz s.bz) % 4294967296 ≤ 1 := by
  unfold WSt.done
  split
  · simp
  · simp only [highOf]
    omega
/-- What a step leaves. -/
def HighMid (w0 : World) (p B : Nat) (s : WSt) (ok on : Int) (onow : Bool) (oid : Int) (wx : World) : Prop :=
  ∃ F s2, WinO w0.heap.size F wx p s2 ∧ ¬ F B ∧ s2.Ok ∧ s2.sz = s.sz ∧ s2.ls.length + s2.ts.length ≤ s.ls.length + s.ts.length + 1 ∧ (highOf s2.nx s2.sz s2.bz - highOf s.nx s.sz s.bz) % 4294967296 ≤ 1 ∧
    (onow = true → ok < 4 → 0 ≤ ok → highOf s2.nx s2.sz s2.bz = highOf s.nx s.sz s.bz ∧ s2.ls.length = s.ls.length ∧ s2.bz = s.bz) ∧ Act4 wx B ok on onow oid ∧ Same w0 wx
theorem HighMid.mk {w0 W wx : World} {p B : Nat} {s s2 : WSt} {ok on : Int} {onow : Bool} {oid : Int} {F : Nat → Prop} (h : WinO w0.heap.size F W p s) (hg : WGrew w0.heap.size F W p wx s2) (hB : ¬ F B) (hBl : B < W.heap.size) (ha : Act4 W B ok on onow oid) (hs : Same w0 W)
    (h1 : s2.Ok) (h2 : s2.sz = s.sz) (h3 : s2.ls.length + s2.ts.length ≤ s.ls.length + s.ts.length + 1) (h4 : (highOf s2.nx s2.sz s2.bz - highOf s.nx s.sz s.bz) % 4294967296 ≤ 1)
    (h5 : onow = true → ok < 4 → 0 ≤ ok → highOf s2.nx s2.sz s2.bz = highOf s.nx s.sz s.bz ∧ s2.ls.length = s.ls.length ∧ s2.bz = s.bz) : HighMid w0 p B s ok on onow oid wx := by
  obtain ⟨F', g1, g2⟩ := hg
  obtain ⟨V, a1, a2, a3⟩ := h
  refine ⟨F', s2, g1, fun e => ?_, h1, h2, h3, h4, h5, ha.upd g2.1 hB, g2.keeps hs a3⟩
  rcases g2.2 B e with e | e
  · exact hB e
  · omega
set_option maxRecDepth 100000 in
set_option maxHeartbeats 20000000 in
theorem windowHigh_walk (w : World) (first : Int) (hf : (Lit.int .u32 first).wf = true) (size : Int) (hsz : (Lit.int .i64 size).wf = true) (l : Value) (os : List ActD) (ho : ActDAt w l os) :
    Calls Try.prog 4 #[.int .u32 first, .int .i64 size, l] w fun e w' => e = .returned (.bool true) ∧ Same w w' := by
  replace hf := bounds_u32 hf
  replace hsz := bounds_i64 hsz
  obtain ⟨A, cap, rfl, q1, q2, q3⟩ := id ho
  have HOS := Lib.hid ho
  obtain ⟨N, hN⟩ : ∃ N, N = os.length := ⟨_, rfl⟩
  rw [← hN] at q1
  have HN := Lib.hid hN
  clear q3 ho
  rw [show os.length = N from hN.symm]
  clear hN
  have hm := Int.emod_nonneg size (show (64 : Int) ≠ 0 by decide)
  have hm2 := Int.emod_lt_of_pos size (show (0 : Int) < 64 by decide)
  have hcnt := fun w => count_any size 64 w (by decide) (by decide) hsz.1 hsz.2
  generalize size % 64 = sc at hm hm2 hcnt
  have HCNT := Lib.hid hcnt
  clear hcnt
  go_enter Try.func4, Try.ntmps4
  go_wp2_with fail
  refine (HCNT.out _).mono ?_
  rintro r w0 ⟨rfl, rfl⟩
  go_wp2_with fail
  refine (new_good first (1 + sc) w (by omega) (by omega)).mono ?_
  rintro r w1 ⟨rfl, hc, hs1⟩
  obtain ⟨hO, hok⟩ := new_o first (1 + sc) w (by omega) (by omega) (by omega) (by omega) hc w.heap.size (Nat.le_refl _)
  have HO := Lib.hid (And.intro hO (And.intro hok hs1))
  clear hO hok hs1 hc
  go_wp2_with fail
  go_loopw [9] (fun v9 wr => ∃ k : Nat, k ≤ N ∧ k ≤ 300 ∧ v9 = .int .i64 k ∧ ∃ F s, WinO w.heap.size F wr w.heap.size s ∧ s.Ok ∧ Same w wr ∧ s.sz = 1 + sc ∧ s.ls.length + s.ts.length ≤ k) (fun v9 _ => N - (intOf v9).toNat)
  case atStart => exact ⟨0, by omega, by omega, rfl, _, _, HO.out.1, HO.out.2.1, HO.out.2.2, rfl, by simp⟩
  case round =>
    obtain ⟨k, hk, hk3, rfl, F, s, hO, hok, hs, hssz, htot⟩ := hrel
    by_cases hlt : k < N ∧ k < 300
    · obtain ⟨hlt1, hlt2⟩ := hlt
      have g1 : (k : Int) < (N : Int) := by omega
      have g2 : (k : Int) < 300 := by omega
      have hko : k < os.length := by have := HN.out; omega
      obtain ⟨A', cap', e0, _, _, hcells⟩ := HOS.out.same hs
      injection e0 with e1 e2 e3
      subst e1
      obtain ⟨ob, off, rfl, o0, o1, o2, o3, ob4, ob5, ob6⟩ := hcells k hko
      generalize os[k] = o at o0 o1 o2 o3 ob4 ob5 ob6
      obtain ⟨ok, on, onow, oid⟩ := o
      simp only at o0 o1 o2 o3 ob4 ob5 ob6
      have hF : Foot w.heap.size F wr := by obtain ⟨V, a1, a2, a3⟩ := hO; exact a3
      have hO5 := hO.same ((Upd.refl (fun _ => False) wr).alloc (.cells #[.int .i64 ok, .int .u32 on, .bool onow, .int .i64 oid] 33))
      have hA5 := Act4.new wr ok on onow oid 33 _ rfl
      have hs5 := hs.alloc (.cells #[.int .i64 ok, .int .u32 on, .bool onow, .int .i64 oid] 33)
      have hB5 : ¬ F wr.heap.size := fun e => by have := (hF _ e).2; omega
      have hBl : wr.heap.size < (wr.alloc (.cells #[.int .i64 ok, .int .u32 on, .bool onow, .int .i64 oid] 33)).heap.size := by simp
      have hz5 := hs.size
      have H5 := Lib.hid (And.intro hO5 (And.intro hA5 (And.intro hs5 (And.intro hB5 hBl))))
      have HOK := Lib.hid hok
      have HT := Lib.hid htot
      have HSS := Lib.hid hssz
      clear hcells hO hF hO5 hA5 hs5 hB5 hBl e2 e3 hs hok htot hssz
      go_wp2_with fail
      generalize wr.alloc (.cells #[.int .i64 ok, .int .u32 on, .bool onow, .int .i64 oid] 33) = W5 at H5 ⊢
      refine (highest_o H5.out.1 HOK.out).mono ?_
      rintro r w6 ⟨rfl, hs6⟩
      have H6 := Lib.hid (And.intro (H5.out.1.same hs6) (And.intro (H5.out.2.1.upd hs6 fun h => h) (And.intro (Same.trans H5.out.2.2.1 hs6) (And.intro H5.out.2.2.2.1 (Nat.lt_of_lt_of_le H5.out.2.2.2.2 hs6.size)))))
      clear hs6 H5
      go_wp2_with fail
      refine (held_o H6.out.1).mono ?_
      rintro r w7 ⟨rfl, rfl⟩
      go_wp2_with fail
      refine (busy_o H6.out.1).mono ?_
      rintro r w7 ⟨rfl, rfl⟩
      obtain ⟨o0, o1, o2, o3⟩ := H6.out.2.1
      generalize wr.heap.size = B at H6 o0 o1 o2 o3 ⊢
      obtain ⟨H0, hH0⟩ : ∃ H0, H0 = highOf s.nx s.sz s.bz := ⟨_, rfl⟩
      rw [← hH0]
      have HH0 := Lib.hid hH0
      have hb6 : w.heap.size ≤ w6.heap.size := H6.out.2.2.1.size
      have hll := HOK.out.len64
      obtain ⟨⟨n1, n2⟩, ⟨n3, n4⟩, ⟨n5, n6⟩, -⟩ := HOK.out
      clear hH0
      go_upto_block 2 with (fail)
      go_cut [11, 12, 13] from 29 to 139 (fun v11 v12 v13 wx => v11 = .int .u32 H0 ∧ v12 = .int .i64 s.ls.length ∧ v13 = .int .i64 s.bz ∧ HighMid w w.heap.size B s ok on onow oid wx)
      case first =>
        have hcases : (ok = 0 ∨ ok = 1 ∨ ok = 2 ∨ ok = 3) ∨ (ok = 4 ∨ ok = 5) ∨ ok = 6 ∨ ((ok == 0) = false ∧ (ok == 1) = false ∧ (ok == 2) = false ∧ (ok == 3) = false ∧ (ok == 4) = false ∧ (ok == 5) = false ∧ (ok == 6) = false ∧ (ok < 0 ∨ 4 ≤ ok)) := by simp; omega
        rcases hcases with hk1 | hk1 | hk1 | hk1
        · rcases hk1 with rfl | rfl | rfl | rfl
          all_goals
            go_wp2_with fail
            go_region_held3 (fun w' => w'.cell? ⟨B, 1, none⟩ = some (.int .u32 on) ∧ w'.cell? ⟨B, 2, none⟩ = some (.bool onow) ∧ w'.cell? ⟨B, 3, none⟩ = some (.int .i64 oid)) (first | assumption | exact ⟨(Upd.refl (fun _ => False) _).drew.cell o1 (fun h => h), (Upd.refl (fun _ => False) _).drew.cell o2 (fun h => h), (Upd.refl (fun _ => False) _).drew.cell o3 (fun h => h)⟩ | exact ⟨x1, x2, x3⟩) (first
              | (go_at_call 15; refine (expected_o (H6.out.1.same (Upd.refl _ _).drew)).mono ?_; rintro r w7 ⟨rfl, rfl⟩)
              | (go_at_call 9; refine (come_o (H6.out.1.same (Upd.refl _ _).drew) hb6 HOK.out ((s.nx + on) % 4294967296) (by omega) (by omega) (by have := HT.out; omega) onow oid).mono ?_; rintro r w8 ⟨rfl, hg⟩; obtain ⟨x0, x1, x2, x3⟩ := (H6.out.2.1.upd (Upd.refl (fun _ => False) _).drew (fun h => h)).upd (hg.choose_spec.2.1) H6.out.2.2.2.1; have HG := Lib.hid hg; clear hg))
            all_goals
              go_wp2_with fail
              go_meet
              refine ⟨rfl, rfl, rfl, HighMid.mk (H6.out.1.same (Upd.refl _ _).drew) HG.out H6.out.2.2.2.1 H6.out.2.2.2.2 (H6.out.2.1.upd (Upd.refl (fun _ => False) _).drew (fun h => h)) (Same.trans H6.out.2.2.1 (Upd.refl _ _).drew) (HOK.out.come (by omega) (by omega)) (come_sz _ _ _ _) (come_tot _ _ _ _) (by rw [come_high]; simp) ?_⟩
              rintro rfl _ _
              exact ⟨come_high _ _ _ _, by rw [(come_now_same _ _ _).1], (come_now_same _ _ _).2⟩
        · rcases hk1 with rfl | rfl
          all_goals
            go_wp2_with fail
            refine (next_o H6.out.1 hb6 (by have := HT.out; omega)).mono ?_
            rintro r w8 ⟨rfl, hg⟩
            have HG := Lib.hid hg
            clear hg
            go_wp2_with fail
            go_meet
            exact ⟨rfl, rfl, rfl, HighMid.mk H6.out.1 HG.out H6.out.2.2.2.1 H6.out.2.2.2.2 H6.out.2.1 H6.out.2.2.1 HOK.out.next (next_sz _) (by have := next_tot s; omega) (by rw [next_high]; simp) (fun _ h _ => by omega)⟩
        · subst hk1
          go_wp2_with fail
          refine (done_o H6.out.1 HOK.out).mono ?_
          rintro r w8 ⟨rfl, hg⟩
          have HG := Lib.hid hg
          clear hg
          go_wp2_with fail
          go_meet
          exact ⟨rfl, rfl, rfl, HighMid.mk H6.out.1 HG.out H6.out.2.2.2.1 H6.out.2.2.2.2 H6.out.2.1 H6.out.2.2.1 HOK.out.done (done_sz _) (by have := done_tot s; omega) (done_high s) (fun _ h _ => by omega)⟩
        · obtain ⟨k0, k1, k2, k3, k4, k5, k6, k7⟩ := hk1
          go_wp2_with fail
          refine (come_o H6.out.1 hb6 HOK.out on ob5.1 ob5.2 (by have := HT.out; omega) onow oid).mono ?_
          rintro r w8 ⟨rfl, hg⟩
          have HG := Lib.hid hg
          clear hg
          go_wp2_with fail
          go_meet
          exact ⟨rfl, rfl, rfl, HighMid.mk H6.out.1 HG.out H6.out.2.2.2.1 H6.out.2.2.2.2 H6.out.2.1 H6.out.2.2.1 (HOK.out.come ob5.1 ob5.2) (come_sz _ _ _ _) (come_tot _ _ _ _) (by rw [come_high]; simp) (fun _ h1 h2 => by omega)⟩
      case rest =>
        obtain ⟨rfl, rfl, rfl, F2, s2, hO2, hB2, hok2, hsz2, htot2, hhi2, hnow2, hA2, hs2⟩ := hcut
        have h9 := HSS.out
        have hlen2 := hok2.len
        obtain ⟨⟨m1, m2⟩, ⟨m3, m4⟩, ⟨m5, m6⟩, -⟩ := id hok2
        have hHI := highest_o hO2 hok2
        obtain ⟨H2, hH2⟩ : ∃ H2, H2 = highOf s2.nx s2.sz s2.bz := ⟨_, rfl⟩
        rw [← hH2] at hHI hhi2 hnow2
        rw [← HH0.out] at hhi2 hnow2
        have r0 : 0 ≤ H0 ∧ H0 ≤ 4294967295 := by rw [HH0.out]; unfold highOf; omega
        have r2 : 0 ≤ H2 ∧ H2 ≤ 4294967295 := by rw [hH2]; unfold highOf; omega
        obtain ⟨a0, a1, a2, a3⟩ := hA2
        have HHI := Lib.hid hHI
        have HO2 := Lib.hid hO2
        have HNOW := Lib.hid hnow2
        have HE2 := Lib.hid (And.intro hok2 (And.intro hsz2 (And.intro htot2 hs2)))
        have HA := Lib.hid (And.intro a0 (And.intro a1 (And.intro a2 a3)))
        have hl2 : (s2.ls.length : Int) + s2.bz ≤ 1 + sc := by omega
        have HH2 := Lib.hid hH2
        clear hHI hO2 hnow2 hok2 hsz2 htot2 hs2 hH2 hlen2 h9
        have hll2 : (s2.ls.length : Int) ≤ 64 := by omega
        have hbz2 : s2.bz ≤ 64 := by omega
        go_wp2_with fail
        refine HHI.out.mono ?_
        rintro r w7 ⟨rfl, hs7⟩
        have b0 := hs7.cell a0 (fun h => h)
        have b2 := hs7.cell a2 (fun h => h)
        have HO7 := Lib.hid (HO2.out.same hs7)
        have HS7 := Lib.hid (Same.trans HE2.out.2.2.2 hs7)
        clear a0 a1 a2 a3 HO2 HHI hs7 o0 o1 o2 o3
        have hc : (onow = true ∧ 0 ≤ ok ∧ ok < 4) ∨ onow = false ∨ (onow = true ∧ (ok < 0 ∨ 4 ≤ ok)) := by cases onow <;> simp <;> omega
        have hend : Hid (∀ wz, Same w7 wz → ∃ k_1, k_1 ≤ N ∧ k_1 ≤ 300 ∧ Value.int .i64 ((k : Int) + 1) = .int .i64 (k_1 : Nat) ∧ ∃ F s, WinO w.heap.size F wz w.heap.size s ∧ s.Ok ∧ Same w wz ∧ s.sz = 1 + sc ∧ s.ls.length + s.ts.length ≤ k_1) := Lib.hid fun wz hz =>
          ⟨k + 1, by omega, by omega, by go_num, F2, s2, HO7.out.same hz, HE2.out.1, Same.trans HS7.out hz, by rw [HE2.out.2.1, HSS.out], by have := HE2.out.2.2.1; have := HT.out; omega⟩
        rcases hc with ⟨rfl, e0, e1⟩ | rfl | ⟨rfl, e0⟩
        · obtain ⟨z1, z2, z3⟩ := HNOW.out rfl e1 e0
          subst z1
          have y2 : ((s2.ls.length : Int) != (s.ls.length : Int)) = false := by rw [z2]; simp
          have y3 : (s2.bz != s.bz) = false := by rw [z3]; simp
          clear z2 z3
          go_wp2_with (first
            | (go_at_call 18; refine (held_o HO7.out).mono ?_; rintro r wz ⟨rfl, rfl⟩)
            | (go_at_call 19; refine (busy_o HO7.out).mono ?_; rintro r wz ⟨rfl, rfl⟩)
            | (go_at_call 16; have hh := highest_o HO7.out HE2.out.1; rw [← HH2.out] at hh; refine hh.mono ?_; clear hh; rintro r w8 ⟨rfl, hs8⟩; have HS8 := Lib.hid hs8; have HO8 := Lib.hid (HO7.out.same hs8); clear hs8)
            | (go_at_call 18; refine (held_o HO8.out).mono ?_; rintro r wz ⟨rfl, rfl⟩)
            | (go_at_call 19; refine (busy_o HO8.out).mono ?_; rintro r wz ⟨rfl, rfl⟩))
          go_roundw
          case rel => exact hend.out _ HS8.out
          case measure => simp [intOf]; omega
        · go_wp2_with (first
            | (go_at_call 18; refine (held_o HO7.out).mono ?_; rintro r wz ⟨rfl, rfl⟩)
            | (go_at_call 19; refine (busy_o HO7.out).mono ?_; rintro r wz ⟨rfl, rfl⟩))
          go_roundw
          case rel => exact hend.out _ (Upd.refl _ _)
          case measure => simp [intOf]; omega
        · rcases e0 with e0 | e0
          all_goals
            go_wp2_with (first
              | (go_at_call 18; refine (held_o HO7.out).mono ?_; rintro r wz ⟨rfl, rfl⟩)
              | (go_at_call 19; refine (busy_o HO7.out).mono ?_; rintro r wz ⟨rfl, rfl⟩))
            go_roundw
            case rel => exact hend.out _ (Upd.refl _ _)
            case measure => simp [intOf]; omega
    · have HE := Lib.hid (And.intro hO (And.intro hok hs))
      have HKN := Lib.hid (known_any wr)
      clear hO hok hs
      have h1 : (k < N ∧ k = 300) ∨ k = N := by omega
      rcases h1 with ⟨h1, rfl⟩ | rfl
      · have g1 : (300 : Int) < (N : Int) := by omega
        go_wp2_with fail
        refine HKN.out.mono ?_
        rintro r wz ⟨rfl, hz⟩
        have HZ := Lib.hid hz
        clear hz
        go_wp2_with fail
        go_ret
        exact ⟨rfl, Same.trans HE.out.2.2 HZ.out⟩
      · go_wp2_with fail
        refine HKN.out.mono ?_
        rintro r wz ⟨rfl, hz⟩
        have HZ := Lib.hid hz
        clear hz
        go_wp2_with fail
        go_ret
        exact ⟨rfl, Same.trans HE.out.2.2 HZ.out⟩
end Go.Proofs.Ytjfcdinobhmmeaa
