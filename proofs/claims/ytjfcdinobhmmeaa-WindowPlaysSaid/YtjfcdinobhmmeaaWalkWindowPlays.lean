/- The walk of WindowPlays. -/
import Derived.Test.YtjfcdinobhmmeaaWinKn
import Derived.Test.YtjfcdinobhmmeaaOpenAct
import Derived.Test.YtjfcdinobhmmeaaActs
import Derived.Deep.RegionHeld3
import Derived.Deep.QuietTactic
import Derived.BigQuiet
import Derived.Deep.DeepCutAuto
import Derived.Deep.CutRange
import Derived.Deep.CutBlock
import Derived.Test.YtjfcdinobhmmeaaOrd
namespace Go.Proofs.Ytjfcdinobhmmeaa
open Go.RowKit
set_option linter.unusedVariables false
set_option linter.unusedSimpArgs false
attribute [local go_sem ↓] Go.wp_at_zero Go.wp_at_succ

/-- Both windows, alike, apart. -/
def WPair (w0 W : World) (p q : Nat) (s : WSt) : Prop := ∃ F G, WinO w0.heap.size F W p s ∧ RWinO w0.heap.size G W q s ∧ (∀ k, F k → ¬ G k) ∧ s.Ok ∧ Same w0 W
theorem WinO.foot {base : Nat} {F : Nat → Prop} {W : World} {p : Nat} {s : WSt} (h : WinO base F W p s) : Foot base F W := by obtain ⟨V, a1, a2, a3⟩ := h; exact a3
theorem RWinO.foot {base : Nat} {F : Nat → Prop} {W : World} {p : Nat} {s : WSt} (h : RWinO base F W p s) : Foot base F W := by obtain ⟨v, u, a1, a2, a3⟩ := h; exact a3
theorem WPair.same {w0 W W' : World} {p q : Nat} {s : WSt} (h : WPair w0 W p q s) (hs : Same W W') : WPair w0 W' p q s := by
  obtain ⟨F, G, h1, h2, h3, h4, h5⟩ := h
  exact ⟨F, G, h1.same hs, h2.same hs, h3, h4, Same.trans h5 hs⟩
/-- Both have done alike. -/
theorem WPair.both {w0 W W1 W2 : World} {p q : Nat} {s s' : WSt} {F G : Nat → Prop} (h1 : WinO w0.heap.size F W p s) (h2 : RWinO w0.heap.size G W q s) (h3 : ∀ k, F k → ¬ G k) (h5 : Same w0 W) (hok : s'.Ok)
    (g1 : WGrew w0.heap.size F W p W1 s') (g2 : RGrew w0.heap.size G W1 q W2 s') : WPair w0 W2 p q s' := by
  obtain ⟨F', a1, a2⟩ := g1
  obtain ⟨G', b1, b2⟩ := g2
  have hd1 := a2.apart h2.foot h3
  have hF1 : Foot w0.heap.size F' W1 := a1.foot
  have hG1 : Foot w0.heap.size G W1 := h2.foot.mono a2.1.size
  have hd2 : ∀ k, G' k → ¬ F' k := b2.apart hF1 fun k hk hf => hd1 k hf hk
  exact ⟨F', G', a1.upd b2.1 (fun k hk hg => hd1 k hk hg), b1, fun k hk hg => hd2 k hg hk, hok, b2.keeps (a2.keeps h5 h1.foot) hG1⟩
theorem highest_q {base : Nat} {F : Nat → Prop} {W : World} {p : Nat} {s : WSt} (h : WinO base F W p s) (hok : s.Ok) : Calls Try.prog 16 #[.pointer (some ⟨p, 0, none⟩)] W fun r w' => r = .returned (.int .u32 (highOf s.nx s.sz s.bz)) ∧ ∃ n, w' = W.drewN n := by
  obtain ⟨V, hV, hF, hFt⟩ := h
  obtain ⟨⟨b1, b2⟩, ⟨b3, b4⟩, ⟨b5, b6⟩, -⟩ := hok
  obtain ⟨⟨c0, c1, c2, c3, c4, c5, c6⟩, hf⟩ := hV.2.1
  clear hf hV hF hFt
  go_enter Try.func16, Try.ntmps16
  go_wp2
  go_quiet (fail)
  go_wp2
  go_ret
  refine ⟨ret_int ?_, _, rfl⟩
  unfold highOf
  omega
theorem rhigh_q {base : Nat} {F : Nat → Prop} {W : World} {q : Nat} {s : WSt} (h : RWinO base F W q s) (hok : s.Ok) : Calls Try.prog 17 #[.pointer (some ⟨q, 0, none⟩)] W fun r w' => r = .returned (.int .u32 (highOf s.nx s.sz s.bz)) ∧ ∃ n, w' = W.drewN n := by
  obtain ⟨ul, ut, hV, hF, hFt⟩ := h
  obtain ⟨⟨b1, b2⟩, ⟨b3, b4⟩, ⟨b5, b6⟩, -⟩ := hok
  obtain ⟨⟨c0, c1, c2, c3, c4⟩, hf⟩ := hV.2.1
  clear hf hV hF hFt
  go_enter Try.func17, Try.ntmps17
  go_wp2
  go_quiet (fail)
  go_wp2
  go_ret
  refine ⟨ret_int ?_, _, rfl⟩
  unfold highOf
  omega
theorem RWinO.cell0 {base : Nat} {F : Nat → Prop} {W : World} {q : Nat} {s : WSt} (h : RWinO base F W q s) : W.cell? ⟨q, 0, none⟩ = some (.int .u32 s.nx) := by obtain ⟨v, u, a1, a2, a3⟩ := h; exact a1.2.1.1.1
-- WALK
set_option maxRecDepth 100000 in
set_option maxHeartbeats 20000000 in
theorem windowPlays_walk (w : World) (first : Int) (hf : (Lit.int .u32 first).wf = true) (size : Int) (hsz : (Lit.int .i64 size).wf = true) (l : Value) (os : List ActD) (ho : ActDAt w l os) :
    Calls Try.prog 3 #[.int .u32 first, .int .i64 size, l] w fun e w' => e = .returned (.bool true) ∧ Same w w' := by
  replace hf := bounds_u32 hf
  replace hsz := bounds_i64 hsz
  by_cases hbad : size < 1 ∨ 64 < size
  · obtain ⟨A, cap, rfl, q1, q2, q3⟩ := id ho
    have HB1 := Lib.hid (fun w => new_bad first size w hbad)
    have HB2 := Lib.hid (fun w => rnew_bad first size w hbad)
    clear q3 ho
    go_enter Try.func3, Try.ntmps3
    go_wp2_with fail
    refine (HB1.out _).mono ?_
    rintro r w0 ⟨rfl, rfl⟩
    go_wp2_with fail
    refine (HB2.out _).mono ?_
    rintro r w0 ⟨rfl, rfl⟩
    go_wp2_with fail
    refine (known_any _).mono ?_
    rintro r wz ⟨rfl, hz⟩
    have HZ := Lib.hid hz
    clear hz
    go_wp2_with fail
    go_ret
    exact ⟨rfl, HZ.out⟩
  have hs1 : 1 ≤ size := by omega
  have hs64 : size ≤ 64 := by omega
  clear hbad
  obtain ⟨A, cap, rfl, q1, q2, q3⟩ := id ho
  have HOS := Lib.hid ho
  obtain ⟨N, hN⟩ : ∃ N, N = os.length := ⟨_, rfl⟩
  rw [← hN] at q1
  have HN := Lib.hid hN
  clear q3 ho
  rw [show os.length = N from hN.symm]
  clear hN
  go_enter Try.func3, Try.ntmps3
  go_wp2_with fail
  refine (new_good first size w hs1 hs64).mono ?_
  rintro r w1 ⟨rfl, hc, hsa⟩
  obtain ⟨hO, hok⟩ := new_o first size w (by omega) (by omega) (by omega) (by omega) hc w.heap.size (Nat.le_refl _)
  have HO := Lib.hid (And.intro hO (And.intro hok hsa))
  clear hO hok hsa hc
  go_wp2_with fail
  refine (rnew_good first size w1 hs1 hs64).mono ?_
  rintro r w2 ⟨rfl, hc, hsa⟩
  have hR := rnew_o first size w1 hc w.heap.size HO.out.2.2.size
  have hP : WPair w w2 w.heap.size w1.heap.size ⟨first, size, 0, [], []⟩ := ⟨_, _, HO.out.1.same hsa, hR, fun k h1 h2 => by have := (HO.out.1.foot _ h1).2; omega, HO.out.2.1, Same.trans HO.out.2.2 hsa⟩
  have HP := Lib.hid hP
  generalize w1.heap.size = q at HP ⊢
  clear hP hR hsa hc HO
  go_wp2_with fail
  go_loopw [11] (fun v11 wr => ∃ k : Nat, k ≤ N ∧ k ≤ 300 ∧ v11 = .int .i64 k ∧ ∃ s, WPair w wr w.heap.size q s ∧ s.ls.length + s.ts.length ≤ k) (fun v11 _ => N - (intOf v11).toNat)
  case atStart => exact ⟨0, by omega, by omega, rfl, _, HP.out, by simp⟩
  case round =>
    obtain ⟨k, hk, hk3, rfl, s, hPr, htot⟩ := hrel
    by_cases hlt : k < N ∧ k < 300
    · obtain ⟨hlt1, hlt2⟩ := hlt
      have g1 : (k : Int) < (N : Int) := by omega
      have g2 : (k : Int) < 300 := by omega
      have hko : k < os.length := by have := HN.out; omega
      obtain ⟨F, G, hO, hR, hd, hok, hs⟩ := hPr
      obtain ⟨A', cap', e0, _, _, hcells⟩ := HOS.out.same hs
      injection e0 with e1 e2 e3
      subst e1
      obtain ⟨ob, off, rfl, o0, o1, o2, o3, ob4, ob5, ob6⟩ := hcells k hko
      generalize os[k] = o at o0 o1 o2 o3 ob4 ob5 ob6
      obtain ⟨ok, on, onow, oid⟩ := o
      simp only at o0 o1 o2 o3 ob4 ob5 ob6
      have hA5 := Act4.new wr ok on onow oid 33 _ rfl
      have ha := (Upd.refl (fun _ => False) wr).alloc (.cells #[.int .i64 ok, .int .u32 on, .bool onow, .int .i64 oid] 33)
      have hO5 := hO.same ha
      have hR5 := hR.same ha
      have hB5 : ¬ F wr.heap.size := fun e => by have := (hO.foot _ e).2; omega
      have hB6 : ¬ G wr.heap.size := fun e => by have := (hR.foot _ e).2; omega
      have hz5 : w.heap.size ≤ wr.heap.size := hs.size
      have H5 := Lib.hid (And.intro hO5 (And.intro hR5 (And.intro hd (And.intro (Same.trans hs ha) (And.intro hB5 hB6)))))
      have HA := Lib.hid hA5
      have HOK := Lib.hid hok
      have HT := Lib.hid htot
      clear hcells hO hR hd hA5 ha hO5 hR5 hB5 hB6 e2 e3 hs hok htot
      go_upto_block 2 with (fail)
      generalize wr.alloc (.cells #[.int .i64 ok, .int .u32 on, .bool onow, .int .i64 oid] 33) = W5 at H5 HA ⊢
      generalize wr.heap.size = B at H5 HA hz5 ⊢
      obtain ⟨o0, o1, o2, o3⟩ := HA.out
      have hz6 := H5.out.2.2.2.1.size
      obtain ⟨⟨n1, n2⟩, ⟨n3, n4⟩, ⟨n5, n6⟩, -⟩ := HOK.out
      have m0 := (H5.out.2.1).cell0
      have g5 : IntKind.u32.wrap (s.nx + on) = (s.nx + on) % 4294967296 := by rw [IntKind.wrap_u32']
      go_cut [11] from 42 to 169 (fun v11 wx => v11 = .int .i64 k ∧ ∃ s2, WPair w wx w.heap.size q s2 ∧ s2.ls.length + s2.ts.length ≤ k + 1)
      case first =>
        have hcases : (ok = 0 ∨ ok = 1 ∨ ok = 2 ∨ ok = 3) ∨ (ok = 4 ∨ ok = 5) ∨ ok = 6 ∨ ok = 7 ∨ ((ok == 0) = false ∧ (ok == 1) = false ∧ (ok == 2) = false ∧ (ok == 3) = false ∧ (ok == 4) = false ∧ (ok == 5) = false ∧ (ok == 6) = false ∧ (ok == 7) = false) := by simp; omega
        rcases hcases with hk1 | hk1 | hk1 | hk1 | hk1
        · go_upto_if 58 with (fail)
          go_cut [58] from 59 to 62 (fun v58 wx => v58 = .bool true ∧ wx = W5)
          case first =>
            rcases hk1 with rfl | rfl | rfl | rfl
            all_goals
              go_wp2_with fail
              go_meet
              exact ⟨rfl, rfl⟩
          case rest =>
            obtain ⟨rfl, rfl⟩ := hcut
            go_wp2_with fail
            refine wp_region_noPanic ?_
            refine wp_region_need (fun w' => w'.cell? ⟨q, 0, none⟩ = some (.int .u32 s.nx) ∧ w'.cell? ⟨B, 1, none⟩ = some (.int .u32 on) ∧ w'.cell? ⟨B, 2, none⟩ = some (.bool onow) ∧ w'.cell? ⟨B, 3, none⟩ = some (.int .i64 oid)) (fun j => decide (j < 25)) (by kernel_rfl) (fun hcl => ?_)
            have hS0 : (fun w' : World => w'.cell? ⟨q, 0, none⟩ = some (.int .u32 s.nx) ∧ w'.cell? ⟨B, 1, none⟩ = some (.int .u32 on) ∧ w'.cell? ⟨B, 2, none⟩ = some (.bool onow) ∧ w'.cell? ⟨B, 3, none⟩ = some (.int .i64 oid)) wc.drew := ⟨(Upd.refl (fun _ => False) _).drew.cell m0 (fun h => h), (Upd.refl (fun _ => False) _).drew.cell o1 (fun h => h), (Upd.refl (fun _ => False) _).drew.cell o2 (fun h => h), (Upd.refl (fun _ => False) _).drew.cell o3 (fun h => h)⟩
            refine wpAnyN_take (i := 0) (v := ?_) rfl (by kernel_rfl) (by kernel_rfl) (by kernel_rfl) (by kernel_rfl) (fun _ _ _ h => h) (by assumption) hS0 (Or.inl ⟨by rfl, ?_⟩) (fun hcl0 => ?_)
            rotate_left
            · (intro wS hSw; (try dsimp only at hSw); go_simp; (try with_reducible rfl))
            clear hcl
            try simp only [Act.put, List.setIfInBounds_toArray, List.set_cons_zero, List.set_cons_succ]
            refine wpAnyN_take (i := 1) (v := ?_) rfl (by kernel_rfl) (by kernel_rfl) (by kernel_rfl) (by kernel_rfl) (fun _ _ _ h => h) (by assumption) hS0 (Or.inl ⟨by rfl, ?_⟩) (fun hcl1 => ?_)
            rotate_left
            · (intro wS hSw; (try dsimp only at hSw); go_simp; (try with_reducible rfl))
            clear hcl0
            try simp only [Act.put, List.setIfInBounds_toArray, List.set_cons_zero, List.set_cons_succ]
            refine wpAnyN_take (i := 2) (v := ?_) rfl (by kernel_rfl) (by kernel_rfl) (by kernel_rfl) (by kernel_rfl) (fun _ _ _ h => h) (by assumption) hS0 (Or.inl ⟨by rfl, ?_⟩) (fun hcl2 => ?_)
            rotate_left
            · (intro wS hSw; (try dsimp only at hSw); go_simp; (try with_reducible rfl))
            clear hcl1
            try simp only [Act.put, List.setIfInBounds_toArray, List.set_cons_zero, List.set_cons_succ]
            refine wpAnyN_take (i := 3) (v := ?_) rfl (by kernel_rfl) (by kernel_rfl) (by kernel_rfl) (by kernel_rfl) (fun _ _ _ h => h) (by assumption) hS0 (Or.inl ⟨by rfl, ?_⟩) (fun hcl3 => ?_)
            rotate_left
            · (intro wS hSw; (try dsimp only at hSw); go_simp; (try with_reducible rfl))
            clear hcl2
            try simp only [Act.put, List.setIfInBounds_toArray, List.set_cons_zero, List.set_cons_succ]
            refine wpAnyN_take (i := 4) (v := ?_) rfl (by kernel_rfl) (by kernel_rfl) (by kernel_rfl) (by kernel_rfl) (fun _ _ _ h => h) (by assumption) hS0 (Or.inl ⟨by rfl, ?_⟩) (fun hcl4 => ?_)
            rotate_left
            · (intro wS hSw; (try dsimp only at hSw); go_simp; (try with_reducible rfl))
            clear hcl3
            try simp only [Act.put, List.setIfInBounds_toArray, List.set_cons_zero, List.set_cons_succ]
            refine wpAnyN_take (i := 5) (v := ?_) rfl (by kernel_rfl) (by kernel_rfl) (by kernel_rfl) (by kernel_rfl) (fun _ _ _ h => h) (by assumption) hS0 (Or.inl ⟨by rfl, ?_⟩) (fun hcl5 => ?_)
            rotate_left
            · (intro wS hSw; (try dsimp only at hSw); go_simp; (try with_reducible rfl))
            clear hcl4
            try simp only [Act.put, List.setIfInBounds_toArray, List.set_cons_zero, List.set_cons_succ]
            refine wpAnyN_take (i := 6) (v := ?_) rfl (by kernel_rfl) (by kernel_rfl) (by kernel_rfl) (by kernel_rfl) (fun _ _ _ h => h) (by assumption) hS0 (Or.inl ⟨by rfl, ?_⟩) (fun hcl6 => ?_)
            rotate_left
            · (intro wS hSw; (try dsimp only at hSw); go_simp; (try with_reducible rfl))
            clear hcl5
            try simp only [Act.put, List.setIfInBounds_toArray, List.set_cons_zero, List.set_cons_succ]
            refine wpAnyN_take (i := 7) (v := ?_) rfl (by kernel_rfl) (by kernel_rfl) (by kernel_rfl) (by kernel_rfl) (fun _ _ _ h => h) (by assumption) hS0 (Or.inl ⟨by rfl, ?_⟩) (fun hcl7 => ?_)
            rotate_left
            · (intro wS hSw; (try dsimp only at hSw); go_simp; (try with_reducible rfl))
            clear hcl6
            try simp only [Act.put, List.setIfInBounds_toArray, List.set_cons_zero, List.set_cons_succ]
            refine wpAnyN_take (i := 8) (v := ?_) rfl (by kernel_rfl) (by kernel_rfl) (by kernel_rfl) (by kernel_rfl) (fun _ _ _ h => h) (by assumption) hS0 (Or.inl ⟨by rfl, ?_⟩) (fun hcl8 => ?_)
            rotate_left
            · (intro wS hSw; (try dsimp only at hSw); go_simp; (try with_reducible rfl))
            clear hcl7
            try simp only [Act.put, List.setIfInBounds_toArray, List.set_cons_zero, List.set_cons_succ]
            refine wpAnyN_take (i := 9) (v := ?_) rfl (by kernel_rfl) (by kernel_rfl) (by kernel_rfl) (by kernel_rfl) (fun _ _ _ h => h) (by assumption) hS0 (Or.inl ⟨by rfl, ?_⟩) (fun hcl9 => ?_)
            rotate_left
            · (intro wS hSw; (try dsimp only at hSw); go_simp; (try with_reducible rfl))
            clear hcl8
            try simp only [Act.put, List.setIfInBounds_toArray, List.set_cons_zero, List.set_cons_succ]
            refine wpAnyN_take (i := 10) (v := ?_) rfl (by kernel_rfl) (by kernel_rfl) (by kernel_rfl) (by kernel_rfl) (fun _ _ _ h => h) (by assumption) hS0 (Or.inl ⟨by rfl, ?_⟩) (fun hcl10 => ?_)
            rotate_left
            · (intro wS hSw; (try dsimp only at hSw); go_simp; (try with_reducible rfl))
            clear hcl9
            try simp only [Act.put, List.setIfInBounds_toArray, List.set_cons_zero, List.set_cons_succ]
            refine wpAnyN_take (i := 11) (v := ?_) rfl (by kernel_rfl) (by kernel_rfl) (by kernel_rfl) (by kernel_rfl) (fun _ _ _ h => h) (by assumption) hS0 (Or.inl ⟨by rfl, ?_⟩) (fun hcl11 => ?_)
            rotate_left
            · (intro wS hSw; (try dsimp only at hSw); go_simp; (try with_reducible rfl))
            clear hcl10
            try simp only [Act.put, List.setIfInBounds_toArray, List.set_cons_zero, List.set_cons_succ]
            refine wpAnyN_take (i := 13) (v := ?_) rfl (by kernel_rfl) (by kernel_rfl) (by kernel_rfl) (by kernel_rfl) (fun _ _ _ h => h) (by assumption) hS0 (Or.inl ⟨by rfl, ?_⟩) (fun hcl13 => ?_)
            rotate_left
            · (intro wS hSw; (try dsimp only at hSw); go_simp; (try with_reducible rfl))
            clear hcl11
            try simp only [Act.put, List.setIfInBounds_toArray, List.set_cons_zero, List.set_cons_succ]
            refine wpAnyN_take (i := 14) (v := ?_) rfl (by kernel_rfl) (by kernel_rfl) (by kernel_rfl) (by kernel_rfl) (fun _ _ _ h => h) (by assumption) hS0 (Or.inl ⟨by rfl, ?_⟩) (fun hcl14 => ?_)
            rotate_left
            · (intro wS hSw; (try dsimp only at hSw); go_simp; (try with_reducible rfl))
            clear hcl13
            try simp only [Act.put, List.setIfInBounds_toArray, List.set_cons_zero, List.set_cons_succ]
            refine wpAnyN_take (i := 15) (v := ?_) rfl (by kernel_rfl) (by kernel_rfl) (by kernel_rfl) (by kernel_rfl) (fun _ _ _ h => h) (by assumption) hS0 (Or.inl ⟨by rfl, ?_⟩) (fun hcl15 => ?_)
            rotate_left
            · (intro wS hSw; (try dsimp only at hSw); go_simp; (try with_reducible rfl))
            clear hcl14
            try simp only [Act.put, List.setIfInBounds_toArray, List.set_cons_zero, List.set_cons_succ]
            refine wpAnyN_take (i := 16) (v := ?_) rfl (by kernel_rfl) (by kernel_rfl) (by kernel_rfl) (by kernel_rfl) (fun _ _ _ h => h) (by assumption) hS0 (Or.inl ⟨by rfl, ?_⟩) (fun hcl16 => ?_)
            rotate_left
            · (intro wS hSw; (try dsimp only at hSw); go_simp; (try with_reducible rfl))
            clear hcl15
            try simp only [Act.put, List.setIfInBounds_toArray, List.set_cons_zero, List.set_cons_succ]
            refine wpAnyN_take (i := 17) (v := ?_) rfl (by kernel_rfl) (by kernel_rfl) (by kernel_rfl) (by kernel_rfl) (fun _ _ _ h => h) (by assumption) hS0 (Or.inl ⟨by rfl, ?_⟩) (fun hcl17 => ?_)
            rotate_left
            · (intro wS hSw; (try dsimp only at hSw); go_simp; (try with_reducible rfl))
            clear hcl16
            try simp only [Act.put, List.setIfInBounds_toArray, List.set_cons_zero, List.set_cons_succ]
            refine wpAnyN_take (i := 18) (v := ?_) rfl (by kernel_rfl) (by kernel_rfl) (by kernel_rfl) (by kernel_rfl) (fun _ _ _ h => h) (by assumption) hS0 (Or.inl ⟨by rfl, ?_⟩) (fun hcl18 => ?_)
            rotate_left
            · (intro wS hSw; (try dsimp only at hSw); go_simp; (try with_reducible rfl))
            clear hcl17
            try simp only [Act.put, List.setIfInBounds_toArray, List.set_cons_zero, List.set_cons_succ]
            refine wpAnyN_take (i := 19) (v := ?_) rfl (by kernel_rfl) (by kernel_rfl) (by kernel_rfl) (by kernel_rfl) (fun _ _ _ h => h) (by assumption) hS0 (Or.inl ⟨by rfl, ?_⟩) (fun hcl19 => ?_)
            rotate_left
            · (intro wS hSw; (try dsimp only at hSw); go_simp; (try with_reducible rfl))
            clear hcl18
            try simp only [Act.put, List.setIfInBounds_toArray, List.set_cons_zero, List.set_cons_succ]
            refine wpAnyN_take (i := 20) (v := ?_) rfl (by kernel_rfl) (by kernel_rfl) (by kernel_rfl) (by kernel_rfl) (fun _ _ _ h => h) (by assumption) hS0 (Or.inl ⟨by rfl, ?_⟩) (fun hcl20 => ?_)
            rotate_left
            · (intro wS hSw; (try dsimp only at hSw); go_simp; (try with_reducible rfl))
            clear hcl19
            try simp only [Act.put, List.setIfInBounds_toArray, List.set_cons_zero, List.set_cons_succ]
            refine wpAnyN_take (i := 21) (v := ?_) rfl (by kernel_rfl) (by kernel_rfl) (by kernel_rfl) (by kernel_rfl) (fun _ _ _ h => h) (by assumption) hS0 (Or.inl ⟨by rfl, ?_⟩) (fun hcl21 => ?_)
            rotate_left
            · (intro wS hSw; (try dsimp only at hSw); go_simp; (try with_reducible rfl))
            clear hcl20
            try simp only [Act.put, List.setIfInBounds_toArray, List.set_cons_zero, List.set_cons_succ]
            refine wpAnyN_take (i := 22) (v := ?_) rfl (by kernel_rfl) (by kernel_rfl) (by kernel_rfl) (by kernel_rfl) (fun _ _ _ h => h) (by assumption) hS0 (Or.inl ⟨by rfl, ?_⟩) (fun hcl22 => ?_)
            rotate_left
            · (intro wS hSw; (try dsimp only at hSw); go_simp; (try with_reducible rfl))
            clear hcl21
            try simp only [Act.put, List.setIfInBounds_toArray, List.set_cons_zero, List.set_cons_succ]
            refine wpAnyN_take (i := 23) (v := ?_) rfl (by kernel_rfl) (by kernel_rfl) (by kernel_rfl) (by kernel_rfl) (fun _ _ _ h => h) (by assumption) hS0 (Or.inl ⟨by rfl, ?_⟩) (fun hcl23 => ?_)
            rotate_left
            · (intro wS hSw; (try dsimp only at hSw); go_simp; (try with_reducible rfl))
            clear hcl22
            try simp only [Act.put, List.setIfInBounds_toArray, List.set_cons_zero, List.set_cons_succ]
            refine wpAnyN_take (i := 24) (v := ?_) rfl (by kernel_rfl) (by kernel_rfl) (by kernel_rfl) (by kernel_rfl) (fun _ _ _ h => h) (by assumption) hS0 (Or.inl ⟨by rfl, ?_⟩) (fun hcl24 => ?_)
            rotate_left
            · (intro wS hSw; (try dsimp only at hSw); go_simp; (try with_reducible rfl))
            clear hcl23
            try simp only [Act.put, List.setIfInBounds_toArray, List.set_cons_zero, List.set_cons_succ]
            refine wpAnyN_one (i := 12) (by kernel_rfl) rfl (fun K' hK' => ?_)
            go_simp
            go_at_call 9
            refine (come_o (H5.out.1.same (Upd.refl _ _).drew) hz6 HOK.out ((s.nx + on) % 4294967296) (by omega) (by omega) (by have := HT.out; omega) onow oid).mono ?_
            rintro r w8 ⟨rfl, hg⟩
            have hgU := hg.choose_spec.2.1
            have hR8 := (H5.out.2.1.same (Upd.refl (fun _ => False) _).drew).upd hgU (fun k hk hf => H5.out.2.2.1 k hf hk)
            have hA8 := (HA.out.upd (Upd.refl (fun _ => False) _).drew (fun h => h)).upd hgU H5.out.2.2.2.2.1
            have hz8 := hgU.size
            have HG := Lib.hid hg
            refine hK'.out _ _ (fun _ => ⟨hR8.cell0, hA8.2.1, hA8.2.2.1, hA8.2.2.2⟩) ?_
            clear hK' K' hS0 hgU hg
            have HR8 := Lib.hid hR8
            clear hR8 hA8 m0
            refine wpAnyN_one (i := 25) (by kernel_rfl) rfl (fun K' hK' => ?_)
            go_simp
            go_at_call 10
            refine (rcome_o HR8.out (by simp at hz8; omega) HOK.out ((s.nx + on) % 4294967296) (by omega) (by omega) (by have := HT.out; omega) onow oid).mono ?_
            rintro r w9 ⟨rfl, hg⟩
            have hP := WPair.both (H5.out.1.same (Upd.refl _ _).drew) (H5.out.2.1.same (Upd.refl _ _).drew) H5.out.2.2.1 (Same.trans H5.out.2.2.2.1 (Upd.refl _ _).drew) (HOK.out.come (by omega) (by omega)) HG.out hg
            refine hK'.out _ _ (fun e => absurd e (by decide)) ?_
            clear hK' K' hg
            have HPP := Lib.hid hP
            have htt := come_tot s ((s.nx + on) % 4294967296) onow oid
            clear hP
            refine wpAnyN_one (i := 26) (by kernel_rfl) rfl (fun K' hK' => ?_)
            go_simp
            refine hK'.out _ _ (fun e => absurd e (by decide)) ?_
            clear hK' K'
            refine wpAnyN_done (by kernel_rfl) ?_ _
            refine NoPanic.normal ?_
            go_wp2_with fail
            go_meet
            exact ⟨rfl, _, HPP.out, by have := HT.out; omega⟩
        · rcases hk1 with rfl | rfl
          all_goals
            go_wp2_with fail
            refine (next_o H5.out.1 hz6 (by have := HT.out; omega)).mono ?_
            rintro r w8 ⟨rfl, hg⟩
            have hgU := hg.choose_spec.2.1
            have hR8 := H5.out.2.1.upd hgU (fun k hk hf => H5.out.2.2.1 k hf hk)
            have hz8 := hgU.size
            have HG := Lib.hid hg
            have HR8 := Lib.hid hR8
            clear hg hgU hR8 m0
            go_wp2_with fail
            refine (rnext_o HR8.out (by have := HT.out; omega)).mono ?_
            rintro r w9 ⟨rfl, hg⟩
            have HPP := Lib.hid (WPair.both H5.out.1 H5.out.2.1 H5.out.2.2.1 H5.out.2.2.2.1 HOK.out.next HG.out hg)
            have htt := next_tot s
            clear hg
            go_wp2_with fail
            go_meet
            exact ⟨rfl, _, HPP.out, by have := HT.out; omega⟩
        · subst hk1
          go_wp2_with fail
          refine (done_o H5.out.1 HOK.out).mono ?_
          rintro r w8 ⟨rfl, hg⟩
          have hgU := hg.choose_spec.2.1
          have hR8 := H5.out.2.1.upd hgU (fun k hk hf => H5.out.2.2.1 k hf hk)
          have hz8 := hgU.size
          have HG := Lib.hid hg
          have HR8 := Lib.hid hR8
          clear hg hgU hR8 m0
          go_wp2_with fail
          refine (rdone_o HR8.out HOK.out).mono ?_
          rintro r w9 ⟨rfl, hg⟩
          have HPP := Lib.hid (WPair.both H5.out.1 H5.out.2.1 H5.out.2.2.1 H5.out.2.2.2.1 HOK.out.done HG.out hg)
          have htt := done_tot s
          clear hg
          go_wp2_with fail
          go_meet
          exact ⟨rfl, _, HPP.out, by have := HT.out; omega⟩
        · subst hk1
          go_wp2_with fail
          go_region_held3 (fun w' => w'.cell? ⟨B, 1, none⟩ = some (.int .u32 on) ∧ w'.cell? ⟨B, 2, none⟩ = some (.bool onow) ∧ w'.cell? ⟨B, 3, none⟩ = some (.int .i64 oid)) (first | assumption | exact ⟨(Upd.refl (fun _ => False) _).drew.cell o1 (fun h => h), (Upd.refl (fun _ => False) _).drew.cell o2 (fun h => h), (Upd.refl (fun _ => False) _).drew.cell o3 (fun h => h)⟩ | exact ⟨x1, x2, x3⟩ | exact ⟨y1, y2, y3⟩) (first
            | (go_at_call 9; refine (come_o (H5.out.1.same (Upd.refl _ _).drew) hz6 HOK.out on ob5.1 ob5.2 (by have := HT.out; omega) onow oid).mono ?_; rintro r w8 ⟨rfl, hg⟩; have hgU := hg.choose_spec.2.1; have hR8 := (H5.out.2.1.same (Upd.refl (fun _ => False) _).drew).upd hgU (fun k hk hf => H5.out.2.2.1 k hf hk); obtain ⟨x0, x1, x2, x3⟩ := (HA.out.upd (Upd.refl (fun _ => False) _).drew (fun h => h)).upd hgU H5.out.2.2.2.2.1; have hz8 := hgU.size; have HG := Lib.hid hg; have HR8 := Lib.hid hR8; clear hg hgU hR8)
            | (go_at_call 10; refine (rcome_o HR8.out (by simp at hz8; omega) HOK.out on ob5.1 ob5.2 (by have := HT.out; omega) onow oid).mono ?_; rintro r w9 ⟨rfl, hg⟩; have hgU := hg.choose_spec.2.1; have y1 := hgU.cell x1 H5.out.2.2.2.2.2; have y2 := hgU.cell x2 H5.out.2.2.2.2.2; have y3 := hgU.cell x3 H5.out.2.2.2.2.2; have HPP := Lib.hid (WPair.both (H5.out.1.same (Upd.refl _ _).drew) (H5.out.2.1.same (Upd.refl _ _).drew) H5.out.2.2.1 (Same.trans H5.out.2.2.2.1 (Upd.refl _ _).drew) (HOK.out.come ob5.1 ob5.2) HG.out hg); have htt := come_tot s on onow oid; clear hg hgU))
          all_goals
            go_wp2_with fail
            go_meet
            exact ⟨rfl, _, HPP.out, by have := HT.out; omega⟩
        · obtain ⟨k0, k1, k2, k3, k4, k5, k6, k7⟩ := hk1
          go_wp2_with fail
          go_meet
          exact ⟨rfl, s, ⟨F, G, H5.out.1, H5.out.2.1, H5.out.2.2.1, HOK.out, H5.out.2.2.2.1⟩, by have := HT.out; omega⟩
      case rest =>
        obtain ⟨rfl, s2, ⟨F2, G2, hO2, hR2, hd2, hok2, hs2⟩, htot2⟩ := hcut
        have HE := Lib.hid (And.intro hd2 (And.intro hok2 hs2))
        have HEX := Lib.hid (fun w' (h : Same wc w') => (expected_o (hO2.same h)).mono (R' := fun r w'' => r = .returned (.int .u32 s2.nx) ∧ w'' = w') (by rintro r w'' ⟨rfl, rfl⟩; exact ⟨rfl, rfl⟩))
        have HHI := Lib.hid (fun w' (h : Same wc w') => highest_q (hO2.same h) hok2)
        have HRH := Lib.hid (fun w' (h : Same wc w') => rhigh_q (hR2.same h) hok2)
        have HHE := Lib.hid (fun w' (h : Same wc w') => (held_o (hO2.same h)).mono (R' := fun r w'' => r = .returned (.int .i64 s2.ls.length) ∧ w'' = w') (by rintro r w'' ⟨rfl, rfl⟩; exact ⟨rfl, rfl⟩))
        have HBU := Lib.hid (fun w' (h : Same wc w') => (busy_o (hO2.same h)).mono (R' := fun r w'' => r = .returned (.int .i64 s2.bz) ∧ w'' = w') (by rintro r w'' ⟨rfl, rfl⟩; exact ⟨rfl, rfl⟩))
        obtain ⟨ul, ut, hV, -, -⟩ := id hR2
        obtain ⟨uA, um, ucap, rfl, u1, -, -⟩ := hV.2.2.1.open_
        rw [held_length] at u1
        obtain rfl : s2.ls.length = um := by omega
        obtain ⟨⟨r0, r1, r2, r3, r4⟩, -⟩ := hV.2.1
        have HO2 := Lib.hid hO2
        have HR2 := Lib.hid hR2
        clear hO2 hR2 hd2 hok2 hs2 hV m0 o0 o1 o2 o3 u1
        generalize highOf s2.nx s2.sz s2.bz = HI at HHI HRH
        go_wp2_with fail
        go_quiet ((first
          | (go_at_call 15; exact Calls.quiet_of_same (HEX.out _ (by first | exact Upd.refl _ _ | exact (Upd.refl _ _).drewN _ | exact (Upd.refl _ _).drew)))
          | (go_at_call 16; exact Calls.quiet_of (HHI.out _ (by first | exact Upd.refl _ _ | exact (Upd.refl _ _).drewN _ | exact (Upd.refl _ _).drew)))
          | (go_at_call 17; exact Calls.quiet_of (HRH.out _ (by first | exact Upd.refl _ _ | exact (Upd.refl _ _).drewN _ | exact (Upd.refl _ _).drew)))
          | (go_at_call 18; exact Calls.quiet_of_same (HHE.out _ (by first | exact Upd.refl _ _ | exact (Upd.refl _ _).drewN _ | exact (Upd.refl _ _).drew)))
          | (go_at_call 19; exact Calls.quiet_of_same (HBU.out _ (by first | exact Upd.refl _ _ | exact (Upd.refl _ _).drewN _ | exact (Upd.refl _ _).drew)))))
        go_wp2_with fail
        go_roundw
        case rel => exact ⟨k + 1, by omega, by omega, by go_num, s2, ⟨F2, G2, HO2.out.same ((Upd.refl _ _).drewN _), HR2.out.same ((Upd.refl _ _).drewN _), HE.out.1, HE.out.2.1, Same.trans HE.out.2.2 ((Upd.refl _ _).drewN _)⟩, htot2⟩
        case measure => simp [intOf]; omega
    · have HE := Lib.hid hPr
      have HKN := Lib.hid (known_any wr)
      clear hPr htot
      have h1 : (k < N ∧ k = 300) ∨ k = N := by omega
      rcases h1 with ⟨h1, rfl⟩ | rfl
      · have g1 : (300 : Int) < (N : Int) := by omega
        go_wp2_with fail
        refine HKN.out.mono ?_
        rintro r wz ⟨rfl, hz⟩
        have HZ := Lib.hid hz
        clear hz
        go_wp2_with fail
        go_ret
        obtain ⟨F, G, hO, hR, hd, hok, hs⟩ := HE.out
        exact ⟨rfl, Same.trans hs HZ.out⟩
      · go_wp2_with fail
        refine HKN.out.mono ?_
        rintro r wz ⟨rfl, hz⟩
        have HZ := Lib.hid hz
        clear hz
        go_wp2_with fail
        go_ret
        obtain ⟨F, G, hO, hR, hd, hok, hs⟩ := HE.out
        exact ⟨rfl, Same.trans hs HZ.out⟩
end Go.Proofs.Ytjfcdinobhmmeaa
