/- The world's clocks: May, Tick, New. -/
import Derived.Test.YtppphelihimidaaWorM
namespace Go.Proofs.Ytppphelihimidaa
open Go.RowKit
set_option linter.unusedVariables false
set_option linter.unusedSimpArgs false
attribute [local go_sem ↓] Go.wp_at_zero Go.wp_at_succ
/-- May a clock tick? -/
def MayOk (cs : List Int) (rho : Int) (i : Nat) : Prop := cs.getD i 0 < 1099511627776 ∧ ∀ j, j < cs.length → j ≠ i → cs.getD i 0 + 1 - cs.getD j 0 ≤ rho
def MayI (cs : List Int) (rho : Int) (i : Int) : Prop := 0 ≤ i ∧ i < cs.length ∧ MayOk cs rho i.toNat
section
variable {W : World} {p : Nat} {s : WrS} {cs : List Int}
theorem may_out (hc : WC W p s) (hr : Rdr W s.vc 1 (cs.map nC)) (i : Int) (hi : i < 0 ∨ (cs.length : Int) ≤ i) :
    Calls Try.prog 11 #[.pointer (some ⟨p, 0, none⟩), .int .i64 i] W fun e w' => Says (MayI cs s.rho i) e ∧ Same W w' := by
  have hs := (Upd.refl (fun _ => False) W).alloc (.cells #[.int .i64 i] 3)
  have hx := Rdr.box W [nC i] 3 (0, 0) W.heap.size rfl 1 rfl
  have hth := there_any (hc.upd hs (fun h => h)) (hr.same hs) (xs := [i]) hx (by simp)
  rw [thereL_one, outB_yes hi] at hth
  have HT := Lib.hid hth
  have HS := Lib.hid hs
  have HN : Hid (¬ MayI cs s.rho i) := Lib.hid fun h => by obtain ⟨h1, h2, -⟩ := h; omega
  clear hs hx hth hc hr hi
  go_enter Try.func11, Try.ntmps11
  go_wp2_with fail
  refine HT.out.mono ?_
  rintro r w1 ⟨rfl, hs1⟩
  have HS2 := Lib.hid (Same.trans HS.out hs1)
  clear hs1
  go_wp2_with fail
  go_ret
  exact ⟨Says.no HN.out, HS2.out⟩
theorem may_in (hc : WC W p s) (hr : Rdr W s.vc 1 (cs.map nC)) (hok : CkOk cs s.rho) (i : Nat) (hi : i < cs.length) :
    Calls Try.prog 11 #[.pointer (some ⟨p, 0, none⟩), .int .i64 i] W fun e w' => Says (MayI cs s.rho i) e ∧ Same W w' := by
  have hMI : MayI cs s.rho i ↔ MayOk cs s.rho i := by unfold MayI; simp [hi]
  rw [hMI]
  have hs := (Upd.refl (fun _ => False) W).alloc (.cells #[.int .i64 i] 3)
  have hx := Rdr.box W [nC i] 3 (0, 0) W.heap.size rfl 1 rfl
  have hth := there_any (hc.upd hs (fun h => h)) (hr.same hs) (xs := [(i : Int)]) hx (by simp)
  rw [thereL_one, outB_no (by omega) (by omega), Bool.not_false] at hth
  obtain ⟨b, off, cap, hv, x3, hcl, h63, hlc⟩ := row_at hc hr i hi
  have HX := Lib.hid (fun w' (h : Same W w') => And.intro ((hc.upd h (fun h => h)).1.1) (And.intro (h.cell x3 (fun h => h)) (h.cell (hcl i hi) (fun h => h))))
  obtain ⟨r, hr2⟩ : ∃ r : Bool, r = true ↔ AloneOk cs s.rho i := by
    by_cases h : AloneOk cs s.rho i
    · exact ⟨true, by simp [h]⟩
    · exact ⟨false, by simp [h]⟩
  have HA := Lib.hid (fun w' (h : Same W w') => alone_val (hc.upd h (fun h => h)) (hr.same h) hok i hi r hr2)
  have HMN := Lib.hid (fun w' (h : Same W w') => min_any (hr.same h) (by omega) (by have := hok.2.2.2.1; omega))
  rw [hv] at HMN
  have hml := minTo_le cs cs.length (Nat.le_refl _) (by omega)
  have HMQ := Lib.hid hml
  obtain ⟨hm1, hm2⟩ : 0 ≤ minTo cs cs.length ∧ minTo cs cs.length ≤ 1099511627776 := by
    obtain ⟨j, hj, e⟩ := hml.2
    rw [e]
    exact hok.2.2.2.2 j
  have HT := Lib.hid hth
  have HS := Lib.hid hs
  have HR2 := Lib.hid hr2
  obtain ⟨o1, o2, o3, o4, o5⟩ := hok
  obtain ⟨i1, i2⟩ := o5 i
  obtain ⟨z, hz⟩ : ∃ z, z = cs.getD i 0 := ⟨_, rfl⟩
  obtain ⟨m, hm⟩ : ∃ m, m = minTo cs cs.length := ⟨_, rfl⟩
  rw [← hz] at HX i1 i2
  rw [← hm] at HMN HMQ hm1 hm2
  have HZ := Lib.hid hz
  have HII := Lib.hid hi
  obtain ⟨N, hN⟩ : ∃ N, N = cs.length := ⟨_, rfl⟩
  rw [← hN] at HX HMN o3 o4 hi hlc
  have HNN := Lib.hid hN
  obtain ⟨rho, hrho⟩ : ∃ rho, rho = s.rho := ⟨_, rfl⟩
  rw [← hrho] at HX o1 o2 HR2 ⊢
  have g1 : (i : Int) < (N : Int) := by omega
  clear hs hx hth hc hr hr2 hml o5 hz hm hN hrho hMI hv x3 hcl
  by_cases hz2 : 1099511627776 ≤ z
  · go_enter Try.func11, Try.ntmps11
    go_wp2_with fail
    refine HT.out.mono ?_
    rintro r w1 ⟨rfl, hs1⟩
    have hs2 := Same.trans HS.out hs1
    obtain ⟨x0, x1, x2⟩ := HX.out w1 hs2
    have HS2 := Lib.hid hs2
    clear hs1 hs2
    go_wp2_with fail
    go_ret
    exact ⟨Says.no fun h => by have := h.1; rw [← HZ.out] at this; omega, HS2.out⟩
  · have g2 : z < 1099511627776 := by omega
    by_cases hN1 : N = 1
    · have g4 : ((N : Int) == 1) = true := by simp; omega
      go_enter Try.func11, Try.ntmps11
      go_wp2_with fail
      refine HT.out.mono ?_
      rintro r w1 ⟨rfl, hs1⟩
      have hs2 := Same.trans HS.out hs1
      obtain ⟨x0, x1, x2⟩ := HX.out w1 hs2
      have HS2 := Lib.hid hs2
      clear hs1 hs2
      go_wp2_with fail
      go_quiet (fail)
      go_wp2_with fail
      go_ret
      exact ⟨Says.yes ⟨by rw [← HZ.out]; omega, fun j hj hji => by have := HNN.out; omega⟩, HS2.out.drewN _⟩
    · have g4 : ((N : Int) == 1) = false := by simp; omega
      by_cases hle : z + 1 - m ≤ rho
      · have g5 : decide (z + 1 - m ≤ rho) = true := decide_eq_true hle
        go_enter Try.func11, Try.ntmps11
        go_wp2_with fail
        refine HT.out.mono ?_
        rintro r w1 ⟨rfl, hs1⟩
        have hs2 := Same.trans HS.out hs1
        obtain ⟨x0, x1, x2⟩ := HX.out w1 hs2
        have HS2 := Lib.hid hs2
        clear hs1 hs2
        go_wp2_with fail
        go_quiet ((go_at_call 30; exact Calls.quiet_of_same (HMN.out _ (HS2.out.drewN _))))
        go_wp2_with fail
        go_ret
        exact ⟨Says.yes ⟨by rw [← HZ.out]; omega, fun j hj hji => by have := HMQ.out.1 j hj; rw [← HZ.out]; omega⟩, HS2.out.drewN _⟩
      · have g5 : decide (z + 1 - m ≤ rho) = false := decide_eq_false hle
        go_enter Try.func11, Try.ntmps11
        go_wp2_with fail
        refine HT.out.mono ?_
        rintro r w1 ⟨rfl, hs1⟩
        have hs2 := Same.trans HS.out hs1
        obtain ⟨x0, x1, x2⟩ := HX.out w1 hs2
        have HS2 := Lib.hid hs2
        clear hs1 hs2
        go_wp2_with fail
        go_quiet (first | (go_at_call 30; exact Calls.quiet_of_same (HMN.out _ (HS2.out.drewN _))) | (go_at_call 31; exact Calls.quiet_of (HA.out _ (HS2.out.drewN _))))
        go_wp2_with fail
        go_ret
        exact ⟨⟨r, rfl, HR2.out.trans ⟨fun h => ⟨by rw [← HZ.out]; omega, fun j hj hji => by have := h j hj hji; rw [← HZ.out] at this ⊢; omega⟩, fun h j hj hji => by have := h.2 j hj hji; rw [← HZ.out] at this ⊢; omega⟩⟩, HS2.out.drewN _⟩
theorem may_any (hc : WC W p s) (hr : Rdr W s.vc 1 (cs.map nC)) (hok : CkOk cs s.rho) (i : Int) :
    Calls Try.prog 11 #[.pointer (some ⟨p, 0, none⟩), .int .i64 i] W fun e w' => Says (MayI cs s.rho i) e ∧ Same W w' := by
  by_cases h : i < 0 ∨ (cs.length : Int) ≤ i
  · exact may_out hc hr i h
  · obtain ⟨k, rfl⟩ : ∃ k : Nat, i = k := ⟨i.toNat, by omega⟩
    exact may_in hc hr hok k (by omega)
theorem may_val (hc : WC W p s) (hr : Rdr W s.vc 1 (cs.map nC)) (hok : CkOk cs s.rho) (i : Int) (r : Bool) (hq : r = true ↔ MayI cs s.rho i) :
    Calls Try.prog 11 #[.pointer (some ⟨p, 0, none⟩), .int .i64 i] W fun e w' => e = .returned (.bool r) ∧ Same W w' := by
  refine (may_any hc hr hok i).mono ?_
  rintro e w' ⟨⟨r', rfl, h⟩, hs⟩
  refine ⟨?_, hs⟩
  have : r' = r := by
    cases r' <;> cases r <;> simp_all
  rw [this]
theorem tick_out (hc : WC W p s) (hr : Rdr W s.vc 1 (cs.map nC)) (i : Int) (hi : i < 0 ∨ (cs.length : Int) ≤ i) :
    Calls Try.prog 10 #[.pointer (some ⟨p, 0, none⟩), .int .i64 i] W fun e w' => e = .returned (.int .i64 1) ∧ Same W w' := by
  have hs := (Upd.refl (fun _ => False) W).alloc (.cells #[.int .i64 i] 3)
  have hx := Rdr.box W [nC i] 3 (0, 0) W.heap.size rfl 1 rfl
  have hth := there_any (hc.upd hs (fun h => h)) (hr.same hs) (xs := [i]) hx (by simp)
  rw [thereL_one, outB_yes hi] at hth
  have HT := Lib.hid hth
  have HS := Lib.hid hs
  clear hs hx hth hc hr hi
  go_enter Try.func10, Try.ntmps10
  go_wp2_with fail
  refine HT.out.mono ?_
  rintro r w1 ⟨rfl, hs1⟩
  have HS2 := Lib.hid (Same.trans HS.out hs1)
  clear hs1
  go_wp2_with fail
  go_ret
  exact ⟨rfl, HS2.out⟩
theorem tick_not (hc : WC W p s) (hr : Rdr W s.vc 1 (cs.map nC)) (hok : CkOk cs s.rho) (i : Nat) (hi : i < cs.length) (hn : ¬ MayOk cs s.rho i) :
    Calls Try.prog 10 #[.pointer (some ⟨p, 0, none⟩), .int .i64 i] W fun e w' => e = .returned (.int .i64 5) ∧ Same W w' := by
  have hMI : ¬ MayI cs s.rho i := by unfold MayI; simpa [hi] using hn
  have hs := (Upd.refl (fun _ => False) W).alloc (.cells #[.int .i64 i] 3)
  have hx := Rdr.box W [nC i] 3 (0, 0) W.heap.size rfl 1 rfl
  have hth := there_any (hc.upd hs (fun h => h)) (hr.same hs) (xs := [(i : Int)]) hx (by simp)
  rw [thereL_one, outB_no (by omega) (by omega), Bool.not_false] at hth
  have HM := Lib.hid (fun w' (h : Same W w') => may_val (hc.upd h (fun h => h)) (hr.same h) hok i false ⟨fun e => (by cases e), fun h => absurd h hMI⟩)
  have HT := Lib.hid hth
  have HS := Lib.hid hs
  clear hs hx hth hc hr hok hMI hn
  go_enter Try.func10, Try.ntmps10
  go_wp2_with fail
  refine HT.out.mono ?_
  rintro r w1 ⟨rfl, hs1⟩
  have HS2 := Lib.hid (Same.trans HS.out hs1)
  clear hs1
  go_wp2_with fail
  refine (HM.out _ HS2.out).mono ?_
  rintro r w2 ⟨rfl, hs2⟩
  have HS3 := Lib.hid (Same.trans HS2.out hs2)
  clear hs2
  go_wp2_with fail
  go_ret
  exact ⟨rfl, HS3.out⟩
theorem tick_ok {base : Nat} (hc : WC W p s) (hr : Own base W s.vc 1 (cs.map nC)) (hok : CkOk cs s.rho) (i : Nat) (hi : i < cs.length) (hn : MayOk cs s.rho i) :
    Calls Try.prog 10 #[.pointer (some ⟨p, 0, none⟩), .int .i64 i] W fun e w' => e = .returned (.int .i64 0) ∧ Own base w' s.vc 1 ((cs.set i (cs.getD i 0 + 1)).map nC) ∧ Upd (fun k => room s.vc = some k) W w' := by
  have hMI : MayI cs s.rho i := by unfold MayI; simpa [hi] using hn
  have hs := (Upd.refl (fun _ => False) W).alloc (.cells #[.int .i64 i] 3)
  have hx := Rdr.box W [nC i] 3 (0, 0) W.heap.size rfl 1 rfl
  have hth := there_any (hc.upd hs (fun h => h)) (hr.rdr.same hs) (xs := [(i : Int)]) hx (by simp)
  rw [thereL_one, outB_no (by omega) (by omega), Bool.not_false] at hth
  have HM := Lib.hid (fun w' (h : Same W w') => may_val (hc.upd h (fun h => h)) (hr.rdr.same h) hok i true ⟨fun e => hMI, fun h => rfl⟩)
  obtain ⟨b, off, cap, hv, x3, hcl, h63, hlc⟩ := row_at hc hr.rdr i hi
  have HX := Lib.hid (fun w' (h : Same W w') => And.intro (h.cell x3 (fun h => h)) (h.cell (hcl i hi) (fun h => h)))
  rw [hv] at hr ⊢
  have HO := Lib.hid (fun w' (h : Same W w') => Own.set1 (hr.same h) i (by simpa using hi) (nC (cs.getD i 0 + 1)) rfl)
  obtain ⟨i1, i2⟩ := hok.2.2.2.2 i
  have HT := Lib.hid hth
  have HS := Lib.hid hs
  rw [show (cs.set i (cs.getD i 0 + 1)).map nC = (cs.map nC).set i (nC (cs.getD i 0 + 1)) from List.map_set]
  obtain ⟨z, hz⟩ : ∃ z, z = cs.getD i 0 := ⟨_, rfl⟩
  rw [← hz] at HX HO i1 i2 ⊢
  have g1 : (i : Int) < (cs.length : Int) := by omega
  clear hs hx hth hc hr hok hMI hn x3 hcl hz hv
  go_enter Try.func10, Try.ntmps10
  go_wp2_with fail
  refine HT.out.mono ?_
  rintro r w1 ⟨rfl, hs1⟩
  have HS2 := Lib.hid (Same.trans HS.out hs1)
  clear hs1
  go_wp2_with fail
  refine (HM.out _ HS2.out).mono ?_
  rintro r w2 ⟨rfl, hs2⟩
  have hs3 := Same.trans HS2.out hs2
  obtain ⟨y3, y4⟩ := HX.out w2 hs3
  have f4 := (HO.out w2 hs3).2.2
  have HS3 := Lib.hid hs3
  clear hs2 hs3
  go_wp2_with fail
  go_ret
  obtain ⟨q1, q2, -⟩ := HO.out w2 HS3.out
  exact ⟨rfl, q1, Same.then HS3.out q2⟩
end
/-- A new world. -/
def NewR (w : World) (n rho : Nat) (e : Ending) (w' : World) : Prop := e = .returned (.tuple #[.pointer (some ⟨w.heap.size + 1, 0, none⟩), .int .i64 0]) ∧
  WC w' (w.heap.size + 1) ⟨rho, .slice none 0 0, 0, .slice (some ⟨w.heap.size, 0, none⟩) n n, 0, 0, 0, false⟩ ∧ Own w.heap.size w' (.slice (some ⟨w.heap.size, 0, none⟩) n n) 1 ((List.replicate n (0 : Int)).map nC) ∧ Same w w'
theorem wnew_any (n rho : Nat) (h1 : 1 ≤ n) (h2 : n ≤ 5) (h3 : 1 ≤ rho) (h4 : rho ≤ 1000) (w : World) :
    Calls Try.prog 8 #[.int .i64 n, .int .i64 rho] w (NewR w n rho) := by
  have hmk := fun w => run_make_row' (P := Try.prog) 28 2 (.int .i64 0) 8 Try.underlying28 (by kernel_rfl) rfl .i64 .i64 n (by omega) (by omega) w
  have g1 : ¬ ((n : Int) < 1) := by omega
  have g2 : ¬ ((5 : Int) < (n : Int)) := by omega
  have g3 : ¬ ((rho : Int) < 1) := by omega
  have g4 : ¬ ((1000 : Int) < (rho : Int)) := by omega
  have HO := Lib.hid (Own.lit w (madeCells #[Value.int .i64 0] n) 2 ((List.replicate n (0 : Int)).map nC) w.heap.size n n 1 w.heap.size rfl (Nat.le_refl _) (fun j u hj => by
    obtain ⟨hj1, hj2⟩ := List.getElem?_eq_some_iff.1 hj
    simp only [List.length_map, List.length_replicate] at hj1
    simp only [List.map_replicate, List.getElem_replicate] at hj2
    subst hj2
    simp [madeCells, hj1, Nat.mod_one, nC]) (by simp) (Nat.le_refl _) (by omega) (by simp [madeCells]))
  go_enter Try.func8, Try.ntmps8
  go_wp2_with fail
  go_ret2
  exact ⟨rfl, WC.new _ _ _ _ _ (by simp), HO.out.same ((Upd.refl _ _).alloc _), ((Upd.refl _ _).alloc _).alloc _⟩
end Go.Proofs.Ytppphelihimidaa
