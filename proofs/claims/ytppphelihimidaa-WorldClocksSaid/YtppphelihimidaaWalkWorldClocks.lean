/- The walk of WorldClocks. -/
import Derived.Test.YtppphelihimidaaWorP
import Derived.Test.YtppphelihimidaaWorKn
import Derived.Test.YtppphelihimidaaCount
import Derived.Test.YtppphelihimidaaOpenI
import Derived.Test.YtppphelihimidaaOrd
import Derived.Deep.RegionHeld3
import Derived.Deep.DeepCutAuto
import Derived.Deep.CutRange
import Derived.Deep.CutBlock
namespace Go.Proofs.Ytppphelihimidaa
open Go.RowKit
set_option linter.unusedVariables false
set_option linter.unusedSimpArgs false
attribute [local go_sem ↓] Go.wp_at_zero Go.wp_at_succ
/-- Behind k rounds. -/
def CkSt (w0 W : World) (p b n : Nat) (s : WrS) (rho : Int) (k : Nat) : Prop := ∃ cs ws, CkP w0 W p s b n cs ws ∧ WsOk ws rho ∧ (∀ j, cs.getD j 0 ≤ k) ∧ s.rho = rho
theorem CkSt.same {w0 W W' : World} {p b n : Nat} {s : WrS} {rho : Int} {k : Nat} (h : CkSt w0 W p b n s rho k) (hs : Same W W') : CkSt w0 W' p b n s rho k := by
  obtain ⟨cs, ws, h1, h2, h3, h4⟩ := h
  exact ⟨cs, ws, h1.same hs, h2, h3, h4⟩
theorem wsOk_zero (n : Nat) (rho : Int) (h : 1 ≤ rho) : WsOk (List.replicate n 0) rho := ⟨Near.zero n rho h, fun j => by rw [zeros_get]; omega⟩
theorem WsOk.of {w0 W : World} {p : Nat} {s : WrS} {cs : List Int} (h : Clk w0 W p s cs) : WsOk cs s.rho := ⟨h.2.2.2.1, h.2.2.1.2.2.2.2⟩
theorem may_says {cs : List Int} {rho : Int} (h : CkOk cs rho) (k : Nat) (hb : ∀ j, cs.getD j 0 ≤ k) (hk : k ≤ 300) : ∃ i : Nat, i < cs.length ∧ MayI cs rho i := by
  obtain ⟨i, h1, h2⟩ := may_some h fun j => by have := hb j; omega
  exact ⟨i, h1, by omega, by omega, by simpa using h2⟩
theorem any_or {Q1 Q2 Q3 : Prop} {r r2 rr : Bool} (h3 : Q3 ↔ (Q1 ∨ Q2)) (h1 : r = true ↔ Q1) (h2 : r2 = true ↔ Q2) (hrr : rr = true ↔ Q3) : (r || r2) = rr := by
  rw [h3, ← h1, ← h2] at hrr
  clear h1 h2 h3
  cases r <;> cases r2 <;> cases rr <;> simp at hrr ⊢
theorem may_next (cs : List Int) (rho : Int) (a : Nat) : (∃ j : Nat, j < a + 1 ∧ MayI cs rho j) ↔ ((∃ j : Nat, j < a ∧ MayI cs rho j) ∨ MayI cs rho a) := by
  constructor
  · rintro ⟨j, hj, hm⟩
    by_cases hja : j = a
    · subst hja; exact .inr hm
    · exact .inl ⟨j, by omega, hm⟩
  · rintro (⟨j, hj, hm⟩ | hm)
    · exact ⟨j, by omega, hm⟩
    · exact ⟨a, by omega, hm⟩
theorem bool_of (Q : Prop) : ∃ r : Bool, r = true ↔ Q := by
  by_cases h : Q
  · exact ⟨true, by simp [h]⟩
  · exact ⟨false, by simp [h]⟩
set_option maxRecDepth 100000 in
set_option maxHeartbeats 8000000 in
theorem worldClocks_walk (w : World) (n : Int) (hn : -9223372036854775808 ≤ n ∧ n ≤ 9223372036854775807) (rho : Int) (hrh : -9223372036854775808 ≤ rho ∧ rho ≤ 9223372036854775807)
    (vt : Value) (xt : List Int) (ht : NumsAt w vt xt) (fr : Int) (hfr : -9223372036854775808 ≤ fr ∧ fr ≤ 9223372036854775807) :
    Calls Try.prog 3 #[.int .i64 n, .int .i64 rho, vt, .int .i64 fr] w fun e w' => e = .returned (.bool true) ∧ Same w w' := by
  have HC1 := Lib.hid (count_any n 5 w (by decide) (by decide) hn.1 hn.2)
  have HC2 := Lib.hid (count_any rho 20 w (by decide) (by decide) hrh.1 hrh.2)
  obtain ⟨l1, l2⟩ : 0 ≤ n % 5 ∧ n % 5 < 5 := ⟨Int.emod_nonneg _ (by decide), Int.emod_lt_of_pos _ (by decide)⟩
  obtain ⟨r1, r2⟩ : 0 ≤ rho % 20 ∧ rho % 20 < 20 := ⟨Int.emod_nonneg _ (by decide), Int.emod_lt_of_pos _ (by decide)⟩
  generalize n % 5 = N0 at HC1 l1 l2
  generalize rho % 20 = R0 at HC2 r1 r2
  obtain ⟨M, hM⟩ : ∃ M : Nat, 1 + N0 = M := ⟨(1 + N0).toNat, by omega⟩
  obtain ⟨R, hR⟩ : ∃ R : Nat, 1 + R0 = R := ⟨(1 + R0).toNat, by omega⟩
  have m1 : 1 ≤ M := by omega
  have m2 : M ≤ 5 := by omega
  have k1 : 1 ≤ R := by omega
  have k2 : R ≤ 20 := by omega
  have HNW := Lib.hid (wnew_any M R m1 m2 k1 (by omega) w)
  have hmk := fun w => run_make_row' (P := Try.prog) 28 2 (.int .i64 0) 8 Try.underlying28 (by kernel_rfl) rfl .i64 .i64 M (by omega) (by omega) w
  obtain ⟨A, cap, rfl, q1, q2, -⟩ := id ht
  have HT := Lib.hid ht
  obtain ⟨N, hN⟩ : ∃ N, N = xt.length := ⟨_, rfl⟩
  rw [← hN] at q1 ⊢
  have HN := Lib.hid hN
  clear hn hrh ht hN
  go_enter Try.func3, Try.ntmps3
  go_wp2_with fail
  refine HC1.out.mono ?_
  rintro e w1 ⟨rfl, rfl⟩
  go_wp2_with fail
  refine HC2.out.mono ?_
  rintro e w1 ⟨rfl, rfl⟩
  go_wp2_with fail
  clear hM hR l1 l2 r1 r2 HC1 HC2
  refine HNW.out.mono ?_
  rintro e w1 hnew
  obtain rfl := hnew.1
  have hck := Clk.new hnew m1 m2 k1 (by omega)
  generalize hs0 : (⟨(R : Int), .slice none 0 0, 0, .slice (some ⟨w.heap.size, 0, none⟩) M M, 0, 0, 0, false⟩ : WrS) = s at hck
  have hrho : s.rho = R := by rw [← hs0]
  have hrv : room s.vc = some w.heap.size := by rw [← hs0]; exact room_some _ _ _ _ (by omega)
  have hz1 := hck.1.lt
  have hz0 := hck.2.2.2.2.2.2.size
  have hOw := Own.lit w1 (madeCells #[Value.int .i64 0] M) 2 ((List.replicate M (0 : Int)).map nC) w1.heap.size M M 1 w.heap.size rfl hz0 (fun j u hj => by
    obtain ⟨hj1, hj2⟩ := List.getElem?_eq_some_iff.1 hj
    simp only [List.length_map, List.length_replicate] at hj1
    simp only [List.map_replicate, List.getElem_replicate] at hj2
    subst hj2
    simp [madeCells, hj1, Nat.mod_one, nC]) (by simp) (Nat.le_refl _) (by omega) (by simp [madeCells])
  have hst : CkSt w (w1.alloc (.cells (madeCells #[.int .i64 0] M) 2)) (w.heap.size + 1) w1.heap.size M s R 0 :=
    ⟨_, _, ⟨hck.same ((Upd.refl _ _).alloc _), hOw, fun e => by rw [hrv] at e; injection e with e; omega, by omega, by simp, by simp⟩, wsOk_zero M R (by omega), fun j => by rw [zeros_get]; decide, hrho⟩
  have HST := Lib.hid hst
  clear hck hs0 hrho hrv hOw hst hnew HNW
  generalize w.heap.size + 1 = p at HST hz1 ⊢
  go_wp2_with fail
  generalize w1.heap.size = bw at HST ⊢
  go_loopw [12] (fun v12 wr => ∃ k : Nat, k ≤ N ∧ k ≤ 300 ∧ v12 = .int .i64 k ∧ Hid (CkSt w wr p bw M s R k)) (fun v12 _ => N - (intOf v12).toNat)
  case atStart => exact ⟨0, by omega, by omega, rfl, HST.out⟩
  case round =>
    obtain ⟨k, hk, hk3, rfl, hT⟩ := hrel
    clear HST
    by_cases hlt : k < N ∧ k < 300
    · obtain ⟨hlt1, hlt2⟩ := hlt
      have g1 : (k : Int) < (N : Int) := by omega
      have g2 : (k : Int) < 300 := by omega
      go_upto_if 50 with (fail)
      go_cut [] from 38 to 117 (fun wx => CkSt w wx p bw M s R k)
      case first =>
        by_cases hf : (k : Int) = fr
        · have hfb : ((k : Int) == fr) = true := by simpa using hf
          rw [hfb]
          have H0 : Hid (∃ (cs ws : List Int), CkP w wr p s bw M cs (cs.take 0 ++ ws.drop 0) ∧ ws.length = cs.length ∧ (∀ j, cs.getD j 0 ≤ k) ∧ s.rho = R) := by
            obtain ⟨cs, ws, h1, h2, h3, h4⟩ := hT.out
            exact ⟨cs, ws, by simpa using h1, by rw [h1.2.2.2.2.1, h1.2.2.2.2.2], h3, h4⟩
          clear hT hf hfb
          go_wp2_with fail
          go_loopw [13] (fun v13 wx => ∃ j : Nat, j ≤ M ∧ v13 = .int .i64 j ∧ Hid (∃ (cs ws : List Int), CkP w wx p s bw M cs (cs.take j ++ ws.drop j) ∧ ws.length = cs.length ∧ (∀ j, cs.getD j 0 ≤ k) ∧ s.rho = R)) (fun v13 _ => M - (intOf v13).toNat)
          case atStart => exact ⟨0, by omega, rfl, H0.out⟩
          case round =>
            clear H0
            obtain ⟨j, hj, rfl, hJ⟩ := hrel
            obtain ⟨cs, ws, c1, c2, c3, c4⟩ := hJ.out
            by_cases hjM : j < M
            · have g3 : (j : Int) < (M : Int) := by omega
              have HCL := Lib.hid (clock_o c1.1 j (by have := c1.2.2.2.2.1; omega))
              have HCK := Lib.hid c1
              have HC2 := Lib.hid (And.intro c2 (And.intro c3 c4))
              obtain ⟨y, hy⟩ : ∃ y, y = cs.getD j 0 := ⟨_, rfl⟩
              rw [← hy] at HCL
              have HY := Lib.hid hy
              clear hJ c1 c2 c3 c4 hy
              go_wp2_with fail
              refine HCL.out.mono ?_
              rintro e w2 ⟨rfl, hs2⟩
              have hck := HCK.out.same hs2
              have x0 := hck.cell j hjM
              have hpt := hck.put j hjM y
              have f0 := hpt.2
              have HPT := Lib.hid hpt.1
              clear hs2 hck hpt
              go_wp2_with fail
              go_roundw
              case rel =>
                refine ⟨j + 1, by omega, by go_num, cs, ws, ?_, HC2.out.1, HC2.out.2.1, HC2.out.2.2⟩
                have := HPT.out
                rw [HY.out, mix_step cs ws j (by have := this.2.2.2.2.1; omega) HC2.out.1] at this
                rw [HY.out]
                exact this
              case measure => simp [intOf]; omega
            · obtain rfl : M = j := by omega
              have HE : Hid (CkSt w wr p bw M s R k) := by
                refine ⟨cs, cs, ?_, ?_, c3, c4⟩
                · have e : cs.take M ++ ws.drop M = cs := by rw [List.take_of_length_le (by rw [c1.2.2.2.2.1]; exact Nat.le_refl _), List.drop_eq_nil_of_le (by rw [c2, c1.2.2.2.2.1]; exact Nat.le_refl _), List.append_nil]
                  rw [e] at c1
                  exact c1
                · rw [← c4]; exact WsOk.of c1.1
              clear hJ c1 c2 c3 c4
              go_wp2_with fail
              go_meet
              exact HE.out
        · have hfb : ((k : Int) == fr) = false := by simpa using hf
          clear hf
          go_wp2_with fail
          go_meet
          exact hT.out
      case rest =>
        obtain ⟨cs, ws, c1, c2, c3, c4⟩ := hcut
        obtain ⟨A', cap', e0, _, _, hcells⟩ := HT.out.same c1.1.2.2.2.2.2.2
        injection e0 with e1 e2 e3
        subst e1
        obtain ⟨b, off, rfl, y0, yr⟩ := hcells k (by have := HN.out; omega)
        generalize xt.getD k 0 = z at y0 yr
        have HTK := Lib.hid (tick_o c1.1 z)
        have HC := Lib.hid (And.intro c1 (And.intro c2 (And.intro c3 c4)))
        clear hcells c1 c2 c3 c4 hT e2 e3
        go_wp2_with fail
        refine HTK.out.mono ?_
        rintro e w2 ⟨c, cs2, rfl, ht2⟩
        have HCP := Lib.hid (HC.out.1.ticked ht2)
        have HMO : Hid (∀ j, cs2.getD j 0 ≤ ((k + 1 : Nat) : Int)) := Lib.hid (fun j => by have := ht2.most HC.out.2.2.1 j; omega)
        have HWS := Lib.hid (And.intro HC.out.2.1 HC.out.2.2.2)
        clear ht2 HTK HC y0
        go_wp2_with fail
        go_loopw [14, 15] (fun v14 v15 wx => ∃ (a : Nat) (r : Bool), a ≤ M ∧ v15 = .int .i64 a ∧ v14 = .bool r ∧ Hid (CkP w wx p s bw M cs2 ws) ∧ Hid (r = true ↔ ∃ j : Nat, j < a ∧ MayI cs2 R j)) (fun _ v15 _ => M - (intOf v15).toNat)
        case atStart => exact ⟨0, false, by omega, rfl, rfl, HCP.out, Lib.hid ⟨fun e => (by cases e), fun ⟨j, hj, _⟩ => (by omega)⟩⟩
        case round =>
          clear HCP
          obtain ⟨a, r, ha, rfl, rfl, hP, hA⟩ := hrel
          by_cases haM : a < M
          · have g3 : (a : Int) < (M : Int) := by omega
            have HMY := Lib.hid (may_o hP.out.1 a)
            rw [HWS.out.2] at HMY
            obtain ⟨rr, hrr⟩ := bool_of (∃ j : Nat, j < a + 1 ∧ MayI cs2 R j)
            have HRR := Lib.hid hrr
            have HJJ := Lib.hid (fun (r2 : Bool) (h2 : r2 = true ↔ MayI cs2 R a) => any_or (may_next cs2 R a) hA.out h2 hrr)
            have HCA := Lib.hid (fun wx (hs : Same wr wx) => clock_o (hP.out.1.same hs) a (by have := hP.out.2.2.2.2.1; omega))
            clear hrr
            cases r
            case' true =>
              have hrt : rr = true := (HJJ.out _ (bool_of (MayI cs2 R a)).choose_spec).symm.trans (Bool.true_or _)
              subst hrt
              have HPX := Lib.hid hP.out
              clear hP HMY
              go_wp2_with fail
            case' false =>
              go_wp2_with fail
              refine HMY.out.mono ?_
              rintro e w3 ⟨⟨r2, rfl, hr2⟩, hs3⟩
              have hrt : rr = r2 := (HJJ.out _ hr2).symm.trans (Bool.false_or _)
              subst hrt
              have HPX := Lib.hid (hP.out.same hs3)
              clear hs3 hP HMY hr2
              go_wp2_with fail
            all_goals
              clear HJJ HCA hA
              go_loopw [16] (fun v16 wy => ∃ b' : Nat, b' ≤ M ∧ v16 = .int .i64 b' ∧ Hid (CkP w wy p s bw M cs2 ws)) (fun v16 _ => M - (intOf v16).toNat)
              case atStart => exact ⟨0, by omega, rfl, HPX.out⟩
              case round =>
                clear HPX
                obtain ⟨b', hb', rfl, hP⟩ := hrel
                by_cases hbM : b' < M
                · have g4 : (b' : Int) < (M : Int) := by omega
                  have hl1 : cs2.length = M := hP.out.2.2.2.2.1
                  have hl2 : ws.length = M := hP.out.2.2.2.2.2
                  have HCA := Lib.hid (fun wx (hs : Same wr wx) => clock_o (hP.out.1.same hs) a (by omega))
                  have HCB := Lib.hid (fun wx (hs : Same wr wx) => clock_o (hP.out.1.same hs) b' (by omega))
                  have hnr : Near cs2 R := by rw [← HWS.out.2]; exact hP.out.1.2.2.2.1
                  have hd1 := hnr a b' (by omega) (by omega)
                  have hd2 := apart_law hnr HWS.out.1.1 (by omega) (a := a) (b := b') (by omega) (by omega)
                  obtain ⟨a1, a2⟩ := hP.out.1.2.2.1.2.2.2.2 a
                  obtain ⟨b1, b2⟩ := hP.out.1.2.2.1.2.2.2.2 b'
                  obtain ⟨a3, a4⟩ := HWS.out.1.2 a
                  obtain ⟨b3, b4⟩ := HWS.out.1.2 b'
                  have xa := hP.out.cell a haM
                  have xb := hP.out.cell b' hbM
                  generalize cs2.getD a 0 = ya at HCA hd1 hd2 a1 a2
                  generalize cs2.getD b' 0 = yb at HCB hd1 hd2 b1 b2
                  generalize ws.getD a 0 = za at xa hd2 a3 a4
                  generalize ws.getD b' 0 = zb at xb hd2 b3 b4
                  clear hnr hl1 hl2
                  go_wp2_with fail
                  refine (HCA.out _ (Upd.refl _ _)).mono ?_
                  rintro e w5 ⟨rfl, hs5⟩
                  have HS5 := Lib.hid hs5
                  clear hs5
                  go_wp2_with fail
                  refine (HCB.out _ HS5.out).mono ?_
                  rintro e w6 ⟨rfl, hs6⟩
                  have HS6 := Lib.hid (Same.trans HS5.out hs6)
                  have x1 := HS6.out.cell xa (fun h => h)
                  have x2 := HS6.out.cell xb (fun h => h)
                  have g7 : decide ((R : Int) < ya - yb) = false := decide_eq_false (by omega)
                  have g8 : decide (2 * (R : Int) < ya - za - (yb - zb)) = false := decide_eq_false (by omega)
                  clear hs6 xa xb
                  go_wp2_with fail
                  refine wp_region_noPanic ?_
                  refine wp_region_need (fun w' => w'.cell? ⟨bw, a, none⟩ = some (.int .i64 za) ∧ w'.cell? ⟨bw, b', none⟩ = some (.int .i64 zb)) (fun _ => true) (by kernel_rfl) (fun hcl => ?_)
                  have hS0 : (fun w' => w'.cell? ⟨bw, a, none⟩ = some (.int .i64 za) ∧ w'.cell? ⟨bw, b', none⟩ = some (.int .i64 zb)) w6.drew := ⟨(Upd.refl (fun _ => False) _).drew.cell x1 (fun h => h), (Upd.refl (fun _ => False) _).drew.cell x2 (fun h => h)⟩
                  refine wpAnyN_take (i := 0) (v := ?_) rfl (by kernel_rfl) (by kernel_rfl) (by kernel_rfl) (by kernel_rfl) (fun _ _ _ h => h) (by assumption) hS0 (Or.inl ⟨by rfl, ?_⟩) (fun hcl0 => ?_)
                  rotate_left
                  · (intro wS hSw; (try dsimp only at hSw); go_simp; (try with_reducible rfl))
                  clear hcl
                  try simp only [Act.put, List.getElem_toArray, List.getElem_cons_succ, List.getElem_cons_zero, List.setIfInBounds_toArray, List.set_cons_zero, List.set_cons_succ]
                  refine wpAnyN_take (i := 1) (v := ?_) rfl (by kernel_rfl) (by kernel_rfl) (by kernel_rfl) (by kernel_rfl) (fun _ _ _ h => h) (by assumption) hS0 (Or.inl ⟨by rfl, ?_⟩) (fun hcl1 => ?_)
                  rotate_left
                  · (intro wS hSw; (try dsimp only at hSw); go_simp; (try with_reducible rfl))
                  clear hcl0
                  try simp only [Act.put, List.getElem_toArray, List.getElem_cons_succ, List.getElem_cons_zero, List.setIfInBounds_toArray, List.set_cons_zero, List.set_cons_succ]
                  refine wpAnyN_take (i := 2) (v := ?_) rfl (by kernel_rfl) (by kernel_rfl) (by kernel_rfl) (by kernel_rfl) (fun _ _ _ h => h) (by assumption) hS0 (Or.inl ⟨by rfl, ?_⟩) (fun hcl2 => ?_)
                  rotate_left
                  · (intro wS hSw; (try dsimp only at hSw); go_simp; (try with_reducible rfl))
                  clear hcl1
                  try simp only [Act.put, List.getElem_toArray, List.getElem_cons_succ, List.getElem_cons_zero, List.setIfInBounds_toArray, List.set_cons_zero, List.set_cons_succ]
                  refine wpAnyN_take (i := 3) (v := ?_) rfl (by kernel_rfl) (by kernel_rfl) (by kernel_rfl) (by kernel_rfl) (fun _ _ _ h => h) (by assumption) hS0 (Or.inl ⟨by rfl, ?_⟩) (fun hcl3 => ?_)
                  rotate_left
                  · (intro wS hSw; (try dsimp only at hSw); go_simp; (try with_reducible rfl))
                  clear hcl2
                  try simp only [Act.put, List.getElem_toArray, List.getElem_cons_succ, List.getElem_cons_zero, List.setIfInBounds_toArray, List.set_cons_zero, List.set_cons_succ]
                  refine wpAnyN_take (i := 4) (v := ?_) rfl (by kernel_rfl) (by kernel_rfl) (by kernel_rfl) (by kernel_rfl) (fun _ _ _ h => h) (by assumption) hS0 (Or.inl ⟨by rfl, ?_⟩) (fun hcl4 => ?_)
                  rotate_left
                  · (intro wS hSw; (try dsimp only at hSw); go_simp; (try with_reducible rfl))
                  clear hcl3
                  try simp only [Act.put, List.getElem_toArray, List.getElem_cons_succ, List.getElem_cons_zero, List.setIfInBounds_toArray, List.set_cons_zero, List.set_cons_succ]
                  refine wpAnyN_take (i := 5) (v := ?_) rfl (by kernel_rfl) (by kernel_rfl) (by kernel_rfl) (by kernel_rfl) (fun _ _ _ h => h) (by assumption) hS0 (Or.inl ⟨by rfl, ?_⟩) (fun hcl5 => ?_)
                  rotate_left
                  · (intro wS hSw; (try dsimp only at hSw); go_simp; (try with_reducible rfl))
                  clear hcl4
                  try simp only [Act.put, List.getElem_toArray, List.getElem_cons_succ, List.getElem_cons_zero, List.setIfInBounds_toArray, List.set_cons_zero, List.set_cons_succ]
                  refine wpAnyN_take (i := 7) (v := ?_) rfl (by kernel_rfl) (by kernel_rfl) (by kernel_rfl) (by kernel_rfl) (fun _ _ _ h => h) (by assumption) hS0 (Or.inl ⟨by rfl, ?_⟩) (fun hcl7 => ?_)
                  rotate_left
                  · (intro wS hSw; (try dsimp only at hSw); go_simp; (try with_reducible rfl))
                  clear hcl5
                  try simp only [Act.put, List.getElem_toArray, List.getElem_cons_succ, List.getElem_cons_zero, List.setIfInBounds_toArray, List.set_cons_zero, List.set_cons_succ]
                  refine wpAnyN_take (i := 8) (v := ?_) rfl (by kernel_rfl) (by kernel_rfl) (by kernel_rfl) (by kernel_rfl) (fun _ _ _ h => h) (by assumption) hS0 (Or.inl ⟨by rfl, ?_⟩) (fun hcl8 => ?_)
                  rotate_left
                  · (intro wS hSw; (try dsimp only at hSw); go_simp; (try with_reducible rfl))
                  clear hcl7
                  try simp only [Act.put, List.getElem_toArray, List.getElem_cons_succ, List.getElem_cons_zero, List.setIfInBounds_toArray, List.set_cons_zero, List.set_cons_succ]
                  refine wpAnyN_take (i := 9) (v := ?_) rfl (by kernel_rfl) (by kernel_rfl) (by kernel_rfl) (by kernel_rfl) (fun _ _ _ h => h) (by assumption) hS0 (Or.inl ⟨by rfl, ?_⟩) (fun hcl9 => ?_)
                  rotate_left
                  · (intro wS hSw; (try dsimp only at hSw); go_simp; (try with_reducible rfl))
                  clear hcl8
                  try simp only [Act.put, List.getElem_toArray, List.getElem_cons_succ, List.getElem_cons_zero, List.setIfInBounds_toArray, List.set_cons_zero, List.set_cons_succ]
                  refine wpAnyN_take (i := 10) (v := ?_) rfl (by kernel_rfl) (by kernel_rfl) (by kernel_rfl) (by kernel_rfl) (fun _ _ _ h => h) (by assumption) hS0 (Or.inl ⟨by rfl, ?_⟩) (fun hcl10 => ?_)
                  rotate_left
                  · (intro wS hSw; (try dsimp only at hSw); go_simp; (try with_reducible rfl))
                  clear hcl9
                  try simp only [Act.put, List.getElem_toArray, List.getElem_cons_succ, List.getElem_cons_zero, List.setIfInBounds_toArray, List.set_cons_zero, List.set_cons_succ]
                  refine wpAnyN_take (i := 12) (v := ?_) rfl (by kernel_rfl) (by kernel_rfl) (by kernel_rfl) (by kernel_rfl) (fun _ _ _ h => h) (by assumption) hS0 (Or.inl ⟨by rfl, ?_⟩) (fun hcl12 => ?_)
                  rotate_left
                  · (intro wS hSw; (try dsimp only at hSw); go_simp; (try with_reducible rfl))
                  clear hcl10
                  try simp only [Act.put, List.getElem_toArray, List.getElem_cons_succ, List.getElem_cons_zero, List.setIfInBounds_toArray, List.set_cons_zero, List.set_cons_succ]
                  refine wpAnyN_take (i := 13) (v := ?_) rfl (by kernel_rfl) (by kernel_rfl) (by kernel_rfl) (by kernel_rfl) (fun _ _ _ h => h) (by assumption) hS0 (Or.inl ⟨by rfl, ?_⟩) (fun hcl13 => ?_)
                  rotate_left
                  · (intro wS hSw; (try dsimp only at hSw); go_simp; (try with_reducible rfl))
                  clear hcl12
                  try simp only [Act.put, List.getElem_toArray, List.getElem_cons_succ, List.getElem_cons_zero, List.setIfInBounds_toArray, List.set_cons_zero, List.set_cons_succ]
                  refine wpAnyN_take (i := 15) (v := ?_) rfl (by kernel_rfl) (by kernel_rfl) (by kernel_rfl) (by kernel_rfl) (fun _ _ _ h => h) (by assumption) hS0 (Or.inl ⟨by rfl, ?_⟩) (fun hcl15 => ?_)
                  rotate_left
                  · (intro wS hSw; (try dsimp only at hSw); go_simp; (try with_reducible rfl))
                  clear hcl13
                  try simp only [Act.put, List.getElem_toArray, List.getElem_cons_succ, List.getElem_cons_zero, List.setIfInBounds_toArray, List.set_cons_zero, List.set_cons_succ]
                  refine wpAnyN_take (i := 16) (v := ?_) rfl (by kernel_rfl) (by kernel_rfl) (by kernel_rfl) (by kernel_rfl) (fun _ _ _ h => h) (by assumption) hS0 (Or.inl ⟨by rfl, ?_⟩) (fun hcl16 => ?_)
                  rotate_left
                  · (intro wS hSw; (try dsimp only at hSw); go_simp; (try with_reducible rfl))
                  clear hcl15
                  try simp only [Act.put, List.getElem_toArray, List.getElem_cons_succ, List.getElem_cons_zero, List.setIfInBounds_toArray, List.set_cons_zero, List.set_cons_succ]
                  refine wpAnyN_take (i := 17) (v := ?_) rfl (by kernel_rfl) (by kernel_rfl) (by kernel_rfl) (by kernel_rfl) (fun _ _ _ h => h) (by assumption) hS0 (Or.inl ⟨by rfl, ?_⟩) (fun hcl17 => ?_)
                  rotate_left
                  · (intro wS hSw; (try dsimp only at hSw); go_simp; (try with_reducible rfl))
                  clear hcl16
                  try simp only [Act.put, List.getElem_toArray, List.getElem_cons_succ, List.getElem_cons_zero, List.setIfInBounds_toArray, List.set_cons_zero, List.set_cons_succ]
                  refine wpAnyN_take (i := 18) (v := ?_) rfl (by kernel_rfl) (by kernel_rfl) (by kernel_rfl) (by kernel_rfl) (fun _ _ _ h => h) (by assumption) hS0 (Or.inl ⟨by rfl, ?_⟩) (fun hcl18 => ?_)
                  rotate_left
                  · (intro wS hSw; (try dsimp only at hSw); go_simp; (try with_reducible rfl))
                  clear hcl17
                  try simp only [Act.put, List.getElem_toArray, List.getElem_cons_succ, List.getElem_cons_zero, List.setIfInBounds_toArray, List.set_cons_zero, List.set_cons_succ]
                  refine wpAnyN_take (i := 21) (v := ?_) rfl (by kernel_rfl) (by kernel_rfl) (by kernel_rfl) (by kernel_rfl) (fun _ _ _ h => h) (by assumption) hS0 (Or.inl ⟨by rfl, ?_⟩) (fun hcl21 => ?_)
                  rotate_left
                  · (intro wS hSw; (try dsimp only at hSw); go_simp; (try with_reducible rfl))
                  clear hcl18
                  try simp only [Act.put, List.getElem_toArray, List.getElem_cons_succ, List.getElem_cons_zero, List.setIfInBounds_toArray, List.set_cons_zero, List.set_cons_succ]
                  refine wpAnyN_take (i := 22) (v := ?_) rfl (by kernel_rfl) (by kernel_rfl) (by kernel_rfl) (by kernel_rfl) (fun _ _ _ h => h) (by assumption) hS0 (Or.inl ⟨by rfl, ?_⟩) (fun hcl22 => ?_)
                  rotate_left
                  · (intro wS hSw; (try dsimp only at hSw); go_simp; (try with_reducible rfl))
                  clear hcl21
                  try simp only [Act.put, List.getElem_toArray, List.getElem_cons_succ, List.getElem_cons_zero, List.setIfInBounds_toArray, List.set_cons_zero, List.set_cons_succ]
                  refine wpAnyN_oneC (i := 6) (by kernel_rfl) rfl (by assumption) (fun hcl6 K' hK' => ?_)
                  clear hcl22
                  go_simp
                  go_at_call 9
                  refine (HCA.out _ HS6.out.drew).mono ?_
                  rintro e w7 ⟨rfl, hs7⟩
                  have hS1 : (fun w' => w'.cell? ⟨bw, a, none⟩ = some (.int .i64 za) ∧ w'.cell? ⟨bw, b', none⟩ = some (.int .i64 zb)) w7 := ⟨hs7.cell hS0.1 (fun h => h), hs7.cell hS0.2 (fun h => h)⟩
                  have HS7 := Lib.hid (Same.trans HS6.out.drew hs7)
                  clear hs7
                  refine hK'.out _ _ (fun _ => hS1) ?_
                  clear hK' K'
                  refine wpAnyN_take (i := 11) (v := ?_) rfl (by kernel_rfl) (by kernel_rfl) (by kernel_rfl) (by kernel_rfl) (fun _ _ _ h => h) (by assumption) hS1 (Or.inl ⟨by rfl, ?_⟩) (fun hcl11 => ?_)
                  rotate_left
                  · (intro wS hSw; (try dsimp only at hSw); go_simp; (try with_reducible rfl))
                  clear hcl6
                  try simp only [Act.put, List.getElem_toArray, List.getElem_cons_succ, List.getElem_cons_zero, List.setIfInBounds_toArray, List.set_cons_zero, List.set_cons_succ]
                  refine wpAnyN_oneC (i := 14) (by kernel_rfl) rfl (by assumption) (fun hcl14 K' hK' => ?_)
                  clear hcl11
                  go_simp
                  go_at_call 9
                  refine (HCB.out _ HS7.out).mono ?_
                  rintro e w8 ⟨rfl, hs8⟩
                  have hS2 : (fun w' => w'.cell? ⟨bw, a, none⟩ = some (.int .i64 za) ∧ w'.cell? ⟨bw, b', none⟩ = some (.int .i64 zb)) w8 := ⟨hs8.cell hS1.1 (fun h => h), hs8.cell hS1.2 (fun h => h)⟩
                  have HS8 := Lib.hid (Same.trans HS7.out hs8)
                  clear hs8
                  refine hK'.out _ _ (fun _ => hS2) ?_
                  clear hK' K'
                  refine wpAnyN_take (i := 19) (v := ?_) rfl (by kernel_rfl) (by kernel_rfl) (by kernel_rfl) (by kernel_rfl) (fun _ _ _ h => h) (by assumption) hS2 (Or.inl ⟨by rfl, ?_⟩) (fun hcl19 => ?_)
                  rotate_left
                  · (intro wS hSw; (try dsimp only at hSw); go_simp; (try with_reducible rfl))
                  clear hcl14
                  try simp only [Act.put, List.getElem_toArray, List.getElem_cons_succ, List.getElem_cons_zero, List.setIfInBounds_toArray, List.set_cons_zero, List.set_cons_succ]
                  refine wpAnyN_take (i := 20) (v := ?_) rfl (by kernel_rfl) (by kernel_rfl) (by kernel_rfl) (by kernel_rfl) (fun _ _ _ h => h) (by assumption) hS2 (Or.inl ⟨by rfl, ?_⟩) (fun hcl20 => ?_)
                  rotate_left
                  · (intro wS hSw; (try dsimp only at hSw); go_simp; (try with_reducible rfl))
                  clear hcl19
                  try simp only [Act.put, List.getElem_toArray, List.getElem_cons_succ, List.getElem_cons_zero, List.setIfInBounds_toArray, List.set_cons_zero, List.set_cons_succ]
                  refine wpAnyN_take (i := 23) (v := ?_) rfl (by kernel_rfl) (by kernel_rfl) (by kernel_rfl) (by kernel_rfl) (fun _ _ _ h => h) (by assumption) hS2 (Or.inl ⟨by rfl, ?_⟩) (fun hcl23 => ?_)
                  rotate_left
                  · (intro wS hSw; (try dsimp only at hSw); go_simp; (try with_reducible rfl))
                  clear hcl20
                  try simp only [Act.put, List.getElem_toArray, List.getElem_cons_succ, List.getElem_cons_zero, List.setIfInBounds_toArray, List.set_cons_zero, List.set_cons_succ]
                  refine wpAnyN_take (i := 24) (v := ?_) rfl (by kernel_rfl) (by kernel_rfl) (by kernel_rfl) (by kernel_rfl) (fun _ _ _ h => h) (by assumption) hS2 (Or.inl ⟨by rfl, ?_⟩) (fun hcl24 => ?_)
                  rotate_left
                  · (intro wS hSw; (try dsimp only at hSw); go_simp; (try with_reducible rfl))
                  clear hcl23
                  try simp only [Act.put, List.getElem_toArray, List.getElem_cons_succ, List.getElem_cons_zero, List.setIfInBounds_toArray, List.set_cons_zero, List.set_cons_succ]
                  refine wpAnyN_done (by kernel_rfl) ?_ _
                  refine NoPanic.normal ?_
                  have HP8 := Lib.hid (hP.out.same HS8.out)
                  clear hP HCA HCB HS5 HS6 HS7 hS0 hS1 hS2 x1 x2
                  go_wp2_with fail
                  · exfalso
                    have h : IntKind.i64.wrap (2 * (R : Int)) < IntKind.i64.wrap (IntKind.i64.wrap (ya - za) - IntKind.i64.wrap (yb - zb)) := by assumption
                    simp only [IntKind.wrap_i64] at h
                    omega
                  · go_roundw
                    case rel => exact ⟨b' + 1, by omega, by go_num, HP8.out⟩
                    case measure => simp [intOf]; omega
                · obtain rfl : M = b' := by omega
                  go_wp2_with fail
                  go_roundw
                  case rel => exact ⟨a + 1, _, by omega, by go_num, rfl, hP.out, Lib.hid (by simpa using HRR.out)⟩
                  case measure => simp [intOf]; omega
          · obtain rfl : M = a := by omega
            have hlen : cs2.length = M := hP.out.2.2.2.2.1
            have hr : r = true := hA.out.2 (by
              have hok := hP.out.1.2.2.1
              rw [HWS.out.2] at hok
              obtain ⟨i, hi, hm⟩ := may_says hok (k + 1) HMO.out (by omega)
              exact ⟨i, by omega, hm⟩)
            subst hr
            have HE : Hid (CkSt w wr p bw M s R (k + 1)) := Lib.hid ⟨cs2, ws, hP.out, HWS.out.1, HMO.out, HWS.out.2⟩
            clear hP hA hlen
            go_wp2_with fail
            go_roundw
            case rel => exact ⟨k + 1, by omega, by omega, by go_num, HE.out⟩
            case measure => simp [intOf]; omega
    · have h1 : (k < N ∧ k = 300) ∨ N = k := by omega
      have HKN := Lib.hid known_any
      have HE : Hid (Same w wr) := Lib.hid (by obtain ⟨cs, ws, c1, -⟩ := hT.out; exact c1.1.2.2.2.2.2.2)
      clear hT
      rcases h1 with ⟨h1, rfl⟩ | rfl
      · have g1 : (300 : Int) < (N : Int) := by omega
        go_wp2_with fail
        refine (HKN.out _).mono ?_
        rintro r w8 ⟨rfl, hs8⟩
        have HS8 := Lib.hid hs8
        clear hs8
        go_wp2_with fail
        go_ret
        exact ⟨rfl, Same.trans HE.out HS8.out⟩
      · go_wp2_with fail
        refine (HKN.out _).mono ?_
        rintro r w8 ⟨rfl, hs8⟩
        have HS8 := Lib.hid hs8
        clear hs8
        go_wp2_with fail
        go_ret
        exact ⟨rfl, Same.trans HE.out HS8.out⟩
end Go.Proofs.Ytppphelihimidaa
