/- The walk of ChunkSizes. -/
import Derived.Test.YtccbkagmglddfaaChkK
namespace Go.Proofs.Ytccbkagmglddfaa
open Go.RowKit
set_option linter.unusedVariables false
set_option linter.unusedSimpArgs false
set_option maxRecDepth 100000
set_option pp.maxSteps 300
set_option maxHeartbeats 16000000
/-- One operation of the quiet walk (the form with every argument open: `fun K hK => ?_` hangs at an operation that is not wanted). -/
macro "quiet_st" : tactic => `(tactic| (refine @wpQuiet_step _ _ _ _ _ _ _ ?_; intro K hK; go_simp; refine hK _ ?_; clear hK K))
theorem cn_two (p : List UInt8) (a : Nat) (h : a + 2 ≤ p.length) : cn p a 2 = at8 p a * 256 + at8 p (a + 1) := by
  have e : (p.drop a).take 2 = [p[a], p[a + 1]] := by
    refine List.ext_getElem (by simp; omega) fun i h1 h2 => ?_
    rw [List.getElem_take, List.getElem_drop]
    simp only [List.length_cons, List.length_nil] at h2
    rcases (show i = 0 ∨ i = 1 by omega) with rfl | rfl <;> rfl
  unfold cn
  rw [e]
  unfold at8
  rw [List.getD_eq_getElem?_getD, List.getD_eq_getElem?_getD, List.getElem?_eq_getElem (by omega), List.getElem?_eq_getElem (by omega)]
  simp [valB]
theorem cut_sum (b : List UInt8) (sz i : Nat) : (b.take ((i + 1) * sz)).length = (b.take (i * sz)).length + (cutAt b sz i).length := by
  have h := congrArg List.length (cuts_take b sz (i + 1))
  rw [List.range_succ, List.flatMap_append, List.length_append, cuts_take] at h
  simp only [List.flatMap_cons, List.flatMap_nil, List.append_nil] at h
  exact h.symm
theorem cut_full {b : List UInt8} {size : Int} (hs : 1 ≤ size) {i : Nat} (h : i + 1 < splN b.length size) : (cutAt b size.toNat i).length = size.toNat := by
  have h1 := splN_lt b.length size hs h (by omega)
  rw [Nat.add_mul, Nat.one_mul] at h1
  rw [cutAt_length]
  omega
theorem sizes_facts {id size : Int} {b : List UInt8} (he : splE id b.length size = 0) {i : Nat} (hi : i < splN b.length size) (P : List UInt8) (hP : P = splP id b size i) :
    22 ≤ P.length ∧ (P.length : Int) ≤ size + 22 ∧ P.length ≤ 5000 ∧ at8 P 8 * 256 + at8 P 9 = i ∧ at8 P 10 * 256 + at8 P 11 = splN b.length size ∧ (i + 1 < splN b.length size → (P.length : Int) = size + 22) ∧ (b.take ((i + 1) * size.toNat)).length = (b.take (i * size.toNat)).length + (P.length - 22) := by
  obtain ⟨h1, h2, h3, h4⟩ := splE_ok he
  obtain ⟨r0, r1, r2, r3, r4, r5⟩ := splP_reads he hi
  have hr := read_ok (readE_own r0).1
  have hl : P.length = 22 + (cutAt b size.toNat i).length := by rw [hP]; exact pieceL_length _ _ _ _ _
  have hcl := cutAt_length b size.toNat i
  rw [← hP] at r2 r3 hr
  obtain ⟨-, -, hk, hn, -⟩ := hr
  have e1 := cn_two P 8 (by omega)
  have e2 := cn_two P 10 (by omega)
  refine ⟨by omega, by omega, by omega, by rw [← e1, ← hk, r2], by rw [← e2, ← hn, r3], fun h => ?_, ?_⟩
  · rw [hl, cut_full h2.1 h]; omega
  · rw [cut_sum, hl]; omega
theorem chunkSizes_walk (w : World) (a : Int) (ha : -9223372036854775808 ≤ a ∧ a ≤ 9223372036854775807) (v : Value) (x : List UInt8) (hx : Bs w v x) (hxl : x.length ≤ 140737488351232) (size : Int) (hs : -9223372036854775808 ≤ size ∧ size ≤ 9223372036854775807) :
    Calls Try.prog 3 #[.int .i64 a, v, .int .i64 size] w fun e w' => e = .returned (.bool true) ∧ Same w w' := by
  obtain ⟨A, ca, rfl, -⟩ := id hx
  have HSX := Lib.hid (fun w0 hh => split_any a size A ca x w0 hh hxl ha hs)
  have HX := Lib.hid hx
  have HKN := Lib.hid (fun W => known07_any W)
  obtain ⟨Lx, hLx⟩ : ∃ L, L = x.length := ⟨_, rfl⟩
  rw [← hLx] at HX HSX ⊢
  have HLX := Lib.hid hLx
  clear hx hLx hxl
  go_enter Try.func3, Try.ntmps3
  go_wp2_with fail
  refine (HSX.out _ HX.out).mono ?_
  rintro e w1 ⟨B1, n1, c1, rfl, ⟨ss, hss, hpc⟩, hs1⟩
  obtain ⟨E1, hE1⟩ : ∃ E, E = splE a Lx size := ⟨_, rfl⟩
  rw [← hE1]
  have HE1 := Lib.hid hE1
  have HS1 := Lib.hid hs1
  have HSS := Lib.hid hss
  have HPC := Lib.hid hpc
  clear hE1 hs1 hss hpc
  by_cases h1 : E1 = 0
  · subst h1
    have heX : splE a x.length size = 0 := by rw [← HLX.out]; exact HE1.out.symm
    have hlx := splL_len heX
    obtain ⟨N1, hN1⟩ : ∃ N, N = splN x.length size := ⟨_, rfl⟩
    have hn1 : n1 = N1 ∧ n1 ≤ c1 := by
      have h := HPC.out.len
      have h3 := congrArg List.length HSS.out
      rw [hlx, List.length_map] at h3
      omega
    obtain ⟨rfl, hc1⟩ := hn1
    have hp1 : 1 ≤ n1 := by rw [hN1]; exact splN_pos _ _
    have hm1 : n1 ≤ 256 := by rw [hN1]; exact (splE_ok heX).2.2.2
    have hsz := (splE_ok heX).2.1
    have hLb : Lx ≤ 65536 := by rw [HLX.out]; exact (splE_ok heX).2.2.1
    have HN1 := Lib.hid hN1
    have HEX := Lib.hid heX
    clear heX hlx hN1 HE1
    obtain ⟨sz, rfl⟩ : ∃ sz : Nat, size = sz := ⟨size.toNat, by omega⟩
    go_wp2_with fail
    go_loopw [9, 10] (fun v9 v10 wr => ∃ i : Nat, i ≤ n1 ∧ v9 = .int .i64 ((x.take (i * sz)).length : Nat) ∧ v10 = .int .i64 i ∧ Hid (Same w1 wr)) (fun _ v10 _ => n1 - (intOf v10).toNat)
    case atStart => exact ⟨0, by omega, by simp, rfl, Upd.refl _ _⟩
    case round =>
      obtain ⟨i, hi, rfl, rfl, hin⟩ := hrel
      by_cases hlt : i < n1
      · have g1 : (i : Int) < (n1 : Int) := by omega
        have hiN : i < splN x.length sz := by rw [← HN1.out]; exact hlt
        obtain ⟨P, hP⟩ : ∃ P, P = splP a x sz i := ⟨_, rfl⟩
        obtain ⟨f1, f2, f3, f4, f5, f6, f7⟩ := sizes_facts HEX.out hiN P hP
        obtain ⟨b1, o1, Ap, cp, rfl, xp, hbp⟩ := (HPC.out.same hin.out).at_ (k := i) (by rw [HSS.out]; exact splL_get HEX.out hiN)
        rw [← hP] at xp hbp
        obtain ⟨ba, oa, hA, y8⟩ := hbp.at_ 8 (by omega)
        obtain ⟨_, _, e9, y9⟩ := hbp.at_ 9 (by omega)
        obtain ⟨_, _, e10, y10⟩ := hbp.at_ 10 (by omega)
        obtain ⟨_, _, e11, y11⟩ := hbp.at_ 11 (by omega)
        rw [hA] at e9 e10 e11
        injection e9 with e9
        injection e9 with e9 e9'
        injection e10 with e10
        injection e10 with e10 e10'
        injection e11 with e11
        injection e11 with e11 e11'
        subst e9 e9' e10 e10' e11 e11' hA
        have r8 := at8_range P 8
        have r9 := at8_range P 9
        have r10 := at8_range P 10
        have r11 := at8_range P 11
        rw [← HN1.out] at f5 f6
        rw [show ((sz : Int)).toNat = sz from rfl] at f7
        have hcp := hbp.capN.2
        obtain ⟨T1, hT1⟩ : ∃ T, T = (x.take ((i + 1) * sz)).length := ⟨_, rfl⟩
        rw [← hT1] at f7
        have hT1b : T1 ≤ 65536 := by rw [hT1, List.length_take]; have := HLX.out; omega
        have HT1 := Lib.hid hT1
        generalize at8 P 8 = w8 at y8 f4 r8
        generalize at8 P 9 = w9 at y9 f4 r9
        generalize at8 P 10 = w10 at y10 f5 r10
        generalize at8 P 11 = w11 at y11 f5 r11
        generalize P.length = Lp at xp f1 f2 f3 f6 f7 hcp
        generalize (x.take (i * sz)).length = T0 at f7 ⊢
        clear hT1 hiN hbp hP
        have f4b : ((w8 * 256 + w9) != (i : Int)) = false := by rw [f4]; simp
        have f5b : ((w10 * 256 + w11) != (n1 : Int)) = false := by rw [f5]; simp
        have x1 : IntKind.i64.wrap w8 = w8 := by rw [IntKind.wrap_i64]; omega
        have x2 : IntKind.i64.wrap w9 = w9 := by rw [IntKind.wrap_i64]; omega
        have x3 : IntKind.i64.wrap w10 = w10 := by rw [IntKind.wrap_i64]; omega
        have x4 : IntKind.i64.wrap w11 = w11 := by rw [IntKind.wrap_i64]; omega
        have x5 : IntKind.i64.wrap (w8 * 256) = w8 * 256 := by rw [IntKind.wrap_i64]; omega
        have x6 : IntKind.i64.wrap (w10 * 256) = w10 * 256 := by rw [IntKind.wrap_i64]; omega
        have x7 : IntKind.i64.wrap (w8 * 256 + w9) = w8 * 256 + w9 := by rw [IntKind.wrap_i64]; omega
        have x8 : IntKind.i64.wrap (w10 * 256 + w11) = w10 * 256 + w11 := by rw [IntKind.wrap_i64]; omega
        have x9 : IntKind.i64.wrap ((sz : Int) + 22) = (sz : Int) + 22 := by rw [IntKind.wrap_i64]; omega
        have x10 : IntKind.i64.wrap ((i : Int) + 1) = (i : Int) + 1 := by rw [IntKind.wrap_i64]; omega
        have i8 : (8 : Int) < (Lp : Int) := by omega
        have i9 : (9 : Int) < (Lp : Int) := by omega
        have i10 : (10 : Int) < (Lp : Int) := by omega
        have i11 : (11 : Int) < (Lp : Int) := by omega
        have hT0b : T0 ≤ 65536 := by omega
        have d1 : decide ((Lp : Int) < 22) = false := decide_eq_false (by omega)
        have d2 : decide ((sz : Int) + 22 < (Lp : Int)) = false := decide_eq_false (by omega)
        have HF := Lib.hid (And.intro f4 (And.intro f5 (And.intro f6 f7)))
        have hf7 : (T0 : Int) + (Lp : Int) - 22 = (T1 : Int) := by omega
        have HF7 := Lib.hid hf7
        have HIN := Lib.hid hin.out
        clear f4 f5 f7 hf7 hin
        by_cases hlast : i + 1 < n1
        · have f6' := f6 hlast
          have d3 : decide ((i : Int) + 1 < (n1 : Int)) = true := decide_eq_true (by omega)
          have d4 : ((Lp : Int) != (sz : Int) + 22) = false := by rw [f6']; simp
          clear f6 f6' hlast
          go_upto_region 9 with (fail)
          go_quiet (fail)
          go_wp2_with fail
          go_roundw
          case rel => exact ⟨i + 1, by omega, by rw [HF7.out, HT1.out], by go_num, HIN.out.drewN _⟩
          case measure => simp [intOf]; omega
        · have d3 : decide ((i : Int) + 1 < (n1 : Int)) = false := decide_eq_false (by omega)
          clear f6 hlast
          go_upto_region 9 with (fail)
          refine wp_region_quiet_lit (by kernel_rfl) (by kernel_rfl) ?_
          repeat quiet_st
          refine wpQuiet_nil ?_
          intro _ hw'
          obtain ⟨nq, hw''⟩ := hw'
          subst hw''
          go_wp2_with fail
          go_roundw
          case rel => exact ⟨i + 1, by omega, by rw [HF7.out, HT1.out], by go_num, HIN.out.drewN _⟩
          case measure => simp [intOf]; omega
      · obtain rfl : i = n1 := by omega
        have hT : (x.take (i * sz)).length = Lx := by
          have h := splN_le x.length sz hsz.1
          rw [← HN1.out, show ((sz : Int)).toNat = sz from rfl] at h
          rw [List.take_of_length_le h]
          exact HLX.out.symm
        rw [hT]
        have HS2 := Lib.hid (Same.trans HS1.out hin.out)
        have g2 : (0 : Int) < (i : Int) := by omega
        have g3 : 0 < i := by omega
        have g4 : (i : Int) ≤ 256 := by omega
        clear hT hin hlt
        go_wp2_with fail
        refine (HKN.out _).mono ?_
        rintro e wk ⟨rfl, hsk⟩
        have HSK := Lib.hid (Same.trans HS2.out hsk)
        clear hsk
        go_wp2_with fail
        go_ret
        exact ⟨rfl, HSK.out⟩
  · have hb1 : (E1 != 0) = true := by simpa using h1
    have hn0 : n1 = 0 := by
      have h := HPC.out.len
      have h3 := HSS.out
      have h4 : splL a x size = [] := by unfold splL; rw [if_neg (by rw [← HLX.out, ← HE1.out]; exact h1)]
      rw [h4] at h3
      have h5 : ss = [] := List.map_eq_nil_iff.1 h3
      rw [h5] at h
      exact h.1
    subst hn0
    clear h1
    go_wp2_with fail
    refine (HKN.out _).mono ?_
    rintro e wk ⟨rfl, hsk⟩
    have HSK := Lib.hid (Same.trans HS1.out hsk)
    clear hsk
    go_wp2_with fail
    go_ret
    exact ⟨rfl, HSK.out⟩
end Go.Proofs.Ytccbkagmglddfaa
