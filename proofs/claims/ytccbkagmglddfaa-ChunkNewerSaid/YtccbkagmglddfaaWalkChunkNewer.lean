/- The walk of ChunkNewer. -/
import Derived.Test.YtccbkagmglddfaaChkK
namespace Go.Proofs.Ytccbkagmglddfaa
open Go.RowKit
set_option linter.unusedVariables false
set_option linter.unusedSimpArgs false
set_option maxRecDepth 100000
set_option maxHeartbeats 8000000
theorem stC_congr {id : Int} {b : List UInt8} {size : Int} {D E : Nat → Bool} {a : Int} (h : ∀ k, k < splN b.length size → D k = E k) : stC id b size D a = stC id b size E a := by
  unfold stC stL
  congr 1
  refine List.map_congr_left fun k hk => ?_
  rw [h k (List.mem_range.1 hk)]
/-- The first k pieces are there. -/
theorem add_order {id size : Int} {b : List UInt8} (h : splE id b.length size = 0) {k : Nat} (hk : k < splN b.length size) (c : Cs) (a : Int) (hc : if k = 0 then c.id < id ∧ c.added = a else c = stC id b size (fun j => decide (j < k)) a) :
    c.addE (splP id b size k) = 0 ∧ c.add (splP id b size k) = stC id b size (fun j => decide (j < k + 1)) (a + 1) := by
  by_cases h0 : k = 0
  · subst h0
    rw [if_pos rfl] at hc
    have h1 := add_first h hk c hc.1
    refine ⟨h1.1, ?_⟩
    rw [h1.2, hc.2]
    refine stC_congr fun j hj => ?_
    apply decide_eq_decide.2
    omega
  · rw [if_neg h0] at hc
    subst hc
    have h1 := add_next h hk (fun j => decide (j < k)) a
    refine ⟨h1.1, ?_⟩
    rw [h1.2]
    refine stC_congr fun j hj => ?_
    rw [← Bool.decide_or]
    apply decide_eq_decide.2
    omega
theorem stC_id (id : Int) (b : List UInt8) (size : Int) (D : Nat → Bool) (a : Int) : (stC id b size D a).id = id := rfl
theorem stC_added (id : Int) (b : List UInt8) (size : Int) (D : Nat → Bool) (a : Int) : (stC id b size D a).added = a := rfl
/-- i pieces are there, in order; ahead of them whatever has a lesser id. -/
def NewS (w2 wr : World) (p : Nat) (id : Int) (b : List UInt8) (size : Int) (a0 : Int) (i : Nat) : Prop := ∃ c : Cs, Rdy w2 wr p c ∧ c.added = a0 + i ∧ if i = 0 then c.id < id else c = stC id b size (fun j => decide (j < i)) (a0 + i)
theorem NewS.step {w2 wr : World} {p : Nat} {id : Int} {b : List UInt8} {size : Int} {a0 : Int} {i : Nat} (h : NewS w2 wr p id b size a0 i) (he : splE id b.length size = 0) (hi : i < splN b.length size) (ha : 0 ≤ a0 ∧ a0 ≤ 10000) (hn : splN b.length size ≤ 256) (A : Option Addr) (cap : Nat) (hp : Bs wr (.slice A (splP id b size i).length cap) (splP id b size i)) :
    Calls Try.prog 12 #[.pointer (some ⟨p, 0, none⟩), .slice A (splP id b size i).length cap] wr fun e w' => e = .returned (.int .i64 0) ∧ Rdy w2 w' p (stC id b size (fun j => decide (j < i + 1)) (a0 + i + 1)) := by
  obtain ⟨c, hr, had, hc⟩ := h
  have hst := add_order he hi c (a0 + i) (by
    split at hc
    · rename_i h0; rw [if_pos h0]; exact ⟨hc, had⟩
    · rename_i h0; rw [if_neg h0]; exact hc)
  refine (hr.add (by omega) A cap _ hp (by have := splP_small he i; omega)).mono ?_
  rintro e w' ⟨rfl, h2⟩
  rw [hst.1]
  rw [hst.2] at h2
  exact ⟨rfl, h2⟩
theorem NewS.next {w2 wr : World} {p : Nat} {id : Int} {b : List UInt8} {size : Int} {a0 : Int} {i : Nat} (h : Rdy w2 wr p (stC id b size (fun j => decide (j < i + 1)) (a0 + i + 1))) : NewS w2 wr p id b size a0 (i + 1) := by
  have e : a0 + (i : Int) + 1 = a0 + ((i + 1 : Nat) : Int) := by omega
  rw [e] at h
  exact ⟨_, h, rfl, by rw [if_neg (by omega)]⟩
theorem chunkNewer_walk (w : World) (a : Int) (ha : -9223372036854775808 ≤ a ∧ a ≤ 9223372036854775807) (v : Value) (x : List UInt8) (hx : Bs w v x) (hxl : x.length ≤ 140737488351232) (b : Int) (hb : -9223372036854775808 ≤ b ∧ b ≤ 9223372036854775807) (u : Value) (y : List UInt8) (hy : Bs w u y) (hyl : y.length ≤ 140737488351232) (size : Int) (hs : -9223372036854775808 ≤ size ∧ size ≤ 9223372036854775807) :
    Calls Try.prog 4 #[.int .i64 a, v, .int .i64 b, u, .int .i64 size] w fun e w' => e = .returned (.bool true) ∧ Same w w' := by
  obtain ⟨A, ca, rfl, -⟩ := id hx
  obtain ⟨U, cu, rfl, -⟩ := id hy
  have HSX := Lib.hid (fun w0 hh => split_any a size A ca x w0 hh hxl ha hs)
  have HSY := Lib.hid (fun w0 hh => split_any b size U cu y w0 hh hyl hb hs)
  have HX := Lib.hid hx
  have HY := Lib.hid hy
  have HKN := Lib.hid (fun W => known07_any W)
  obtain ⟨Lx, hLx⟩ : ∃ L, L = x.length := ⟨_, rfl⟩
  obtain ⟨Ly, hLy⟩ : ∃ L, L = y.length := ⟨_, rfl⟩
  rw [← hLx] at HX HSX ⊢
  rw [← hLy] at HY HSY ⊢
  have HLX := Lib.hid hLx
  have HLY := Lib.hid hLy
  clear hx hy hLx hLy hxl hyl
  go_enter Try.func4, Try.ntmps4
  go_wp2_with fail
  refine (HSX.out _ HX.out).mono ?_
  rintro e w1 ⟨B1, n1, c1, rfl, ⟨ss, hss, hpc⟩, hs1⟩
  obtain ⟨E1, hE1⟩ : ∃ E, E = splE a Lx size := ⟨_, rfl⟩
  rw [← hE1]
  have HE1 := Lib.hid hE1
  have HS1 := Lib.hid hs1
  have HSS := Lib.hid hss
  have HPC := Lib.hid hpc
  clear hE1 hs1 hss hpc
  go_wp2_with fail
  refine (HSY.out _ (HY.out.same HS1.out)).mono ?_
  rintro e w2 ⟨B2, n2, c2, rfl, ⟨tt, htt, hqc⟩, hs2⟩
  obtain ⟨E2, hE2⟩ : ∃ E, E = splE b Ly size := ⟨_, rfl⟩
  rw [← hE2]
  have HE2 := Lib.hid hE2
  have HS2 := Lib.hid (Same.trans HS1.out hs2)
  have HTT := Lib.hid htt
  have HQC := Lib.hid (hqc.mono HS1.out.size)
  have HPC2 := Lib.hid (HPC.out.same hs2)
  clear hE2 hs2 htt hqc
  by_cases hgood : E1 = 0 ∧ E2 = 0 ∧ a < b
  · obtain ⟨h1, h2, hab⟩ := hgood
    subst h1 h2
    have heX : splE a x.length size = 0 := by rw [← HLX.out]; exact HE1.out.symm
    have heY : splE b y.length size = 0 := by rw [← HLY.out]; exact HE2.out.symm
    have hlx := splL_len heX
    have hly := splL_len heY
    obtain ⟨N1, hN1⟩ : ∃ N, N = splN x.length size := ⟨_, rfl⟩
    obtain ⟨N2, hN2⟩ : ∃ N, N = splN y.length size := ⟨_, rfl⟩
    have hn1 : n1 = N1 ∧ n1 ≤ c1 := by
      have h := HPC.out.len
      have h3 := congrArg List.length HSS.out
      rw [hlx, List.length_map] at h3
      omega
    have hn2 : n2 = N2 ∧ n2 ≤ c2 := by
      have h := HQC.out.len
      have h3 := congrArg List.length HTT.out
      rw [hly, List.length_map] at h3
      omega
    obtain ⟨rfl, hc1⟩ := hn1
    obtain ⟨rfl, hc2⟩ := hn2
    have hp1 : 1 ≤ n1 := by rw [hN1]; exact splN_pos _ _
    have hp2 : 1 ≤ n2 := by rw [hN2]; exact splN_pos _ _
    have hm1 : n1 ≤ 256 := by rw [hN1]; exact (splE_ok heX).2.2.2
    have hm2 : n2 ≤ 256 := by rw [hN2]; exact (splE_ok heY).2.2.2
    have hnab : ¬ b ≤ a := by omega
    have HN1 := Lib.hid hN1
    have HN2 := Lib.hid hN2
    have HEX := Lib.hid heX
    have HEY := Lib.hid heY
    have HIDA := Lib.hid (splE_ok heX).1
    clear heX heY hlx hly hN1 hN2 HE1 HE2
    go_wp2_with fail
    refine (Rdy.new w2).mono ?_
    rintro e w3 ⟨p, rfl, hr3⟩
    have HR3 := Lib.hid hr3
    clear hr3
    have hb1 : (((n1 : Nat) : Int) == 0) = false := by simp; omega
    have hb2 : (((n2 : Nat) : Int) == 0) = false := by simp; omega
    go_wp2_with fail
    have hst0 : NewS w2 w3 p a x size 0 0 := ⟨_, HR3.out, rfl, by rw [if_pos rfl]; have := HIDA.out.1; simp [Cs.none]; omega⟩
    have HST0 := Lib.hid hst0
    clear hst0
    go_loopw [16] (fun v16 wr => ∃ i : Nat, i ≤ n1 ∧ v16 = .int .i64 i ∧ Hid (NewS w2 wr p a x size 0 i)) (fun v16 _ => n1 - (intOf v16).toNat)
    case atStart => exact ⟨0, by omega, rfl, HST0.out⟩
    case round =>
      obtain ⟨i, hi, rfl, hin⟩ := hrel
      by_cases hlt : i < n1
      · have g1 : (i : Int) < (n1 : Int) := by omega
        have hiN : i < splN x.length size := by rw [← HN1.out]; exact hlt
        have hlow : LowK w2.heap.size w2 wr := by obtain ⟨c, hr, -⟩ := hin.out; exact hr.2.1
        obtain ⟨b1, o1, Ap, cp, rfl, xp, hbp⟩ := (HPC2.out.low (Nat.le_refl _) hlow).at_ (k := i) (by rw [HSS.out]; exact splL_get HEX.out hiN)
        have hstep := hin.out.step HEX.out hiN (by omega) (by rw [← HN1.out]; exact hm1) Ap cp hbp
        have HSTEP := Lib.hid hstep
        generalize (splP a x size i).length = Lp at xp HSTEP
        clear hiN hlow hbp hstep hin
        go_wp2_with fail
        refine HSTEP.out.mono ?_
        rintro e w4 ⟨rfl, hr4⟩
        have HN4 := Lib.hid (NewS.next hr4)
        clear hr4
        go_wp2_with fail
        go_roundw
        case rel => exact ⟨i + 1, by omega, by go_num, HN4.out⟩
        case measure => simp [intOf]; omega
      · obtain rfl : i = n1 := by omega
        have hst1 : NewS w2 wr p b y size (i : Int) 0 := by
          obtain ⟨c, hr, had, hc⟩ := hin.out
          rw [if_neg (by omega)] at hc
          refine ⟨c, hr, by omega, ?_⟩
          rw [if_pos rfl, hc]
          exact hab
        have HST1 := Lib.hid hst1
        clear hst1 hin
        go_wp2_with fail
        go_loopw [17] (fun v17 wr => ∃ k : Nat, k ≤ n2 ∧ v17 = .int .i64 k ∧ Hid (NewS w2 wr p b y size (i : Int) k)) (fun v17 _ => n2 - (intOf v17).toNat)
        case atStart => exact ⟨0, by omega, rfl, HST1.out⟩
        case round =>
          obtain ⟨k, hk, rfl, hin⟩ := hrel
          by_cases hlt2 : k < n2
          · have g1 : (k : Int) < (n2 : Int) := by omega
            have g2 : (0 : Int) < (i : Int) := by omega
            have g3 : 0 < i := by omega
            have hkN : k < splN y.length size := by rw [← HN2.out]; exact hlt2
            have h0N : 0 < splN x.length size := splN_pos _ _
            have hlow : LowK w2.heap.size w2 wr := by obtain ⟨c, hr, -⟩ := hin.out; exact hr.2.1
            obtain ⟨b1, o1, Ap, cp, rfl, xp, hbp⟩ := (HQC.out.low (Nat.le_refl _) hlow).at_ (k := k) (by rw [HTT.out]; exact splL_get HEY.out hkN)
            have hstep := hin.out.step HEY.out hkN (by omega) (by rw [← HN2.out]; exact hm2) Ap cp hbp
            have HSTEP := Lib.hid hstep
            obtain ⟨P0, hP0⟩ : ∃ P, P = splP a x size 0 := ⟨_, rfl⟩
            have hless : ∀ c : Cs, c.id = b → c.addE P0 = 5 ∧ c.add P0 = c := fun c hc => by
              have hrd := splP_reads HEX.out h0N
              rw [hP0]
              exact add_less (a := 0) hrd.1 (by rw [hrd.2.1, hc]; exact hab)
            have HLESS := Lib.hid hless
            have HP0 := Lib.hid hP0
            have HSM := Lib.hid (splP_small HEX.out 0)
            have HGX := Lib.hid (splL_get HEX.out h0N)
            rw [← HP0.out] at HGX HSM
            generalize (splP b y size k).length = Lp at xp HSTEP
            clear hkN h0N hlow hbp hstep hin hless hP0
            go_wp2_with fail
            refine HSTEP.out.mono ?_
            rintro e w4 ⟨rfl, hr4⟩
            have HR4 := Lib.hid hr4
            obtain ⟨b2, o2, Aq, cq, rfl, xq, hbq⟩ := (hr4.pcs HPC2.out).at_ (k := 0) (by rw [HSS.out]; exact HGX.out)
            simp only [Nat.add_zero] at xq
            have HBQ := Lib.hid hbq
            clear hr4 hbq xp
            go_wp2_with fail
            refine (HR4.out.add (by rw [stC_added]; omega) Aq cq P0 HBQ.out (by have := HSM.out; omega)).mono ?_
            rintro e w5 ⟨rfl, hr5⟩
            rw [(HLESS.out _ (stC_id _ _ _ _ _)).1]
            rw [(HLESS.out _ (stC_id _ _ _ _ _)).2] at hr5
            have HR5 := Lib.hid hr5
            have hbb : (b != b) = false := by simp
            clear hr5 xq
            go_wp2_with fail
            refine HR5.out.id.mono ?_
            rintro e w6 ⟨rfl, rfl⟩
            rw [stC_id]
            have HN6 := Lib.hid (NewS.next HR5.out)
            go_wp2_with fail
            go_roundw
            case rel => exact ⟨k + 1, by omega, by go_num, HN6.out⟩
            case measure => simp [intOf]; omega
          · obtain rfl : k = n2 := by omega
            have hfin : ∃ c, Rdy w2 wr p c ∧ c.whole = some y := by
              obtain ⟨c, hr, had, hc⟩ := hin.out
              rw [if_neg (by omega)] at hc
              refine ⟨c, hr, ?_⟩
              rw [hc]
              exact whole_all HEY.out (fun j hj => by rw [decide_eq_true_eq, HN2.out]; exact hj) _
            obtain ⟨cf, hrf, hwf⟩ := hfin
            have HRF := Lib.hid hrf
            have HWF := Lib.hid hwf
            clear hin hrf hwf
            go_wp2_with fail
            refine HRF.out.whole.mono ?_
            rintro e w7 ⟨A7, n7, c7, rfl, hf7, hs7, hr7⟩
            rw [HWF.out] at hf7 ⊢
            have HS7 := Lib.hid (Same.into HS2.out hr7.2.1 (fun j hj => Nat.le_trans HS2.out.size hj))
            have cv1 := conv_bs (P := Try.prog) (src := 22) (dst := 9) Try.underlying22 Try.underlying5 Try.underlying9 hf7.bs
            have cv2 := conv_bs (P := Try.prog) (src := 22) (dst := 9) Try.underlying22 Try.underlying5 Try.underlying9 (HY.out.same HS7.out)
            simp only [Option.isSome_some, Option.getD_some] at cv1 ⊢
            clear hf7 hs7 hr7
            go_wp2_with fail
            refine (HKN.out _).mono ?_
            rintro e wk ⟨rfl, hsk⟩
            have HSK := Lib.hid (Same.trans HS7.out hsk)
            clear hsk cv1 cv2
            go_wp2_with fail
            go_ret
            exact ⟨rfl, HSK.out⟩
  · have hbad : ¬ (E1 = 0 ∧ E2 = 0 ∧ a < b) := hgood
    clear hgood
    by_cases h1 : E1 = 0
    · subst h1
      by_cases h2 : E2 = 0
      · subst h2
        have hab : b ≤ a := by omega
        go_wp2_with fail
        refine (HKN.out _).mono ?_
        rintro e wk ⟨rfl, hsk⟩
        have HSK := Lib.hid (Same.trans HS2.out hsk)
        clear hsk
        go_wp2_with fail
        go_ret
        exact ⟨rfl, HSK.out⟩
      · have hb2 : (E2 != 0) = true := by simpa using h2
        clear h2 hbad
        go_wp2_with fail
        refine (HKN.out _).mono ?_
        rintro e wk ⟨rfl, hsk⟩
        have HSK := Lib.hid (Same.trans HS2.out hsk)
        clear hsk
        go_wp2_with fail
        go_ret
        exact ⟨rfl, HSK.out⟩
    · have hb1 : (E1 != 0) = true := by simpa using h1
      clear h1 hbad
      go_wp2_with fail
      refine (HKN.out _).mono ?_
      rintro e wk ⟨rfl, hsk⟩
      have HSK := Lib.hid (Same.trans HS2.out hsk)
      clear hsk
      go_wp2_with fail
      go_ret
      exact ⟨rfl, HSK.out⟩
end Go.Proofs.Ytccbkagmglddfaa
