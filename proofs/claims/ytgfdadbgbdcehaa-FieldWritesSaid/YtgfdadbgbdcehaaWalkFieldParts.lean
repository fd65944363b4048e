/- The walk of FieldParts. -/
import Derived.Test.YtgfdadbgbdcehaaKnown02
import Derived.Test.YtgfdadbgbdcehaaCutR
namespace Go.Proofs.Ytgfdadbgbdcehaa
open Go.RowKit
set_option linter.unusedVariables false
set_option linter.unusedSimpArgs false

/-- What was added is cut off. -/
theorem add_cut (bs ps : List UInt8) (size : Int) (h : addE size ps.length = 0) :
    bs.length < (addL bs size ps).length ∧ ((addL bs size ps).drop bs.length).length ≤ 140737488351232 ∧ cutE ((addL bs size ps).drop bs.length) size = 0 ∧ cutP ((addL bs size ps).drop bs.length) size = ps ∧ cutR ((addL bs size ps).drop bs.length) size = [] := by
  unfold addE at h
  cases ht : rightB size with
  | false => rw [ht] at h; simp at h
  | true =>
    rw [ht] at h
    cases ho : addOk size ps.length with
    | false => rw [ho] at h; simp at h
    | true =>
      have hf : ps.length ≤ 65536 ∧ fitsB ps.length size = true := by simpa [addOk] using ho
      have hs : size = 1 ∨ size = 2 ∨ size = 4 := by simpa [rightB] using ht
      have hL : addL bs size ps = bs ++ (numB ps.length size.toNat ++ ps) := by unfold addL; rw [ht, ho]; simp
      have hfl : (ps.length : Int) < 256 ^ size.toNat := by simpa [fitsB] using hf.2
      have hD : (addL bs size ps).drop bs.length = numB ps.length size.toNat ++ ps := by rw [hL, List.drop_left]
      have hV : cutV (numB ps.length size.toNat ++ ps) size = ps.length := by
        unfold cutV
        rw [List.take_append_of_le_length (by rw [numB_length]; exact Nat.le_refl _), List.take_of_length_le (by rw [numB_length]; exact Nat.le_refl _)]
        exact valB_numB _ _ (by omega) hfl
      have hX : cutE (numB ps.length size.toNat ++ ps) size = 0 := by
        unfold cutE
        rw [ht, if_pos rfl, hV, List.length_append, numB_length, if_neg (by omega), if_neg (by omega), if_neg (by omega)]
      rw [hD]
      refine ⟨by rw [hL, List.length_append, List.length_append, numB_length]; omega, by rw [List.length_append, numB_length]; omega, hX, ?_, ?_⟩
      · unfold cutP
        rw [if_pos hX, hV, List.drop_append_of_le_length (by rw [numB_length]; exact Nat.le_refl _), List.drop_of_length_le (by rw [numB_length]; exact Nat.le_refl _), List.nil_append, Int.toNat_natCast, List.take_of_length_le (Nat.le_refl _)]
      · unfold cutR
        rw [if_pos hX, hV]
        exact List.drop_of_length_le (by rw [List.length_append, numB_length]; omega)
theorem addL_le (bs ps : List UInt8) (size : Int) (hp : ps.length ≤ 140737488351232) : (addL bs size ps).length ≤ bs.length + 65540 := by
  unfold addL
  cases ht : rightB size with
  | false => simp
  | true =>
    cases ho : addOk size ps.length with
    | false => simp
    | true =>
      have hf : ps.length ≤ 65536 ∧ fitsB ps.length size = true := by simpa [addOk] using ho
      have hs : size = 1 ∨ size = 2 ∨ size = 4 := by simpa [rightB] using ht
      simp [numB_length]
      omega
theorem cutP_le (bs : List UInt8) (size : Int) : (cutP bs size).length ≤ bs.length := by unfold cutP; split <;> simp; omega
theorem cutR_le (bs : List UInt8) (size : Int) : (cutR bs size).length ≤ bs.length := by unfold cutR; split <;> simp
set_option maxRecDepth 10000 in
set_option maxHeartbeats 1000000 in
theorem fieldParts_walk (w : World) (v : Value) (bs : List UInt8) (h : Bs w v bs) (hl : bs.length ≤ 140737488351232) (s : Int) (hsz : (Lit.int .i64 s).wf = true) (u : Value) (ps : List UInt8) (hu : Bs w u ps) (hl2 : ps.length ≤ 140737488351232) :
    Calls Try.prog 6 #[v, .int .i64 s, u] w fun e w' => e = .returned (.bool true) ∧ Same w w' := by
  replace hsz := bounds_i64 hsz
  have p1 := fun v w h hu => add_bs v u bs ps s w h hu hl hl2
  have p2 := fun w h hu => radd_bs v u bs ps s w h hu hl hl2
  have p3 := fun v w h => Cut_bs v bs s w h hl hsz.1 hsz.2
  have p4 := fun w h => rCut_bs v bs s w h hl hsz.1 hsz.2
  have hac := add_cut bs ps s
  have hXl := cutP_le bs s
  have hYl := cutR_le bs s
  have hAl := addL_le bs ps s hl2
  have cvs := fun (w : World) (v : Value) (bs : List UInt8) (h : Bs w v bs) => conv_bs (P := Try.prog) (src := 28) (dst := 9) Try.underlying28 Try.underlying5 Try.underlying9 h
  generalize addE s ps.length = X1 at p1 p2 hac
  generalize addL bs s ps = X2 at p1 p2 hac hAl
  generalize cutE bs s = X3 at p3 p4
  generalize cutP bs s = X4 at p3 p4 hXl
  generalize cutR bs s = X5 at p3 p4 hYl
  have e2 : eqB X2 X2 = true := eqB_true rfl
  have e4 : eqB X4 X4 = true := eqB_true rfl
  have e5 : eqB X5 X5 = true := eqB_true rfl
  have P1 := Lib.hid p1
  have P2 := Lib.hid p2
  have P3 := Lib.hid p3
  have P4 := Lib.hid p4
  have CV := Lib.hid cvs
  have HAC := Lib.hid hac
  clear p1 p2 p3 p4 cvs hac
  obtain ⟨A, cap, rfl, k1, k2, _⟩ := id h
  go_enter Try.func6, Try.ntmps6
  go_wp2_with fail
  refine (lent_bs _ bs w h hl).mono ?_
  rintro e w1 ⟨v1, rfl, hv1, hs1⟩
  go_wp2_with fail
  refine (P1.out v1 w1 hv1.bs (hu.same hs1)).mono ?_
  rintro e w2 ⟨v2, rfl, hv2, hs2⟩
  have hs02 := Same.trans hs1 hs2
  go_wp2_with fail
  refine (P2.out w2 (h.same hs02) (hu.same hs02)).mono ?_
  rintro e w3 ⟨v3, rfl, hv3, hs3⟩
  have hs03 := Same.trans hs02 hs3
  go_wp2_with fail
  refine (P3.out v1 w3 ((hv1.same hs2).same hs3).bs).mono ?_
  rintro e w4 ⟨v4, v5, rfl, hv4, hv5, hs4, hne⟩
  have hs04 := Same.trans hs03 hs4
  go_wp2_with fail
  refine (P4.out w4 (h.same hs04)).mono ?_
  rintro e w5 ⟨v6, v7, rfl, hv6, hv7, hs5⟩
  have hs05 := Same.trans hs04 hs5
  have hv15 := (((hv1.same hs2).same hs3).same hs4).same hs5
  have hv25 := ((hv2.same hs3).same hs4).same hs5
  have hc2 := CV.out w5 v2 _ hv25.bs
  have hc3 := CV.out w5 v3 _ ((hv3.same hs4).same hs5).bs
  have hc4 := CV.out w5 v4 _ (hv4.same hs5).bs
  have hc5 := CV.out w5 v5 _ (hv5.same hs5).bs
  have hc6 := CV.out w5 v6 _ hv6.bs
  have hc7 := CV.out w5 v7 _ hv7.bs
  have hz1 := hs1.size
  have hz2 := hs2.size
  have hz3 := hs3.size
  have hz4 := hs4.size
  have hz5 := hs5.size
  go_wp2_with fail
  refine (kept_bs v1 _ bs w5 hv15 (h.same hs05) hl).mono ?_
  rintro e w' ⟨rfl, rfl⟩
  go_wp2_with fail
  refine (spoil_bs v4 X4 w5 (hv4.same hs5) (by omega) (by omega)).mono ?_
  rintro e w6 ⟨rfl, hu6⟩
  have hv56 : Fresh w3.heap.size w6 v5 X5 := (hv5.same hs5).upd hu6 fun k e1 e2 => hne k e2 e1
  go_wp2_with fail
  refine (spoil_bs v5 X5 w6 hv56 (by have := hu6.size; omega) (by omega)).mono ?_
  rintro e w7 ⟨rfl, hu7⟩
  have hu57 : Upd (fun k => room v4 = some k ∨ room v5 = some k) w5 w7 := (hu6.mono fun i _ e => .inl e).trans hu7 fun i _ e => .inr e
  have hge : ∀ k, (room v4 = some k ∨ room v5 = some k) → w3.heap.size ≤ k := fun k e => by
    rcases e with e | e
    · exact (hv4.ge k e).1
    · exact (hv5.ge k e).1
  have hv17 : Lentd w.heap.size w7 v1 bs := hv15.upd hu57 fun k e1 e2 => by
    have h1 := (hv1.room k e1).2
    have h2 := hge k e2
    omega
  have hv27 : Fresh w1.heap.size w7 v2 X2 := hv25.upd hu57 fun k e1 e2 => by
    have h1 := (hv2.ge k e1).2
    have h2 := hge k e2
    omega
  have hs07 : Same w w7 := Same.into hs05 hu57 fun k e => by
    have h2 := hge k e
    omega
  clear hc2 hc3 hc4 hc5 hc6 hc7 hv15 hv25 hv3 hv4 hv5 hv6 hv7 hu6 hu7 hu57 hge hne hv56 hs05 hs04 hs03 hs02
  by_cases he : X1 = 0
  · obtain ⟨b1, b2, b3, b4, b5⟩ := HAC.out he
    obtain ⟨A2, n2, cap2, rfl, r1, r2, r3, r4⟩ := id hv27
    have hn2 : X2.length = n2 := by simpa using r1
    have hd := hv27.bs.drop bs.length (by omega)
    rw [if_neg (by omega)] at hd
    have p5 := Cut_bs _ (X2.drop bs.length) s w7 hd b2 hsz.1 hsz.2
    rw [b3, b4, b5] at p5
    obtain ⟨b', off', rfl⟩ := Fresh.addr hv27 (by omega)
    simp only [Option.map_some, Addr.add_lit] at p5
    have P5 := Lib.hid p5
    have hlt : bs.length < n2 := by omega
    have hle : bs.length ≤ n2 := by omega
    have hcc : ¬ cap2 = bs.length := by omega
    have e6 : eqB ps ps = true := eqB_true rfl
    have HD := Lib.hid hd
    subst he
    clear r1 r4 hn2 b1 b2 b3 b4 b5 p5 HAC hd hv27 hv2
    go_wp2_with fail
    refine P5.out.mono ?_
    rintro e w8 ⟨v8, v9, rfl, hv8, hv9, hs8, _⟩
    have hc8 := CV.out w8 v8 _ hv8.bs
    have hc9 := CV.out w8 u _ ((hu.same hs07).same hs8)
    obtain ⟨A9, cap9, rfl, _, _, _⟩ := hv9.bs
    have HV8 := Lib.hid hv8
    have HV9 := Lib.hid hv9
    clear hv8 hv9
    have hs08 := Same.trans hs07 hs8
    go_wp2_with fail
    refine (kept_bs v1 _ bs w8 (hv17.same hs8) (h.same hs08) hl).mono ?_
    rintro e w' ⟨rfl, rfl⟩
    go_wp2_with fail
    refine (known02_any w8).mono ?_
    rintro e w9 ⟨rfl, hs9⟩
    go_wp2_with fail
    go_ret
    exact ⟨rfl, Same.trans hs08 hs9⟩
  · clear hv2 hv27
    go_wp2_with fail
    refine (kept_bs v1 _ bs w7 hv17 (h.same hs07) hl).mono ?_
    rintro e w' ⟨rfl, rfl⟩
    go_wp2_with fail
    refine (known02_any w7).mono ?_
    rintro e w8 ⟨rfl, hs8⟩
    go_wp2_with fail
    go_ret
    exact ⟨rfl, Same.trans hs07 hs8⟩
end Go.Proofs.Ytgfdadbgbdcehaa
