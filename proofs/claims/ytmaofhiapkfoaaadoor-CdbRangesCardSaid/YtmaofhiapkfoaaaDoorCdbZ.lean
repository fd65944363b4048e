/- The walks of PutKeys and Keys. -/
import Derived.Test.YtmaofhiapkfoaaaDoorCdbY
namespace Go.Proofs.YtmaofhiapkfoaaaDoor
open Go.RowKit
set_option linter.unusedVariables false
set_option linter.unusedSimpArgs false
set_option maxRecDepth 20000
set_option maxHeartbeats 1000000
theorem putKeys_any (key next : Int) (w : World) :
    Calls Tryd.prog 24 #[.int .u64 key, .int .u64 next] w fun e w' => ∃ v', e = .returned v' ∧ Fresh w.heap.size w' v' (keysL key next) ∧ Same w w' := by
  have hn0 := fun p v bs W (h : WObj w.heap.size W p v bs 0) hb hl => wnum_any p v bs 0 8 (i64w key) W h hb hl (i64w_range key).1 (i64w_range key).2
  have hn1 := fun p v bs W (h : WObj w.heap.size W p v bs 0) hb hl => wnum_any p v bs 0 8 (i64w next) W h hb hl (i64w_range next).1 (i64w_range next).2
  have hn2 := fun p v bs W (h : WObj w.heap.size W p v bs 0) hb hl => wnum_any p v bs 0 8 0 W h hb hl (by decide) (by decide)
  have HN0 := Lib.hid hn0
  have HN1 := Lib.hid hn1
  have HN2 := Lib.hid hn2
  clear hn0 hn1 hn2
  go_enter Tryd.func24, Tryd.ntmps24
  go_wp2_with fail
  refine (newWriter_any w).mono ?_
  rintro e w1 ⟨rfl, ho1, hs1⟩
  have hz1 := hs1.size
  go_wp2_with fail
  refine wp_loop_rounds 4 ?_
  rw [rounds_succ]
  go_wp2_with fail
  refine (HN0.out _ _ _ _ (ho1.upd (Upd.refl (fun _ => False) _ |>.alloc _) (fun _ _ h => h)) (by simp; omega) (by simp)).mono ?_
  rintro e w2 ⟨rfl, hg2⟩
  rw [wrL8, wrE8] at hg2
  have hB : ¬ foot w.heap.size (.slice none 0 0) w1.heap.size := by
    rintro (e | e)
    · have := ho1.2.1.lt; omega
    · simp [room] at e
  have hcells : ∀ j u, #[Value.int .u64 key, .int .u64 next, .int .u64 0][j]? = some u → (w1.alloc (.cells #[.int .u64 key, .int .u64 next, .int .u64 0] 22)).cell? ⟨w1.heap.size, j, none⟩ = some u := fun j u hj => by
    rw [cell_of_row _ _ j _ _ (0, 0) (heap_alloc_new w1 _)]
    exact hj
  obtain ⟨v2, ho2, hs2, hB2, hBs2, hc2⟩ := grew8 w1.heap.size (ho1.upd ((Upd.refl (fun _ => False) w1).alloc _) (fun _ _ h => h)) (hs1.alloc _) (Nat.le_refl _) hB (by simp) hg2
  have c1 := hc2 1 _ (hcells 1 _ rfl)
  have c2 := hc2 2 _ (hcells 2 _ rfl)
  have HO2 := Lib.hid ho2
  have HS2 := Lib.hid hs2
  have HB2 := Lib.hid hB2
  clear hg2 hB hcells ho2 hs2 hB2 hc2 ho1 hs1
  go_wp2_with fail
  rw [rounds_succ]
  go_wp2_with fail
  refine (HN1.out _ _ _ _ HO2.out HS2.out.size (by simp [numB_length])).mono ?_
  rintro e w3 ⟨rfl, hg3⟩
  rw [wrL8, wrE8] at hg3
  obtain ⟨v3, ho3, hs3, hB3, hBs3, hc3⟩ := grew8 w1.heap.size HO2.out HS2.out (Nat.le_refl _) HB2.out hBs2 hg3
  replace c2 := hc3 2 _ c2
  have HO3 := Lib.hid ho3
  have HS3 := Lib.hid hs3
  have HB3 := Lib.hid hB3
  clear hg3 ho3 hs3 hB3 hc3 HO2 HS2 HB2 c1
  go_wp2_with fail
  rw [rounds_succ]
  go_wp2_with fail
  refine (HN2.out _ _ _ _ HO3.out HS3.out.size (by simp [numB_length])).mono ?_
  rintro e w4 ⟨rfl, hg4⟩
  rw [wrL8, wrE8] at hg4
  obtain ⟨v4, ho4, hs4, hB4, hBs4, hc4⟩ := grew8 w1.heap.size HO3.out HS3.out (Nat.le_refl _) HB3.out hBs3 hg4
  have HO4 := Lib.hid ho4
  have HS4 := Lib.hid hs4
  clear hg4 ho4 hs4 hB4 hc4 HO3 HS3 HB3 c2
  go_wp2_with fail
  rw [rounds_succ]
  go_wp2_with fail
  refine (wend_any _ _ _ _ _ HO4.out HS4.out.size (by simp [numB_length])).mono ?_
  rintro e w5 ⟨v5, rfl, hf5, hs5⟩
  rw [if_pos rfl] at hf5
  have hL : ([] ++ numB (i64w key) 8 ++ numB (i64w next) 8 ++ numB 0 8) = keysL key next := by unfold keysL; rw [List.nil_append, numB_i64w key 8 (by omega), numB_i64w next 8 (by omega)]
  rw [hL] at hf5
  have HF5 := Lib.hid (hf5.mono HS4.out.size)
  have HS5 := Lib.hid (Same.trans HS4.out hs5)
  clear hf5 hs5 HO4
  go_wp2_with fail
  go_ret
  exact ⟨_, rfl, HF5.out, HS5.out⟩
theorem rputKeys_any (key next : Int) (w : World) :
    Calls Tryd.prog 27 #[.int .u64 key, .int .u64 next] w fun e w' => ∃ v', e = .returned v' ∧ Fresh w.heap.size w' v' (keysL key next) ∧ Same w w' := by
  have hn0 := fun p v bs W (h : WObj w.heap.size W p v bs 0) hb hl => rwnum_any p v bs 0 8 (i64w key) W h hb hl (i64w_range key).1 (i64w_range key).2
  have hn1 := fun p v bs W (h : WObj w.heap.size W p v bs 0) hb hl => rwnum_any p v bs 0 8 (i64w next) W h hb hl (i64w_range next).1 (i64w_range next).2
  have hn2 := fun p v bs W (h : WObj w.heap.size W p v bs 0) hb hl => rwnum_any p v bs 0 8 0 W h hb hl (by decide) (by decide)
  have HN0 := Lib.hid hn0
  have HN1 := Lib.hid hn1
  have HN2 := Lib.hid hn2
  have ho : WObj w.heap.size (w.alloc (.cells #[.slice none 0 0, .int .i64 0] 99)) w.heap.size (.slice none 0 0) [] 0 := ⟨Nat.le_refl _, Cell2.new w _ _ _ _ rfl, Fresh.nil _ _, by simp [room]⟩
  have HO1 := Lib.hid ho
  have HS1 := Lib.hid ((Upd.refl (fun _ => False) w).alloc (.cells #[.slice none 0 0, .int .i64 0] 99))
  clear hn0 hn1 hn2 ho
  go_enter Tryd.func27, Tryd.ntmps27
  go_wp2_with fail
  refine (HN0.out _ _ _ _ HO1.out (by simp) (by simp)).mono ?_
  rintro e w2 ⟨rfl, hg2⟩
  rw [wrL8, wrE8] at hg2
  obtain ⟨v2, ho2, u2, r2⟩ := hg2
  have HO2 := Lib.hid ho2
  have HS2 := Lib.hid (Same.into HS1.out u2 (fun k hk => (HO1.out.foot k hk).1))
  clear ho2 u2 r2 HO1 HS1
  go_wp2_with fail
  refine (HN1.out _ _ _ _ HO2.out HS2.out.size (by simp [numB_length])).mono ?_
  rintro e w3 ⟨rfl, hg3⟩
  rw [wrL8, wrE8] at hg3
  obtain ⟨v3, ho3, u3, r3⟩ := hg3
  have HO3 := Lib.hid ho3
  have HS3 := Lib.hid (Same.into HS2.out u3 (fun k hk => (HO2.out.foot k hk).1))
  clear ho3 u3 r3 HO2 HS2
  go_wp2_with fail
  refine (HN2.out _ _ _ _ HO3.out HS3.out.size (by simp [numB_length])).mono ?_
  rintro e w4 ⟨rfl, hg4⟩
  rw [wrL8, wrE8] at hg4
  obtain ⟨v4, ho4, u4, r4⟩ := hg4
  have HO4 := Lib.hid ho4
  have HS4 := Lib.hid (Same.into HS3.out u4 (fun k hk => (HO3.out.foot k hk).1))
  clear ho4 u4 r4 HO3 HS3
  go_wp2_with fail
  refine (rwend_any _ _ _ _ _ HO4.out HS4.out.size (by simp [numB_length])).mono ?_
  rintro e w5 ⟨v5, rfl, hf5, hs5⟩
  rw [if_pos rfl] at hf5
  have hL : ([] ++ numB (i64w key) 8 ++ numB (i64w next) 8 ++ numB 0 8) = keysL key next := by unfold keysL; rw [List.nil_append, numB_i64w key 8 (by omega), numB_i64w next 8 (by omega)]
  rw [hL] at hf5
  have HF5 := Lib.hid (hf5.mono HS4.out.size)
  have HS5 := Lib.hid (Same.trans HS4.out hs5)
  clear hf5 hs5 HO4
  go_wp2_with fail
  go_ret
  exact ⟨_, rfl, HF5.out, HS5.out⟩
theorem rn8 (bs : List UInt8) (h : 8 ≤ bs.length) : rnE 0 8 bs.length = 0 ∧ rnL bs 0 8 = bs.drop 8 ∧ rnN bs 0 8 = wrap64 (valB (bs.take 8)) := by
  have hE : rnE 0 8 bs.length = 0 := by unfold rnE; simp; omega
  refine ⟨hE, ?_, ?_⟩
  · unfold rnL; rw [if_pos hE]; rfl
  · unfold rnN; rw [if_pos hE]; rfl
theorem u64_back (x : Int) (h : 0 ≤ x ∧ x ≤ 18446744073709551615) : IntKind.u64.wrap (wrap64 x) = x := by
  rw [wrapU]
  unfold wrap64
  omega
theorem wrap0 (x : Int) (h : 0 ≤ x ∧ x ≤ 18446744073709551615) : (wrap64 x != 0) = !(x == 0) := by
  by_cases h0 : x = 0
  · subst h0; simp [wrap64]
  · have h1 : wrap64 x ≠ 0 := by unfold wrap64; omega
    have e1 : (wrap64 x != 0) = true := by simpa using h1
    have e2 : (x == 0) = false := by simpa using h0
    rw [e1, e2]
    rfl
theorem keys_any (v : Value) (bs : List UInt8) (w : World) (h : Bs w v bs) (hl : bs.length ≤ 140737488355328) :
    Calls Tryd.prog 25 #[v] w fun e w' => e = .returned (.tuple #[.int .u64 (keysN bs 0), .int .u64 (keysN bs 1), .int .i64 (keysE bs)]) ∧ Same w w' := by
  obtain ⟨A, cap, rfl, k1, k2, _⟩ := id h
  by_cases h24 : bs.length < 24
  · have hE : keysE bs = 10 := by unfold keysE; rw [if_pos h24]
    have hN : ∀ i, keysN bs i = 0 := fun i => by unfold keysN; rw [hE]; rfl
    rw [hE, hN 0, hN 1]
    have g0 : (bs.length : Int) < 24 := by omega
    clear hE hN h
    go_enter Tryd.func25, Tryd.ntmps25
    go_wp2_with fail
    go_ret3
    exact ⟨rfl, Upd.refl _ w⟩
  · have g0 : ¬ ((bs.length : Int) < 24) := by omega
    have hnew := newReader_any _ bs w h (by omega)
    have hnum := fun base p v bs W (h : WObj base W p v bs 0) hl => rnum_any (base := base) p v bs 0 8 W h hl (by decide) (by decide)
    obtain ⟨a1, a2, a3⟩ := rn8 bs (by omega)
    obtain ⟨b1, b2, b3⟩ := rn8 (bs.drop 8) (by simp; omega)
    obtain ⟨c1, c2, c3⟩ := rn8 ((bs.drop 8).drop 8) (by simp; omega)
    have e0 : bs.take 8 = (bs.drop (8 * 0)).take 8 := by simp
    have e2 : ((bs.drop 8).drop 8) = bs.drop (8 * 2) := by rw [List.drop_drop]
    have hlen3 : ((bs.drop (8 * 2)).drop 8).length = bs.length - 24 := by rw [List.length_drop, List.length_drop]; omega
    have hE : keysE bs = if kv bs 2 ≠ 0 ∨ 24 < bs.length then 11 else 0 := by unfold keysE; rw [if_neg h24]
    have r0 := kv_range bs 0
    have r1 := kv_range bs 1
    have r2 := kv_range bs 2
    have x0 : keysN bs 0 = if keysE bs = 0 then kv bs 0 else 0 := rfl
    have x1 : keysN bs 1 = if keysE bs = 0 then kv bs 1 else 0 := rfl
    rw [e0] at a3
    rw [e2] at c1 c2 c3
    have a3' : rnN bs 0 8 = wrap64 (kv bs 0) := a3
    have b3' : rnN (bs.drop 8) 0 8 = wrap64 (kv bs 1) := b3
    have c3' : rnN (bs.drop (8 * 2)) 0 8 = wrap64 (kv bs 2) := c3
    generalize keysN bs 0 = n0 at x0 ⊢
    generalize keysN bs 1 = n1 at x1 ⊢
    generalize keysE bs = E at hE x0 x1 ⊢
    generalize kv bs 0 = y0 at a3' x0 r0
    generalize kv bs 1 = y1 at b3' x1 r1
    generalize kv bs 2 = y2 at c3' hE r2
    have HNEW := Lib.hid hnew
    have HNUM := Lib.hid hnum
    have HA := Lib.hid (And.intro a1 (And.intro a2 a3'))
    have HB := Lib.hid (And.intro b1 (And.intro b2 b3'))
    have HC := Lib.hid (And.intro c1 (And.intro c2 c3'))
    have HE2 := Lib.hid e2
    have HLEN3 := Lib.hid hlen3
    have HE := Lib.hid hE
    have HX0 := Lib.hid x0
    have HX1 := Lib.hid x1
    clear hnew hnum a1 a2 a3 b1 b2 b3 c1 c2 c3 a3' b3' c3' e0 e2 hlen3 hE x0 x1 h
    go_enter Tryd.func25, Tryd.ntmps25
    go_wp2_with fail
    refine HNEW.out.mono ?_
    rintro e w1 ⟨p, u1, rfl, ho1, hs1⟩
    have HO1 := Lib.hid ho1
    have HS1 := Lib.hid hs1
    clear ho1 hs1
    go_wp2_with fail
    refine (HNUM.out _ _ _ _ _ HO1.out hl).mono ?_
    rintro e w2 ⟨rfl, hg⟩
    obtain ⟨q1, q2, q3⟩ := HA.out
    rw [q3]
    rw [q1, q2] at hg
    obtain ⟨u2, ho2, p2, _⟩ := hg
    have HO2 := Lib.hid ho2
    have HS2 := Lib.hid (Same.into HS1.out p2 (fun k hk => by rw [hk]; exact HO1.out.1))
    clear ho2 p2 q1 q2 q3
    go_wp2_with fail
    refine (HNUM.out _ _ _ _ _ HO2.out (by simp; omega)).mono ?_
    rintro e w3 ⟨rfl, hg⟩
    obtain ⟨q1, q2, q3⟩ := HB.out
    rw [q3]
    rw [q1, q2, HE2.out] at hg
    obtain ⟨u3, ho3, p3, _⟩ := hg
    have HO3 := Lib.hid ho3
    have HS3 := Lib.hid (Same.into HS2.out p3 (fun k hk => by rw [hk]; exact HO2.out.1))
    clear ho3 p3 q1 q2 q3
    go_wp2_with fail
    refine (HNUM.out _ _ _ _ _ HO3.out (by simp; omega)).mono ?_
    rintro e w4 ⟨rfl, hg⟩
    obtain ⟨q1, q2, q3⟩ := HC.out
    rw [q3]
    rw [q1, q2] at hg
    obtain ⟨u4, ho4, p4, _⟩ := hg
    have HO4 := Lib.hid ho4
    have HS4 := Lib.hid (Same.into HS3.out p4 (fun k hk => by rw [hk]; exact HO3.out.1))
    clear ho4 p4 q1 q2 q3
    have hw2 := wrap0 y2 r2
    by_cases hy : y2 = 0
    · have hy' : (y2 == 0) = true := by simpa using hy
      rw [hy'] at hw2
      simp only [Bool.not_true] at hw2
      by_cases h25 : 24 < bs.length
      · have hEE := HE.out
        rw [if_pos (.inr h25)] at hEE
        subst hEE
        have hn0 := HX0.out
        have hn1 := HX1.out
        simp only [show ((11 : Int) = 0) = False by simp, if_false] at hn0 hn1
        subst hn0 hn1
        have hre : reE 0 ((bs.drop (8 * 2)).drop 8).length = 11 := by rw [HLEN3.out]; unfold reE; rw [if_pos ⟨rfl, by omega⟩]
        have hend := rend_any _ _ _ _ _ HO4.out
        rw [hre] at hend
        have HEND := Lib.hid hend
        clear hend hre HE HX0 HX1 hy hy'
        go_wp2_with fail
        refine HEND.out.mono ?_
        rintro e w5 ⟨rfl, rfl⟩
        go_wp2_with fail
        go_ret3
        exact ⟨rfl, HS4.out⟩
      · have hEE := HE.out
        rw [if_neg (by rintro (h | h); exact h hy; exact h25 h)] at hEE
        subst hEE
        have hn0 := HX0.out
        have hn1 := HX1.out
        simp only [if_true] at hn0 hn1
        subst hn0 hn1
        have hre : reE 0 ((bs.drop (8 * 2)).drop 8).length = 0 := by rw [HLEN3.out]; unfold reE; rw [if_neg (by omega)]
        have hend := rend_any _ _ _ _ _ HO4.out
        rw [hre] at hend
        have HEND := Lib.hid hend
        have z0 := u64_back n0 r0
        have z1 := u64_back n1 r1
        clear hend hre HE HX0 HX1 hy hy'
        go_wp2_with fail
        refine HEND.out.mono ?_
        rintro e w5 ⟨rfl, rfl⟩
        go_wp2_with fail
        go_ret3
        exact ⟨rfl, HS4.out⟩
    · have hy' : (y2 == 0) = false := by simpa using hy
      rw [hy'] at hw2
      simp only [Bool.not_false] at hw2
      have hEE := HE.out
      rw [if_pos (.inl hy)] at hEE
      subst hEE
      have hn0 := HX0.out
      have hn1 := HX1.out
      simp only [show ((11 : Int) = 0) = False by simp, if_false] at hn0 hn1
      subst hn0 hn1
      clear HE HX0 HX1 hy hy'
      go_wp2_with fail
      go_ret3
      exact ⟨rfl, HS4.out⟩
theorem rkeys_any (v : Value) (bs : List UInt8) (w : World) (h : Bs w v bs) (hl : bs.length ≤ 140737488355328) :
    Calls Tryd.prog 26 #[v] w fun e w' => e = .returned (.tuple #[.int .u64 (keysN bs 0), .int .u64 (keysN bs 1), .int .i64 (keysE bs)]) ∧ Same w w' := by
  obtain ⟨A, cap, rfl, k1, k2, _⟩ := id h
  by_cases h24 : bs.length < 24
  · have hE : keysE bs = 10 := by unfold keysE; rw [if_pos h24]
    have hN : ∀ i, keysN bs i = 0 := fun i => by unfold keysN; rw [hE]; rfl
    rw [hE, hN 0, hN 1]
    have g0 : (bs.length : Int) < 24 := by omega
    clear hE hN h
    go_enter Tryd.func26, Tryd.ntmps26
    go_wp2_with fail
    go_ret3
    exact ⟨rfl, Upd.refl _ w⟩
  · have g0 : ¬ ((bs.length : Int) < 24) := by omega
    have hnew := of_any _ bs w h (by omega)
    have hnum := fun base p v bs W (h : WObj base W p v bs 0) hl => rrnum_any (base := base) p v bs 0 8 W h hl (by decide) (by decide)
    obtain ⟨a1, a2, a3⟩ := rn8 bs (by omega)
    obtain ⟨b1, b2, b3⟩ := rn8 (bs.drop 8) (by simp; omega)
    obtain ⟨c1, c2, c3⟩ := rn8 ((bs.drop 8).drop 8) (by simp; omega)
    have e0 : bs.take 8 = (bs.drop (8 * 0)).take 8 := by simp
    have e2 : ((bs.drop 8).drop 8) = bs.drop (8 * 2) := by rw [List.drop_drop]
    have hlen3 : ((bs.drop (8 * 2)).drop 8).length = bs.length - 24 := by rw [List.length_drop, List.length_drop]; omega
    have hE : keysE bs = if kv bs 2 ≠ 0 ∨ 24 < bs.length then 11 else 0 := by unfold keysE; rw [if_neg h24]
    have r0 := kv_range bs 0
    have r1 := kv_range bs 1
    have r2 := kv_range bs 2
    have x0 : keysN bs 0 = if keysE bs = 0 then kv bs 0 else 0 := rfl
    have x1 : keysN bs 1 = if keysE bs = 0 then kv bs 1 else 0 := rfl
    rw [e0] at a3
    rw [e2] at c1 c2 c3
    have a3' : rnN bs 0 8 = wrap64 (kv bs 0) := a3
    have b3' : rnN (bs.drop 8) 0 8 = wrap64 (kv bs 1) := b3
    have c3' : rnN (bs.drop (8 * 2)) 0 8 = wrap64 (kv bs 2) := c3
    generalize keysN bs 0 = n0 at x0 ⊢
    generalize keysN bs 1 = n1 at x1 ⊢
    generalize keysE bs = E at hE x0 x1 ⊢
    generalize kv bs 0 = y0 at a3' x0 r0
    generalize kv bs 1 = y1 at b3' x1 r1
    generalize kv bs 2 = y2 at c3' hE r2
    have HNEW := Lib.hid hnew
    have HNUM := Lib.hid hnum
    have HA := Lib.hid (And.intro a1 (And.intro a2 a3'))
    have HB := Lib.hid (And.intro b1 (And.intro b2 b3'))
    have HC := Lib.hid (And.intro c1 (And.intro c2 c3'))
    have HE2 := Lib.hid e2
    have HLEN3 := Lib.hid hlen3
    have HE := Lib.hid hE
    have HX0 := Lib.hid x0
    have HX1 := Lib.hid x1
    have z0 := u64_back y0 r0
    have z1 := u64_back y1 r1
    clear hnew hnum a1 a2 a3 b1 b2 b3 c1 c2 c3 a3' b3' c3' e0 e2 hlen3 hE x0 x1 h
    go_enter Tryd.func26, Tryd.ntmps26
    go_wp2_with fail
    refine HNEW.out.mono ?_
    rintro e w1 ⟨p, u1, rfl, ho1, hs1⟩
    have HO1 := Lib.hid ho1
    have HS1 := Lib.hid hs1
    clear ho1 hs1
    go_wp2_with fail
    refine (HNUM.out _ _ _ _ _ HO1.out hl).mono ?_
    rintro e w2 ⟨rfl, hg⟩
    obtain ⟨q1, q2, q3⟩ := HA.out
    rw [q3]
    rw [q1, q2] at hg
    obtain ⟨u2, ho2, p2, _⟩ := hg
    have HO2 := Lib.hid ho2
    have HS2 := Lib.hid (Same.into HS1.out p2 (fun k hk => by rw [hk]; exact HO1.out.1))
    clear ho2 p2 q1 q2 q3
    go_wp2_with fail
    refine (HNUM.out _ _ _ _ _ HO2.out (by simp; omega)).mono ?_
    rintro e w3 ⟨rfl, hg⟩
    obtain ⟨q1, q2, q3⟩ := HB.out
    rw [q3]
    rw [q1, q2, HE2.out] at hg
    obtain ⟨u3, ho3, p3, _⟩ := hg
    have HO3 := Lib.hid ho3
    have HS3 := Lib.hid (Same.into HS2.out p3 (fun k hk => by rw [hk]; exact HO2.out.1))
    clear ho3 p3 q1 q2 q3
    go_wp2_with fail
    refine (HNUM.out _ _ _ _ _ HO3.out (by simp; omega)).mono ?_
    rintro e w4 ⟨rfl, hg⟩
    obtain ⟨q1, q2, q3⟩ := HC.out
    rw [q3]
    rw [q1, q2] at hg
    obtain ⟨u4, ho4, p4, _⟩ := hg
    have HO4 := Lib.hid ho4
    have HS4 := Lib.hid (Same.into HS3.out p4 (fun k hk => by rw [hk]; exact HO3.out.1))
    clear ho4 p4 q1 q2 q3
    have hw2 := wrap0 y2 r2
    by_cases hy : y2 = 0
    · have hy' : (y2 == 0) = true := by simpa using hy
      rw [hy'] at hw2
      simp only [Bool.not_true] at hw2
      by_cases h25 : 24 < bs.length
      · have hEE := HE.out
        rw [if_pos (.inr h25)] at hEE
        subst hEE
        have hn0 := HX0.out
        have hn1 := HX1.out
        simp only [show ((11 : Int) = 0) = False by simp, if_false] at hn0 hn1
        subst hn0 hn1
        have g25 : (24 : Int) < (bs.length : Int) := by omega
        clear HE HX0 HX1 hy hy'
        go_wp2_with fail
        go_ret3
        exact ⟨rfl, HS4.out⟩
      · have hEE := HE.out
        rw [if_neg (by rintro (h | h); exact h hy; exact h25 h)] at hEE
        subst hEE
        have hn0 := HX0.out
        have hn1 := HX1.out
        simp only [if_true] at hn0 hn1
        subst hn0 hn1
        have g25 : ¬ ((24 : Int) < (bs.length : Int)) := by omega
        clear HE HX0 HX1 hy hy'
        go_wp2_with fail
        go_ret3
        exact ⟨rfl, HS4.out⟩
    · have hy' : (y2 == 0) = false := by simpa using hy
      rw [hy'] at hw2
      simp only [Bool.not_false] at hw2
      have hEE := HE.out
      rw [if_pos (.inl hy)] at hEE
      subst hEE
      have hn0 := HX0.out
      have hn1 := HX1.out
      simp only [show ((11 : Int) = 0) = False by simp, if_false] at hn0 hn1
      subst hn0 hn1
      clear HE HX0 HX1 hy hy'
      go_wp2_with fail
      go_ret3
      exact ⟨rfl, HS4.out⟩
end Go.Proofs.YtmaofhiapkfoaaaDoor
