/- take of the reads, for both of its functions. -/
import Derived.Test.YtoepflfchcoogaaReadA
import Derived.Test.YtoepflfchcoogaaLeaseT
namespace Go.Proofs.Ytoepflfchcoogaa
open Go.RowKit
set_option linter.unusedVariables false
set_option linter.unusedSimpArgs false
attribute [local go_sem ↓] Go.wp_at_zero Go.wp_at_succ
theorem filter_step (f : Int × Int → Bool) (ls : List (Int × Int)) (k : Nat) (hk : k < ls.length) : (ls.take (k + 1)).filter f = (ls.take k).filter f ++ (if f (ls[k]'hk) = true then [ls[k]'hk] else []) := by
  rw [List.take_succ_eq_append_getElem hk, List.filter_append]
  congr 1
  by_cases h : f (ls[k]'hk) = true
  · simp [h]
  · simp [h]
theorem ready1_any (x y ap : Int) (b : Nat) (w : World) (hc : w.cell? ⟨b, 0, none⟩ = some (.int .i64 ap)) :
    Calls Try.prog 49 #[.agg #[.int .i64 x, .int .i64 y], .pointer (some ⟨b, 0, none⟩)] w fun r w' => r = .returned (.bool (decide (y ≤ ap))) ∧ Same w w' := by
  have hlt := World.block_lt_of_cell? w _ hc
  have hc2 := ((Upd.refl (fun _ => False) w).alloc (.cells #[.int .i64 x, .int .i64 y] 84)).cell hc fun h => h
  go_enter Try.func49, Try.ntmps49
  go_wp2
  go_ret
  exact ⟨rfl, (Upd.refl _ w).alloc _⟩
theorem drop1_any (x y : Int) (w : World) :
    Calls Try.prog 43 #[.agg #[.int .i64 x, .int .i64 y]] w fun r w' => r = .returned (.bool true) ∧ Same w w' := by
  go_enter Try.func43, Try.ntmps43
  go_wp2
  go_ret
  exact ⟨rfl, (Upd.refl _ w).alloc _⟩
theorem hinfo_num2 : (Try.prog.info? 2).map (fun i => (i.zero, i.size, i.bytes)) = some (some (.int .i64 0), 1, 8) := by kernel_rfl
section
variable {base : Nat} {F : Nat → Prop} {W : World} {p : Nat} {v : Value} {ls : List (Int × Int)}
theorem box2_cell0 (W : World) (a b : Value) (t : TypeId) : (W.alloc (.cells #[a, b] t)).cell? ⟨W.heap.size, 0, none⟩ = some a := by
  have h : (W.alloc (.cells #[a, b] t)).heap[W.heap.size]? = some (.cells #[a, b] t) := heap_alloc_new W _
  rw [cell_of_row _ _ _ _ _ (0, 0) h]
  rfl
theorem box2_cell1 (W : World) (a b : Value) (t : TypeId) : (W.alloc (.cells #[a, b] t)).cell? ⟨W.heap.size, 1, none⟩ = some b := by
  have h : (W.alloc (.cells #[a, b] t)).heap[W.heap.size]? = some (.cells #[a, b] t) := heap_alloc_new W _
  rw [cell_of_row _ _ _ _ _ (0, 0) h]
  rfl
theorem take_ready (hv : RdV base W p v ls) (hb : base ≤ W.heap.size) (hlen : ls.length ≤ 100) (ap : Int) (bc : Nat) (hbc : W.cell? ⟨bc, 0, none⟩ = some (.int .i64 ap)) :
    Calls Try.prog 42 #[.pointer (some ⟨p, 0, none⟩), .func (.func 49) #[] #[.pointer (some ⟨bc, 0, none⟩)]] W fun e w' => ∃ vo, e = .returned vo ∧ Own W.heap.size w' vo 1 (((ls.filter (fun x : Int × Int => decide (x.2 ≤ ap))).map (·.1)).map numC) ∧ (∃ vl, RdV base w' p vl (ls.filter fun x => !((fun x : Int × Int => decide (x.2 ≤ ap)) x)) ∧ (∀ k, rdfoot p vl k → rdfoot p v k ∨ W.heap.size ≤ k) ∧ ∀ k, room vo = some k → ¬ rdfoot p vl k) ∧ Upd (rdfoot p v) W w' := by
  obtain ⟨f, hf0⟩ : ∃ f : Int × Int → Bool, f = (fun x : Int × Int => decide (x.2 ≤ ap)) := ⟨_, rfl⟩
  rw [← hf0]
  obtain ⟨A, m, cap, rfl, h1, h2, h3⟩ := hv.2.2.1.open_
  rw [sent_length] at h1
  obtain rfl : m = ls.length := by omega
  obtain ⟨⟨c0, c1⟩, hf⟩ := hv.2.1
  have fr0 := hf 0 (by decide)
  have hp := hv.2.1.lt
  have H := Lib.hid hv
  obtain ⟨N, hN⟩ : ∃ N, N = ls.length := ⟨_, rfl⟩
  rw [← hN] at c0 h2
  rw [show ls.length = N from hN.symm]
  have HN := Lib.hid (And.intro hN hlen)
  have HB := Lib.hid hb
  have HF0 := Lib.hid hf0
  clear hf hv h1 hN hlen hb hf0
  go_enter Try.func42, Try.ntmps42
  go_wp2_with fail
  go_loopw [5, 6, 17] (fun v5 v6 v17 wr => ∃ k : Nat, k ≤ N ∧ v17 = .int .i64 k ∧ Own W.heap.size wr v5 1 ((((ls.take k).filter f).map (·.1)).map numC) ∧ Own W.heap.size wr v6 2 (((ls.take k).filter fun x => !(f x)).flatMap sentC) ∧ (∀ j, room v5 = some j → ¬ room v6 = some j) ∧ Same W wr) (fun _ _ v17 _ => N - (intOf v17).toNat)
  case atStart => exact ⟨0, by omega, rfl, Own.nil _ _ _, Own.nil _ _ _, fun j hj => by simp [room] at hj, Upd.refl _ W⟩
  case round =>
    obtain ⟨k, hk, rfl, hO, hL, hd, hs⟩ := hrel
    obtain ⟨oA, on, oc, rfl, ol, om, -⟩ := hO.open_
    obtain ⟨lA, ln, lc, rfl, ll, lm, -⟩ := hL.open_
    have HON := Lib.hid ol
    have HLN := Lib.hid ll
    have hfl1 : ((ls.take k).filter f).length ≤ k := Nat.le_trans (List.length_filter_le _ _) (by simp; omega)
    have hfl2 : ((ls.take k).filter fun x => !(f x)).length ≤ k := Nat.le_trans (List.length_filter_le _ _) (by simp; omega)
    have hob : on ≤ 100 := by have := HN.out; simp at ol; omega
    have hlb : ln ≤ 100 := by have := HN.out; rw [sent_length] at ll; omega
    have HOB := Lib.hid hob
    have HLB := Lib.hid hlb
    have hz : W.heap.size ≤ wr.heap.size := hs.size
    have HZ := Lib.hid hz
    have HO := Lib.hid hO
    have HL := Lib.hid hL
    have HD := Lib.hid hd
    have HS := Lib.hid hs
    by_cases hlt : k < N
    · have hkl : k < ls.length := by have := HN.out; omega
      obtain ⟨b, off, rfl, x0, x1⟩ := SentAt.two (Rdr.same H.out.2.2.1.rdr hs) k hkl
      have hst1 := filter_step f ls k hkl
      have hst2 := filter_step (fun x => !(f x)) ls k hkl
      have hfx : f (ls[k]'hkl) = (fun x : Int × Int => decide (x.2 ≤ ap)) (ls[k]'hkl) := by rw [HF0.out]
      generalize ls[k] = X at x0 x1 hst1 hst2 hfx
      obtain ⟨x, y⟩ := X
      simp only at x0 x1 hfx
      have g1 : (k : Int) < (N : Int) := by omega
      have HC := Lib.hid (fun w' (h : Same wr w') => ready1_any x y ap bc w' ((Same.trans hs h).cell hbc (fun h => h)))
      generalize f (x, y) = bx at hst1 hst2 hfx
      rw [← hfx] at HC
      have HST := Lib.hid (And.intro hst1 hst2)
      clear hO hL hd hs hst1 hst2 hfx ol ll hob hlb hfl1 hfl2 om lm
      have hal := (Upd.refl (fun _ => False) wr).alloc (.cells #[.int .i64 x, .int .i64 y] 84)
      have e0 := box2_cell0 wr (.int .i64 x) (.int .i64 y) 84
      have e1 := box2_cell1 wr (.int .i64 x) (.int .i64 y) 84
      have HAL := Lib.hid hal
      have E := Lib.hid (And.intro e0 e1)
      clear hal e0 e1
      cases bx with
      | true =>
        go_wp2_with fail
        refine (HC.out _ HAL.out).mono ?_
        rintro r w7 ⟨rfl, hs7⟩
        have d0 := hs7.cell E.out.1 (fun h => h)
        have d1 := hs7.cell E.out.2 (fun h => h)
        have HS9 := Lib.hid (Same.trans HAL.out hs7)
        clear hs7
        go_wp2_with (at_builtin; refine wpl_append_own rfl (.tmp 24) (.tmp 27) 22 rfl Try.underlying22 hinfo_num2 rfl (by decide) (.slice oA on oc) _ rfl rfl (HO.out.same (Same.trans HS9.out ((Upd.refl _ _).alloc _))) (Rdr.box _ [.int .i64 x] _ _ _ rfl 1 rfl) (by simp; rfl) (by have := HZ.out; have := HS9.out.size; simp at this ⊢; omega) on 1 (by have := HON.out; simpa using this) rfl (by have := HOB.out; omega) (by have := HOB.out; omega) ?_; intro v8 w8 hf8 hu8 hr8; have HF8 := Lib.hid hf8; have HU8 := Lib.hid hu8; have HR8 := Lib.hid hr8; clear hf8 hu8 hr8)
        go_roundw
        case rel =>
          refine ⟨k + 1, by omega, by go_num, ?_, ?_, ?_, ?_⟩
          · rw [HST.out.1]; simpa [numC] using HF8.out
          · rw [HST.out.2]; simp only [Bool.not_true, Bool.false_eq_true, if_false, List.append_nil]
            exact (HL.out.same (Same.trans HS9.out ((Upd.refl _ _).alloc _))).upd HU8.out (fun j hj e => HD.out j e hj)
          · intro j hj e
            rcases HR8.out j hj with h | h
            · exact HD.out j h e
            · have := (HL.out.ge (by decide) j e).2
              have := HS9.out.size
              simp at h
              omega
          · exact Same.into (Same.trans HS.out (Same.trans HS9.out ((Upd.refl _ _).alloc _))) HU8.out (fun j hj => (HO.out.ge (by decide) j hj).1)
        case measure => simp [intOf]; omega
      | false =>
        go_wp2_with fail
        refine (HC.out _ HAL.out).mono ?_
        rintro r w7 ⟨rfl, hs7⟩
        have d0 := hs7.cell E.out.1 (fun h => h)
        have d1 := hs7.cell E.out.2 (fun h => h)
        have HS9 := Lib.hid (Same.trans HAL.out hs7)
        clear hs7
        go_wp2_with (at_builtin; refine wpl_append_own rfl (.tmp 29) (.tmp 31) 77 rfl Try.underlying77 hinfo_read rfl (by decide) (.slice lA ln lc) _ rfl rfl (HL.out.same (Same.trans HS9.out ((Upd.refl _ _).alloc _))) (Rdr.box _ [.int .i64 x, .int .i64 y] _ _ _ rfl 2 rfl) (by simp; exact ⟨rfl, rfl⟩) (by have := HZ.out; have := HS9.out.size; simp at this ⊢; omega) ln 1 (by have := HLN.out; exact this) rfl (by have := HLB.out; omega) (by have := HLB.out; omega) ?_; intro v8 w8 hf8 hu8 hr8; have HF8 := Lib.hid hf8; have HU8 := Lib.hid hu8; have HR8 := Lib.hid hr8; clear hf8 hu8 hr8)
        go_roundw
        case rel =>
          refine ⟨k + 1, by omega, by go_num, ?_, ?_, ?_, ?_⟩
          · rw [HST.out.1]; simp only [Bool.false_eq_true, if_false, List.append_nil]
            exact (HO.out.same (Same.trans HS9.out ((Upd.refl _ _).alloc _))).upd HU8.out (fun j hj e => HD.out j hj e)
          · rw [HST.out.2]; simpa [sentC] using HF8.out
          · intro j hj e
            rcases HR8.out j e with h | h
            · exact HD.out j hj h
            · have := (HO.out.ge (by decide) j hj).2
              have := HS9.out.size
              simp at h
              omega
          · exact Same.into (Same.trans HS.out (Same.trans HS9.out ((Upd.refl _ _).alloc _))) HU8.out (fun j hj => (HL.out.ge (by decide) j hj).1)
        case measure => simp [intOf]; omega
    · obtain rfl : k = N := by omega
      have d0 := hs.cell c0 (fun h => h)
      have df := (hs.frozen (p := ⟨p, 0, none⟩) hp (fun h => h)).trans fr0
      have hall : ls.take k = ls := List.take_of_length_le (by have := HN.out; omega)
      have HALL := Lib.hid hall
      clear hO hL hd hs ol ll hall
      go_wp2_with fail
      go_ret
      rw [HALL.out] at HO HL
      have hH : RdV base W p (.slice A k cap) ls := by have := H.out; rw [← HN.out.1] at this; exact this
      obtain ⟨t1, t2, t3⟩ := RdV.set (ls' := ls.filter fun x => !(f x)) hH (HL.out.mono HB.out) (HS.out.mono fun _ _ h => h.elim) (fun j hj => .inr (HL.out.ge (by decide) j hj).1)
      have hpo : ∀ j, room (.slice oA on oc) = some j → j ≠ p := fun j hj e => by have := (HO.out.ge (by decide) j hj).1; omega
      refine ⟨_, rfl, HO.out.upd ((Upd.refl (fun j => j = p) wr).setCell (p := ⟨p, 0, none⟩) (fun _ => rfl) _) (fun j hj e => hpo j hj e), ⟨_, t1, t3, ?_⟩, t2⟩
      rintro j hj (e | e)
      · exact hpo j hj e
      · exact HD.out j hj e
theorem take_drop (hv : RdV base W p v ls) (hb : base ≤ W.heap.size) (hlen : ls.length ≤ 100) :
    Calls Try.prog 42 #[.pointer (some ⟨p, 0, none⟩), .func (.func 43) #[] #[]] W fun e w' => ∃ vo, e = .returned vo ∧ Own W.heap.size w' vo 1 (((ls.filter (fun _ : Int × Int => true)).map (·.1)).map numC) ∧ (∃ vl, RdV base w' p vl (ls.filter fun x => !((fun _ : Int × Int => true) x)) ∧ (∀ k, rdfoot p vl k → rdfoot p v k ∨ W.heap.size ≤ k) ∧ ∀ k, room vo = some k → ¬ rdfoot p vl k) ∧ Upd (rdfoot p v) W w' := by
  obtain ⟨f, hf0⟩ : ∃ f : Int × Int → Bool, f = (fun _ : Int × Int => true) := ⟨_, rfl⟩
  rw [← hf0]
  obtain ⟨A, m, cap, rfl, h1, h2, h3⟩ := hv.2.2.1.open_
  rw [sent_length] at h1
  obtain rfl : m = ls.length := by omega
  obtain ⟨⟨c0, c1⟩, hf⟩ := hv.2.1
  have fr0 := hf 0 (by decide)
  have hp := hv.2.1.lt
  have H := Lib.hid hv
  obtain ⟨N, hN⟩ : ∃ N, N = ls.length := ⟨_, rfl⟩
  rw [← hN] at c0 h2
  rw [show ls.length = N from hN.symm]
  have HN := Lib.hid (And.intro hN hlen)
  have HB := Lib.hid hb
  have HF0 := Lib.hid hf0
  clear hf hv h1 hN hlen hb hf0
  go_enter Try.func42, Try.ntmps42
  go_wp2_with fail
  go_loopw [5, 6, 17] (fun v5 v6 v17 wr => ∃ k : Nat, k ≤ N ∧ v17 = .int .i64 k ∧ Own W.heap.size wr v5 1 ((((ls.take k).filter f).map (·.1)).map numC) ∧ Own W.heap.size wr v6 2 (((ls.take k).filter fun x => !(f x)).flatMap sentC) ∧ (∀ j, room v5 = some j → ¬ room v6 = some j) ∧ Same W wr) (fun _ _ v17 _ => N - (intOf v17).toNat)
  case atStart => exact ⟨0, by omega, rfl, Own.nil _ _ _, Own.nil _ _ _, fun j hj => by simp [room] at hj, Upd.refl _ W⟩
  case round =>
    obtain ⟨k, hk, rfl, hO, hL, hd, hs⟩ := hrel
    obtain ⟨oA, on, oc, rfl, ol, om, -⟩ := hO.open_
    obtain ⟨lA, ln, lc, rfl, ll, lm, -⟩ := hL.open_
    have HON := Lib.hid ol
    have HLN := Lib.hid ll
    have hfl1 : ((ls.take k).filter f).length ≤ k := Nat.le_trans (List.length_filter_le _ _) (by simp; omega)
    have hfl2 : ((ls.take k).filter fun x => !(f x)).length ≤ k := Nat.le_trans (List.length_filter_le _ _) (by simp; omega)
    have hob : on ≤ 100 := by have := HN.out; simp at ol; omega
    have hlb : ln ≤ 100 := by have := HN.out; rw [sent_length] at ll; omega
    have HOB := Lib.hid hob
    have HLB := Lib.hid hlb
    have hz : W.heap.size ≤ wr.heap.size := hs.size
    have HZ := Lib.hid hz
    have HO := Lib.hid hO
    have HL := Lib.hid hL
    have HD := Lib.hid hd
    have HS := Lib.hid hs
    by_cases hlt : k < N
    · have hkl : k < ls.length := by have := HN.out; omega
      obtain ⟨b, off, rfl, x0, x1⟩ := SentAt.two (Rdr.same H.out.2.2.1.rdr hs) k hkl
      have hst1 := filter_step f ls k hkl
      have hst2 := filter_step (fun x => !(f x)) ls k hkl
      have hfx : f (ls[k]'hkl) = (fun _ : Int × Int => true) (ls[k]'hkl) := by rw [HF0.out]
      generalize ls[k] = X at x0 x1 hst1 hst2 hfx
      obtain ⟨x, y⟩ := X
      simp only at x0 x1 hfx
      have g1 : (k : Int) < (N : Int) := by omega
      have HC := Lib.hid (fun w' (h : Same wr w') => drop1_any x y w')
      generalize f (x, y) = bx at hst1 hst2 hfx
      rw [← hfx] at HC
      have HST := Lib.hid (And.intro hst1 hst2)
      clear hO hL hd hs hst1 hst2 hfx ol ll hob hlb hfl1 hfl2 om lm
      have hal := (Upd.refl (fun _ => False) wr).alloc (.cells #[.int .i64 x, .int .i64 y] 84)
      have e0 := box2_cell0 wr (.int .i64 x) (.int .i64 y) 84
      have e1 := box2_cell1 wr (.int .i64 x) (.int .i64 y) 84
      have HAL := Lib.hid hal
      have E := Lib.hid (And.intro e0 e1)
      clear hal e0 e1
      cases bx with
      | true =>
        go_wp2_with fail
        refine (HC.out _ HAL.out).mono ?_
        rintro r w7 ⟨rfl, hs7⟩
        have d0 := hs7.cell E.out.1 (fun h => h)
        have d1 := hs7.cell E.out.2 (fun h => h)
        have HS9 := Lib.hid (Same.trans HAL.out hs7)
        clear hs7
        go_wp2_with (at_builtin; refine wpl_append_own rfl (.tmp 24) (.tmp 27) 22 rfl Try.underlying22 hinfo_num2 rfl (by decide) (.slice oA on oc) _ rfl rfl (HO.out.same (Same.trans HS9.out ((Upd.refl _ _).alloc _))) (Rdr.box _ [.int .i64 x] _ _ _ rfl 1 rfl) (by simp; rfl) (by have := HZ.out; have := HS9.out.size; simp at this ⊢; omega) on 1 (by have := HON.out; simpa using this) rfl (by have := HOB.out; omega) (by have := HOB.out; omega) ?_; intro v8 w8 hf8 hu8 hr8; have HF8 := Lib.hid hf8; have HU8 := Lib.hid hu8; have HR8 := Lib.hid hr8; clear hf8 hu8 hr8)
        go_roundw
        case rel =>
          refine ⟨k + 1, by omega, by go_num, ?_, ?_, ?_, ?_⟩
          · rw [HST.out.1]; simpa [numC] using HF8.out
          · rw [HST.out.2]; simp only [Bool.not_true, Bool.false_eq_true, if_false, List.append_nil]
            exact (HL.out.same (Same.trans HS9.out ((Upd.refl _ _).alloc _))).upd HU8.out (fun j hj e => HD.out j e hj)
          · intro j hj e
            rcases HR8.out j hj with h | h
            · exact HD.out j h e
            · have := (HL.out.ge (by decide) j e).2
              have := HS9.out.size
              simp at h
              omega
          · exact Same.into (Same.trans HS.out (Same.trans HS9.out ((Upd.refl _ _).alloc _))) HU8.out (fun j hj => (HO.out.ge (by decide) j hj).1)
        case measure => simp [intOf]; omega
      | false =>
        go_wp2_with fail
        refine (HC.out _ HAL.out).mono ?_
        rintro r w7 ⟨rfl, hs7⟩
        have d0 := hs7.cell E.out.1 (fun h => h)
        have d1 := hs7.cell E.out.2 (fun h => h)
        have HS9 := Lib.hid (Same.trans HAL.out hs7)
        clear hs7
        go_wp2_with (at_builtin; refine wpl_append_own rfl (.tmp 29) (.tmp 31) 77 rfl Try.underlying77 hinfo_read rfl (by decide) (.slice lA ln lc) _ rfl rfl (HL.out.same (Same.trans HS9.out ((Upd.refl _ _).alloc _))) (Rdr.box _ [.int .i64 x, .int .i64 y] _ _ _ rfl 2 rfl) (by simp; exact ⟨rfl, rfl⟩) (by have := HZ.out; have := HS9.out.size; simp at this ⊢; omega) ln 1 (by have := HLN.out; exact this) rfl (by have := HLB.out; omega) (by have := HLB.out; omega) ?_; intro v8 w8 hf8 hu8 hr8; have HF8 := Lib.hid hf8; have HU8 := Lib.hid hu8; have HR8 := Lib.hid hr8; clear hf8 hu8 hr8)
        go_roundw
        case rel =>
          refine ⟨k + 1, by omega, by go_num, ?_, ?_, ?_, ?_⟩
          · rw [HST.out.1]; simp only [Bool.false_eq_true, if_false, List.append_nil]
            exact (HO.out.same (Same.trans HS9.out ((Upd.refl _ _).alloc _))).upd HU8.out (fun j hj e => HD.out j hj e)
          · rw [HST.out.2]; simpa [sentC] using HF8.out
          · intro j hj e
            rcases HR8.out j e with h | h
            · exact HD.out j hj h
            · have := (HO.out.ge (by decide) j hj).2
              have := HS9.out.size
              simp at h
              omega
          · exact Same.into (Same.trans HS.out (Same.trans HS9.out ((Upd.refl _ _).alloc _))) HU8.out (fun j hj => (HL.out.ge (by decide) j hj).1)
        case measure => simp [intOf]; omega
    · obtain rfl : k = N := by omega
      have d0 := hs.cell c0 (fun h => h)
      have df := (hs.frozen (p := ⟨p, 0, none⟩) hp (fun h => h)).trans fr0
      have hall : ls.take k = ls := List.take_of_length_le (by have := HN.out; omega)
      have HALL := Lib.hid hall
      clear hO hL hd hs ol ll hall
      go_wp2_with fail
      go_ret
      rw [HALL.out] at HO HL
      have hH : RdV base W p (.slice A k cap) ls := by have := H.out; rw [← HN.out.1] at this; exact this
      obtain ⟨t1, t2, t3⟩ := RdV.set (ls' := ls.filter fun x => !(f x)) hH (HL.out.mono HB.out) (HS.out.mono fun _ _ h => h.elim) (fun j hj => .inr (HL.out.ge (by decide) j hj).1)
      have hpo : ∀ j, room (.slice oA on oc) = some j → j ≠ p := fun j hj e => by have := (HO.out.ge (by decide) j hj).1; omega
      refine ⟨_, rfl, HO.out.upd ((Upd.refl (fun j => j = p) wr).setCell (p := ⟨p, 0, none⟩) (fun _ => rfl) _) (fun j hj e => hpo j hj e), ⟨_, t1, t3, ?_⟩, t2⟩
      rintro j hj (e | e)
      · exact hpo j hj e
      · exact HD.out j hj e
end
end Go.Proofs.Ytoepflfchcoogaa
