/- The reference's reads: object, Ask, Ready, Drop. -/
import Derived.Test.YtoepflfchcoogaaReadT
namespace Go.Proofs.Ytoepflfchcoogaa
open Go.RowKit
set_option linter.unusedVariables false
set_option linter.unusedSimpArgs false
attribute [local go_sem ↓] Go.wp_at_zero Go.wp_at_succ
/-- The cell in block q. -/
def RRdC (W : World) (p : Nat) (v : Value) : Prop := W.cell? ⟨p, 0, none⟩ = some v ∧ W.frozen? ⟨p, 0, none⟩ = false
theorem RRdC.lt {W : World} {p : Nat} {v : Value} (hc : RRdC W p v) : p < W.heap.size := World.block_lt_of_cell? W _ hc.1
theorem RRdC.upd {S : Nat → Prop} {W W' : World} {p : Nat} {v : Value} (hc : RRdC W p v) (hu : Upd S W W') (hn : ¬ S p) : RRdC W' p v := by
  have hlt := hc.lt
  obtain ⟨c0, hf⟩ := hc
  exact ⟨hu.cell c0 hn, (hu.frozen (p := ⟨p, 0, none⟩) hlt hn).trans hf⟩
theorem RRdC.set {W : World} {p : Nat} {v : Value} (hc : RRdC W p v) (u : Value) : RRdC (W.setCell ⟨p, 0, none⟩ u) p u := by
  obtain ⟨c0, hf⟩ := hc
  exact ⟨World.cell?_setCell_same _ _ _ c0, by rw [World.frozen?_setCell]; exact hf⟩
theorem RRdC.new (W : World) (v : Value) (t : TypeId) (p : Nat) (hp : p = W.heap.size) : RRdC (W.alloc (.cells #[v] t)) p v := by
  subst hp
  refine ⟨box_cell W v t, ?_⟩
  have hn : (W.alloc (.cells #[v] t)).heap[W.heap.size]? = some (.cells #[v] t) := heap_alloc_new W _
  unfold World.frozen?
  rw [hn]
  simp
def rrfoot (p : Nat) (v : Value) : Nat → Prop := fun k => k = p ∨ room v = some k
def RRdV (base : Nat) (W : World) (p : Nat) (v : Value) (ls : List (Int × Int)) : Prop := base ≤ p ∧ RRdC W p v ∧ Own base W v 2 (ls.flatMap sentC) ∧ ¬ room v = some p
def RRdO (base : Nat) (F : Nat → Prop) (W : World) (p : Nat) (ls : List (Int × Int)) : Prop := ∃ v, RRdV base W p v ls ∧ (∀ k, rrfoot p v k → F k) ∧ Foot base F W
theorem RRdV.upd {base : Nat} {S : Nat → Prop} {W W' : World} {p : Nat} {v : Value} {ls : List (Int × Int)} (hv : RRdV base W p v ls) (hu : Upd S W W') (hn : ∀ k, rrfoot p v k → ¬ S k) : RRdV base W' p v ls :=
  ⟨hv.1, hv.2.1.upd hu (hn p (.inl rfl)), hv.2.2.1.upd hu (fun k hk => hn k (.inr hk)), hv.2.2.2⟩
theorem RRdV.foot {base : Nat} {W : World} {p : Nat} {v : Value} {ls : List (Int × Int)} (hv : RRdV base W p v ls) : Foot base (rrfoot p v) W := by
  rintro k (rfl | hk)
  · exact ⟨hv.1, hv.2.1.lt⟩
  · exact hv.2.2.1.ge (by decide) k hk
theorem RRdO.upd {base : Nat} {F S : Nat → Prop} {W W' : World} {p : Nat} {ls : List (Int × Int)} (ho : RRdO base F W p ls) (hu : Upd S W W') (hn : ∀ k, F k → ¬ S k) : RRdO base F W' p ls := by
  obtain ⟨v, h1, h2, h3⟩ := ho
  exact ⟨v, h1.upd hu fun k hk => hn k (h2 k hk), h2, h3.mono hu.size⟩
theorem RRdO.same {base : Nat} {F : Nat → Prop} {W W' : World} {p : Nat} {ls : List (Int × Int)} (ho : RRdO base F W p ls) (hu : Same W W') : RRdO base F W' p ls := ho.upd hu fun _ _ h => h
def RRdGrew (base : Nat) (F : Nat → Prop) (W : World) (p : Nat) (W' : World) (ls : List (Int × Int)) : Prop := ∃ F', RRdO base F' W' p ls ∧ Step F F' W W'
theorem RRdGrew.same {base : Nat} {F : Nat → Prop} {W W' : World} {p : Nat} {ls : List (Int × Int)} (ho : RRdO base F W p ls) (hs : Same W W') : RRdGrew base F W p W' ls := ⟨F, ho.same hs, Step.same hs⟩
section
variable {base : Nat} {W : World} {p : Nat} {v : Value} {ls : List (Int × Int)}
/-- Another row takes the place of what is remembered. -/
theorem RRdV.set {w1 : World} {v1 : Value} {ls' : List (Int × Int)} (hv : RRdV base W p v ls) (hf : Own base w1 v1 2 (ls'.flatMap sentC)) (hu : Upd (fun k => room v = some k) W w1) (hr : ∀ k, room v1 = some k → room v = some k ∨ W.heap.size ≤ k) :
    RRdV base (w1.setCell ⟨p, 0, none⟩ v1) p v1 ls' ∧ Upd (rrfoot p v) W (w1.setCell ⟨p, 0, none⟩ v1) ∧ ∀ k, rrfoot p v1 k → rrfoot p v k ∨ W.heap.size ≤ k := by
  obtain ⟨h1, h2, h3, h4⟩ := hv
  have hp := h2.lt
  have a1 : ¬ room v1 = some p := fun e => by
    rcases hr p e with e | e
    · exact h4 e
    · omega
  have u3 : Upd (fun k => k = p) w1 (w1.setCell ⟨p, 0, none⟩ v1) := (Upd.refl (fun k => k = p) w1).setCell (p := ⟨p, 0, none⟩) (fun _ => rfl) _
  refine ⟨⟨h1, (h2.upd hu h4).set v1, hf.upd u3 fun k hk e => a1 (by rw [hk, e]), a1⟩, Upd.trans (hu.mono fun k _ e => .inr e) u3 fun k _ e => .inl e, ?_⟩
  rintro k (e | e)
  · exact .inl (.inl e)
  · rcases hr k e with e | e
    · exact .inl (.inr e)
    · exact .inr e
theorem RRdGrew.of {F : Nat → Prop} {W' : World} {ls' : List (Int × Int)} (hF : ∀ k, rrfoot p v k → F k) (hFt : Foot base F W) (hb : base ≤ W.heap.size) (hg : RRdGrew base (rrfoot p v) W p W' ls') : RRdGrew base F W p W' ls' := by
  obtain ⟨F', ⟨v', h1, h2, h3⟩, h4, h5⟩ := hg
  refine ⟨more F W W', ⟨v', h1, fun k hk => ?_, more_foot hFt hb h4.size⟩, more_step (h4.mono fun k _ hk => hF k hk)⟩
  rcases h5 k (h2 k hk) with e | e
  · exact .inl (hF k e)
  · exact .inr ⟨e, (h1.foot k hk).2⟩
theorem RRdV.o (hv : RRdV base W p v ls) : RRdO base (rrfoot p v) W p ls := ⟨v, hv, fun _ h => h, hv.foot⟩
theorem hinfo_wait : (Try.prog.info? 88).map (fun i => (i.zero, i.size, i.bytes)) = some (some (.agg #[.int .i64 0, .int .i64 0]), 2, 16) := by kernel_rfl
theorem rask_any (hv : RRdV base W p v ls) (hb : base ≤ W.heap.size) (hlen : ls.length ≤ 100) (id ix : Int) : Calls Try.prog 21 #[.pointer (some ⟨p, 0, none⟩), .int .i64 id, .int .i64 ix] W fun e w' => e = .returned (.int .i64 (askL ls id ix).1) ∧ RRdGrew base (rrfoot p v) W p w' (askL ls id ix).2 := by
  by_cases hneg : ix < 0
  · have HA : Hid (askL ls id ix = (1, ls)) := Lib.hid (if_pos hneg)
    have HV := Lib.hid hv
    clear hv
    go_enter Try.func21, Try.ntmps21
    go_wp2_with fail
    go_ret
    rw [HA.out]
    exact ⟨rfl, RRdGrew.same HV.out.o (Upd.refl _ _)⟩
  have hge : 0 ≤ ix := by omega
  obtain ⟨A, m, cap, rfl, h1, h2, h3⟩ := hv.2.2.1.open_
  rw [sent_length] at h1
  obtain rfl : m = ls.length := by omega
  obtain ⟨c0, fr0⟩ := hv.2.1
  have hp := hv.2.1.lt
  have HV := Lib.hid hv
  obtain ⟨N, hN⟩ : ∃ N, N = ls.length := ⟨_, rfl⟩
  rw [← hN] at c0 h2
  have h100 : N ≤ 100 := by omega
  have HN := Lib.hid hN
  have HB := Lib.hid hb
  have HG := Lib.hid hge
  clear hv h1 hN hb hneg hlen
  go_enter Try.func21, Try.ntmps21
  go_wp2_with fail
  go_loop [7] (fun v7 => ∃ k : Nat, k ≤ N ∧ v7 = .int .i64 k ∧ Hid (∀ j (hj : j < ls.length), j < k → (ls[j]'hj).1 ≠ id)) (fun v7 => N - (intOf v7).toNat)
  case atStart => exact ⟨0, by omega, rfl, fun j hj h => by omega⟩
  case round =>
    obtain ⟨k, hk, rfl, hno⟩ := hrel
    by_cases hlt : k < N
    · have hkl : k < ls.length := by have := HN.out; omega
      obtain ⟨b, off, rfl, x0, x1⟩ := SentAt.two HV.out.2.2.1.rdr k hkl
      have g1 : (k : Int) < (N : Int) := by omega
      by_cases he : (ls[k]'hkl).1 = id
      · have hidx := idxOf_some id ls k hkl he hno.out
        have HA : Hid (askL ls id ix = (5, ls)) := Lib.hid (by unfold askL; rw [if_neg (by have := HG.out; omega), if_pos (by rw [hidx]; omega)])
        have hb : ((ls[k]'hkl).1 == id) = true := by simpa using he
        generalize (ls[k]'hkl).1 = y0 at x0 hb
        clear he hidx x1
        go_wp2_with fail
        go_ret
        rw [HA.out]
        exact ⟨rfl, RRdGrew.same HV.out.o (Upd.refl _ _)⟩
      · have hb : ((ls[k]'hkl).1 == id) = false := by simpa using he
        have HE := Lib.hid he
        generalize hy0 : (ls[k]'hkl).1 = y0 at x0 hb
        clear he x1 hy0
        go_wp2_with fail
        go_round
        case rel =>
          refine ⟨k + 1, by omega, by go_num, fun j hj hjk => ?_⟩
          by_cases hjk2 : j = k
          · subst hjk2; exact HE.out
          · exact hno.out j hj (by omega)
        case measure => simp [intOf]; omega
    · obtain rfl : k = N := by omega
      have hidx := idxOf_none id ls fun j hj => hno.out j hj (by have := HN.out; omega)
      by_cases hful : 100 ≤ k
      · have HA : Hid (askL ls id ix = (4, ls)) := Lib.hid (by unfold askL; rw [if_neg (by have := HG.out; omega), if_neg (by rw [hidx]; omega), if_pos (by have := HN.out; omega)])
        have g1 : (100 : Int) ≤ (k : Int) := by omega
        clear hidx
        go_wp2_with fail
        go_ret
        rw [HA.out]
        exact ⟨rfl, RRdGrew.same HV.out.o (Upd.refl _ _)⟩
      · have HA : Hid (askL ls id ix = (0, ls ++ [(id, ix)])) := Lib.hid (by unfold askL; rw [if_neg (by have := HG.out; omega), if_neg (by rw [hidx]; omega), if_neg (by have := HN.out; omega)])
        have g1 : ¬ (100 : Int) ≤ (k : Int) := by omega
        have hv2 : RRdV base W p (.slice A k cap) ls := by have := HV.out; rw [← HN.out] at this; exact this
        have HV2 := Lib.hid hv2
        clear hidx hv2
        go_wp2_with (at_builtin; refine wpl_append_own rfl (.tmp 39) (.tmp 43) 46 rfl Try.underlying46 hinfo_wait rfl (by decide) (.slice A k cap) _ rfl rfl (HV2.out.2.2.1.same ((Upd.refl _ _).alloc _)) (Rdr.box _ [.int .i64 id, .int .i64 ix] _ _ _ rfl 2 rfl) (by simp; exact ⟨rfl, rfl⟩) (by have := HB.out; simp; omega) ls.length 1 (sent_length _) rfl (by have := HN.out; omega) (by have := HN.out; omega) ?_; intro v6 w6 hf6 hu6 hr6; obtain ⟨zA, zn, zc, rfl, zl, zm, -⟩ := Own.open_ hf6; have hu60 := Same.then ((Upd.refl (fun _ => False) W).alloc _) hu6; have hc6 := HV2.out.2.1.upd hu60 HV2.out.2.2.2; have d60 := hc6.1; have fr60 := hc6.2; have HF6 := Lib.hid hf6; have HU6 := Lib.hid hu60; have HR6 := Lib.hid hr6; clear hf6 hu6 hr6 hc6 hu60)
        go_ret
        rw [HA.out]
        obtain ⟨r1, r2, r3⟩ := RRdV.set (ls' := ls ++ [(id, ix)]) HV2.out (by rw [List.flatMap_append]; simpa [sentC] using HF6.out) HU6.out (fun k hk => (HR6.out k hk).imp (fun h => h) fun e => by simp at e; omega)
        exact ⟨rfl, _, r1.o, by rw [← HN.out]; exact r2, by rw [← HN.out]; exact r3⟩
theorem rready_any (hv : RRdV base W p v ls) (hb : base ≤ W.heap.size) (hlen : ls.length ≤ 100) (ap : Int) : Calls Try.prog 24 #[.pointer (some ⟨p, 0, none⟩), .int .i64 ap] W fun e w' => ∃ vo, e = .returned vo ∧ Own W.heap.size w' vo 1 (((ls.filter fun x : Int × Int => decide (x.2 ≤ ap)).map (·.1)).map numC) ∧ (∃ vl, RRdV base w' p vl (ls.filter fun x => !(decide (x.2 ≤ ap))) ∧ (∀ k, rrfoot p vl k → rrfoot p v k ∨ W.heap.size ≤ k) ∧ ∀ k, room vo = some k → ¬ rrfoot p vl k) ∧ Upd (rrfoot p v) W w' := by
  obtain ⟨f, hf0⟩ : ∃ f : Int × Int → Bool, f = fun x : Int × Int => decide (x.2 ≤ ap) := ⟨_, rfl⟩
  rw [← hf0, show (fun x : Int × Int => !(decide (x.2 ≤ ap))) = fun x => !(f x) by rw [hf0]]
  obtain ⟨A, m, cap, rfl, h1, h2, h3⟩ := hv.2.2.1.open_
  rw [sent_length] at h1
  obtain rfl : m = ls.length := by omega
  obtain ⟨c0, fr0⟩ := hv.2.1
  have hp := hv.2.1.lt
  have H := Lib.hid hv
  obtain ⟨N, hN⟩ : ∃ N, N = ls.length := ⟨_, rfl⟩
  rw [← hN] at c0 h2
  rw [show ls.length = N from hN.symm]
  have h100 : N ≤ 100 := by omega
  have HN := Lib.hid (And.intro hN hlen)
  have HB := Lib.hid hb
  have HF0 := Lib.hid hf0
  clear hv h1 hN hlen hb hf0
  go_enter Try.func24, Try.ntmps24
  go_wp2_with fail
  go_loopw [5, 6, 7] (fun v5 v6 v7 wr => ∃ k : Nat, k ≤ N ∧ v7 = .int .i64 k ∧ Own W.heap.size wr v5 1 ((((ls.take k).filter f).map (·.1)).map numC) ∧ Own W.heap.size wr v6 2 (((ls.take k).filter fun x => !(f x)).flatMap sentC) ∧ (∀ j, room v5 = some j → ¬ room v6 = some j) ∧ Same W wr) (fun _ _ v7 _ => N - (intOf v7).toNat)
  case atStart => exact ⟨0, by omega, rfl, Own.nil _ _ _, Own.nil _ _ _, fun j hj => by simp [room] at hj, Upd.refl _ W⟩
  case round =>
    obtain ⟨k, hk, rfl, hO, hL, hd, hs⟩ := hrel
    obtain ⟨oA, on, oc, rfl, ol, om, -⟩ := hO.open_
    obtain ⟨lA, ln, lc, rfl, ll, lm, -⟩ := hL.open_
    have HON := Lib.hid ol
    have HLN := Lib.hid ll
    have hfl1 : ((ls.take k).filter f).length ≤ k := Nat.le_trans (List.length_filter_le _ _) (by simp; omega)
    have hfl2 : ((ls.take k).filter fun x => !(f x)).length ≤ k := Nat.le_trans (List.length_filter_le _ _) (by simp; omega)
    have hob : on ≤ 100 := by simp at ol; omega
    have hlb : ln ≤ 100 := by rw [sent_length] at ll; omega
    have HOB := Lib.hid hob
    have HLB := Lib.hid hlb
    have hz : W.heap.size ≤ wr.heap.size := hs.size
    have HZ := Lib.hid hz
    have HO := Lib.hid hO
    have HL := Lib.hid hL
    have HD := Lib.hid hd
    have HS := Lib.hid hs
    have d0 := hs.cell c0 (fun h => h)
    have df := (hs.frozen (p := ⟨p, 0, none⟩) hp (fun h => h)).trans fr0
    by_cases hlt : k < N
    · have hkl : k < ls.length := by have := HN.out; omega
      obtain ⟨b, off, rfl, x0, x1⟩ := SentAt.two (Rdr.same H.out.2.2.1.rdr hs) k hkl
      have hst1 := filter_step f ls k hkl
      have hst2 := filter_step (fun x => !(f x)) ls k hkl
      have hfx : f (ls[k]'hkl) = decide ((ls[k]'hkl).2 ≤ ap) := by rw [HF0.out]
      generalize ls[k] = X at x0 x1 hst1 hst2 hfx
      obtain ⟨x, y⟩ := X
      simp only at x0 x1 hfx
      have g1 : (k : Int) < (N : Int) := by omega
      have HST := Lib.hid (And.intro hst1 hst2)
      have HFX := Lib.hid hfx
      clear hO hL hd hs hst1 hst2 hfx ol ll hob hlb hfl1 hfl2 om lm
      by_cases hle : y ≤ ap
      · have HFT : Hid (f (x, y) = true) := Lib.hid (by rw [HFX.out]; simpa using hle)
        go_wp2_with (at_builtin; refine wpl_append_own rfl (.tmp 27) (.tmp 36) 22 rfl Try.underlying22 hinfo_num2 rfl (by decide) (.slice oA on oc) _ rfl rfl (HO.out.same ((Upd.refl _ _).alloc _)) (Rdr.box _ [.int .i64 x] _ _ _ rfl 1 rfl) (by simp; rfl) (by have := HZ.out; simp; omega) on 1 (by have := HON.out; simpa using this) rfl (by have := HOB.out; omega) (by have := HOB.out; omega) ?_; intro v8 w8 hf8 hu8 hr8; have HF8 := Lib.hid hf8; have HU8 := Lib.hid hu8; have HR8 := Lib.hid hr8; clear hf8 hu8 hr8)
        go_roundw
        case rel =>
          refine ⟨k + 1, by omega, by go_num, ?_, ?_, ?_, ?_⟩
          · rw [HST.out.1, if_pos HFT.out]; simpa [numC] using HF8.out
          · rw [HST.out.2, HFT.out]; simp only [Bool.not_true, Bool.false_eq_true, if_false, List.append_nil]
            exact (HL.out.same ((Upd.refl _ _).alloc _)).upd HU8.out (fun j hj e => HD.out j e hj)
          · intro j hj e
            rcases HR8.out j hj with h | h
            · exact HD.out j h e
            · have := (HL.out.ge (by decide) j e).2
              simp at h
              omega
          · exact Same.into (Same.trans HS.out ((Upd.refl _ _).alloc _)) HU8.out (fun j hj => (HO.out.ge (by decide) j hj).1)
        case measure => simp [intOf]; omega
      · have hgt : ap < y := by omega
        have HFT : Hid (f (x, y) = false) := Lib.hid (by rw [HFX.out]; simpa using hgt)
        go_wp2_with (at_builtin; refine wpl_append_own rfl (.tmp 38) (.tmp 46) 46 rfl Try.underlying46 hinfo_wait rfl (by decide) (.slice lA ln lc) _ rfl rfl (HL.out.same ((Upd.refl _ _).alloc _)) (Rdr.box _ [.int .i64 x, .int .i64 y] _ _ _ rfl 2 rfl) (by simp; exact ⟨rfl, rfl⟩) (by have := HZ.out; simp; omega) ln 1 (by have := HLN.out; exact this) rfl (by have := HLB.out; omega) (by have := HLB.out; omega) ?_; intro v8 w8 hf8 hu8 hr8; have HF8 := Lib.hid hf8; have HU8 := Lib.hid hu8; have HR8 := Lib.hid hr8; clear hf8 hu8 hr8)
        go_roundw
        case rel =>
          refine ⟨k + 1, by omega, by go_num, ?_, ?_, ?_, ?_⟩
          · rw [HST.out.1, HFT.out]; simp only [Bool.false_eq_true, if_false, List.append_nil]
            exact (HO.out.same ((Upd.refl _ _).alloc _)).upd HU8.out (fun j hj e => HD.out j hj e)
          · rw [HST.out.2, HFT.out]; simpa [sentC] using HF8.out
          · intro j hj e
            rcases HR8.out j e with h | h
            · exact HD.out j hj h
            · have := (HO.out.ge (by decide) j hj).2
              simp at h
              omega
          · exact Same.into (Same.trans HS.out ((Upd.refl _ _).alloc _)) HU8.out (fun j hj => (HL.out.ge (by decide) j hj).1)
        case measure => simp [intOf]; omega
    · obtain rfl : k = N := by omega
      have hall : ls.take k = ls := List.take_of_length_le (by have := HN.out; omega)
      have HALL := Lib.hid hall
      clear hO hL hd hs ol ll hall
      go_wp2_with fail
      go_ret
      rw [HALL.out] at HO HL
      have hH : RRdV base W p (.slice A k cap) ls := by have := H.out; rw [← HN.out.1] at this; exact this
      obtain ⟨t1, t2, t3⟩ := RRdV.set (ls' := ls.filter fun x => !(f x)) hH (HL.out.mono HB.out) (HS.out.mono fun _ _ h => h.elim) (fun j hj => .inr (HL.out.ge (by decide) j hj).1)
      have hpo : ∀ j, room (.slice oA on oc) = some j → j ≠ p := fun j hj e => by have := (HO.out.ge (by decide) j hj).1; omega
      refine ⟨_, rfl, HO.out.upd ((Upd.refl (fun j => j = p) wr).setCell (p := ⟨p, 0, none⟩) (fun _ => rfl) _) (fun j hj e => hpo j hj e), ⟨_, t1, t3, ?_⟩, t2⟩
      rintro j hj (e | e)
      · exact hpo j hj e
      · exact HD.out j hj e
theorem rdrop_any (hv : RRdV base W p v ls) (hb : base ≤ W.heap.size) (hlen : ls.length ≤ 100) : Calls Try.prog 26 #[.pointer (some ⟨p, 0, none⟩)] W fun e w' => ∃ vo, e = .returned vo ∧ Own W.heap.size w' vo 1 ((ls.map (·.1)).map numC) ∧ RRdV base w' p (.slice none 0 0) [] ∧ Upd (rrfoot p v) W w' := by
  obtain ⟨A, m, cap, rfl, h1, h2, h3⟩ := hv.2.2.1.open_
  rw [sent_length] at h1
  obtain rfl : m = ls.length := by omega
  obtain ⟨c0, fr0⟩ := hv.2.1
  have hp := hv.2.1.lt
  have H := Lib.hid hv
  obtain ⟨N, hN⟩ : ∃ N, N = ls.length := ⟨_, rfl⟩
  rw [← hN] at c0 h2
  rw [show ls.length = N from hN.symm]
  have h100 : N ≤ 100 := by omega
  have HN := Lib.hid (And.intro hN hlen)
  have HB := Lib.hid hb
  clear hv h1 hN hlen hb
  go_enter Try.func26, Try.ntmps26
  go_wp2_with fail
  go_loopw [3, 4] (fun v3 v4 wr => ∃ k : Nat, k ≤ N ∧ v4 = .int .i64 k ∧ Own W.heap.size wr v3 1 (((ls.take k).map (·.1)).map numC) ∧ Same W wr) (fun _ v4 _ => N - (intOf v4).toNat)
  case atStart => exact ⟨0, by omega, rfl, Own.nil _ _ _, Upd.refl _ W⟩
  case round =>
    obtain ⟨k, hk, rfl, hO, hs⟩ := hrel
    obtain ⟨oA, on, oc, rfl, ol, om, -⟩ := hO.open_
    have HON := Lib.hid ol
    have hob : on ≤ 100 := by simp at ol; omega
    have HOB := Lib.hid hob
    have hz : W.heap.size ≤ wr.heap.size := hs.size
    have HZ := Lib.hid hz
    have HO := Lib.hid hO
    have HS := Lib.hid hs
    have d0 := hs.cell c0 (fun h => h)
    have df := (hs.frozen (p := ⟨p, 0, none⟩) hp (fun h => h)).trans fr0
    by_cases hlt : k < N
    · have hkl : k < ls.length := by have := HN.out; omega
      obtain ⟨b, off, rfl, x0, x1⟩ := SentAt.two (Rdr.same H.out.2.2.1.rdr hs) k hkl
      have hst : ls.take (k + 1) = ls.take k ++ [ls[k]'hkl] := List.take_succ_eq_append_getElem hkl
      generalize ls[k] = X at x0 x1 hst
      obtain ⟨x, y⟩ := X
      simp only at x0 x1
      have g1 : (k : Int) < (N : Int) := by omega
      have HST := Lib.hid hst
      clear hO hs hst ol hob om
      go_wp2_with (at_builtin; refine wpl_append_own rfl (.tmp 14) (.tmp 23) 22 rfl Try.underlying22 hinfo_num2 rfl (by decide) (.slice oA on oc) _ rfl rfl (HO.out.same ((Upd.refl _ _).alloc _)) (Rdr.box _ [.int .i64 x] _ _ _ rfl 1 rfl) (by simp; rfl) (by have := HZ.out; simp; omega) on 1 (by have := HON.out; simpa using this) rfl (by have := HOB.out; omega) (by have := HOB.out; omega) ?_; intro v8 w8 hf8 hu8 hr8; have HF8 := Lib.hid hf8; have HU8 := Lib.hid hu8; have HR8 := Lib.hid hr8; clear hf8 hu8 hr8)
      go_roundw
      case rel =>
        refine ⟨k + 1, by omega, by go_num, ?_, ?_⟩
        · rw [HST.out]; simpa [numC] using HF8.out
        · exact Same.into (Same.trans HS.out ((Upd.refl _ _).alloc _)) HU8.out (fun j hj => (HO.out.ge (by decide) j hj).1)
      case measure => simp [intOf]; omega
    · obtain rfl : k = N := by omega
      have hall : ls.take k = ls := List.take_of_length_le (by have := HN.out; omega)
      have HALL := Lib.hid hall
      clear hO hs ol hall
      go_wp2_with fail
      go_ret
      rw [HALL.out] at HO
      have hH : RRdV base W p (.slice A k cap) ls := by have := H.out; rw [← HN.out.1] at this; exact this
      obtain ⟨t1, t2, t3⟩ := RRdV.set (ls' := []) hH (Own.nil _ _ _) (HS.out.mono fun _ _ h => h.elim) (fun j hj => by simp [room] at hj)
      have hpo : ∀ j, room (.slice oA on oc) = some j → j ≠ p := fun j hj e => by have := (HO.out.ge (by decide) j hj).1; omega
      exact ⟨_, rfl, HO.out.upd ((Upd.refl (fun j => j = p) wr).setCell (p := ⟨p, 0, none⟩) (fun _ => rfl) _) (fun j hj e => hpo j hj e), t1, t2⟩
end
end Go.Proofs.Ytoepflfchcoogaa
