/- The reads that wait: their object; NewReads, Len, push. -/
import Derived.Test.YtoepflfchcoogaaReadF
namespace Go.Proofs.Ytoepflfchcoogaa
open Go.RowKit
set_option linter.unusedVariables false
set_option linter.unusedSimpArgs false
attribute [local go_sem ↓] Go.wp_at_zero Go.wp_at_succ
/-- The cells in block p. -/
def RdC (W : World) (p : Nat) (v : Value) : Prop :=
  (W.cell? ⟨p, 0, none⟩ = some v ∧ W.cell? ⟨p, 1, none⟩ = some (.int .i64 100)) ∧ ∀ j, j < 2 → W.frozen? ⟨p, j, none⟩ = false
theorem RdC.lt {W : World} {p : Nat} {v : Value} (hc : RdC W p v) : p < W.heap.size := World.block_lt_of_cell? W _ hc.1.1
theorem RdC.upd {S : Nat → Prop} {W W' : World} {p : Nat} {v : Value} (hc : RdC W p v) (hu : Upd S W W') (hn : ¬ S p) : RdC W' p v := by
  have hlt := hc.lt
  obtain ⟨⟨c0, c1⟩, hf⟩ := hc
  exact ⟨⟨hu.cell c0 hn, hu.cell c1 hn⟩, fun j hj => (hu.frozen (p := ⟨p, j, none⟩) hlt hn).trans (hf j hj)⟩
theorem RdC.set {W : World} {p : Nat} {v : Value} (hc : RdC W p v) (u : Value) : RdC (W.setCell ⟨p, 0, none⟩ u) p u := by
  obtain ⟨⟨c0, c1⟩, hf⟩ := hc
  refine ⟨⟨World.cell?_setCell_same _ _ _ c0, ?_⟩, fun j hj => by rw [World.frozen?_setCell]; exact hf j hj⟩
  all_goals (rw [World.cell?_setCell_other _ _ _ _ (off_ne p (by decide))]; assumption)
theorem RdC.new (W : World) (v : Value) (t : TypeId) (p : Nat) (hp : p = W.heap.size) : RdC (W.alloc (.cells #[v, .int .i64 100] t)) p v := by
  subst hp
  have hn : (W.alloc (.cells #[v, .int .i64 100] t)).heap[W.heap.size]? = some (.cells #[v, .int .i64 100] t) := heap_alloc_new W _
  refine ⟨⟨?_, ?_⟩, fun j hj => ?_⟩
  all_goals first | (rw [cell_of_row _ _ _ _ t (0, 0) hn]; rfl) | (unfold World.frozen?; rw [hn]; simp)
def rdfoot (p : Nat) (v : Value) : Nat → Prop := fun k => k = p ∨ room v = some k
def RdV (base : Nat) (W : World) (p : Nat) (v : Value) (ls : List (Int × Int)) : Prop := base ≤ p ∧ RdC W p v ∧ Own base W v 2 (ls.flatMap sentC) ∧ ¬ room v = some p
def RdO (base : Nat) (F : Nat → Prop) (W : World) (p : Nat) (ls : List (Int × Int)) : Prop := ∃ v, RdV base W p v ls ∧ (∀ k, rdfoot p v k → F k) ∧ Foot base F W
theorem RdV.upd {base : Nat} {S : Nat → Prop} {W W' : World} {p : Nat} {v : Value} {ls : List (Int × Int)} (hv : RdV base W p v ls) (hu : Upd S W W') (hn : ∀ k, rdfoot p v k → ¬ S k) : RdV base W' p v ls :=
  ⟨hv.1, hv.2.1.upd hu (hn p (.inl rfl)), hv.2.2.1.upd hu (fun k hk => hn k (.inr hk)), hv.2.2.2⟩
theorem RdV.foot {base : Nat} {W : World} {p : Nat} {v : Value} {ls : List (Int × Int)} (hv : RdV base W p v ls) : Foot base (rdfoot p v) W := by
  rintro k (rfl | hk)
  · exact ⟨hv.1, hv.2.1.lt⟩
  · exact hv.2.2.1.ge (by decide) k hk
theorem RdO.upd {base : Nat} {F S : Nat → Prop} {W W' : World} {p : Nat} {ls : List (Int × Int)} (ho : RdO base F W p ls) (hu : Upd S W W') (hn : ∀ k, F k → ¬ S k) : RdO base F W' p ls := by
  obtain ⟨v, h1, h2, h3⟩ := ho
  exact ⟨v, h1.upd hu fun k hk => hn k (h2 k hk), h2, h3.mono hu.size⟩
theorem RdO.same {base : Nat} {F : Nat → Prop} {W W' : World} {p : Nat} {ls : List (Int × Int)} (ho : RdO base F W p ls) (hu : Same W W') : RdO base F W' p ls := ho.upd hu fun _ _ h => h
def RdGrew (base : Nat) (F : Nat → Prop) (W : World) (p : Nat) (W' : World) (ls : List (Int × Int)) : Prop := ∃ F', RdO base F' W' p ls ∧ Step F F' W W'
theorem RdGrew.same {base : Nat} {F : Nat → Prop} {W W' : World} {p : Nat} {ls : List (Int × Int)} (ho : RdO base F W p ls) (hs : Same W W') : RdGrew base F W p W' ls := ⟨F, ho.same hs, Step.same hs⟩
section
variable {base : Nat} {W : World} {p : Nat} {v : Value} {ls : List (Int × Int)}
/-- Another row takes the place of what is remembered. -/
theorem RdV.set {w1 : World} {v1 : Value} {ls' : List (Int × Int)} (hv : RdV base W p v ls) (hf : Own base w1 v1 2 (ls'.flatMap sentC)) (hu : Upd (fun k => room v = some k) W w1) (hr : ∀ k, room v1 = some k → room v = some k ∨ W.heap.size ≤ k) :
    RdV base (w1.setCell ⟨p, 0, none⟩ v1) p v1 ls' ∧ Upd (rdfoot p v) W (w1.setCell ⟨p, 0, none⟩ v1) ∧ ∀ k, rdfoot p v1 k → rdfoot p v k ∨ W.heap.size ≤ k := by
  obtain ⟨h1, h2, h3, h4⟩ := hv
  have hp := h2.lt
  have a1 : ¬ room v1 = some p := fun e => by
    rcases hr p e with e | e
    · exact h4 e
    · omega
  have u3 : Upd (fun k => k = p) w1 (w1.setCell ⟨p, 0, none⟩ v1) := (Upd.refl (fun k => k = p) w1).setCell (p := ⟨p, 0, none⟩) (fun _ => rfl) _
  refine ⟨⟨h1, (h2.upd hu h4).set v1, hf.upd u3 fun k hk e => a1 (by rw [hk, e]), a1⟩, Upd.trans (hu.mono fun k _ e => .inr e) u3 fun k _ e => .inl e, ?_⟩
  rintro k (e | e)
  · exact .inl (.inl e)
  · rcases hr k e with e | e
    · exact .inl (.inr e)
    · exact .inr e
theorem rdnew_any (w : World) : Calls Try.prog 19 #[] w fun r w' => r = .returned (.pointer (some ⟨w.heap.size, 0, none⟩)) ∧ RdC w' w.heap.size (.slice none 0 0) ∧ Same w w' := by
  go_enter Try.func19, Try.ntmps19
  go_wp2
  go_ret
  exact ⟨rfl, RdC.new w _ _ _ rfl, (Upd.refl _ w).alloc _⟩
theorem rdlen_any (hv : RdV base W p v ls) : Calls Try.prog 27 #[.pointer (some ⟨p, 0, none⟩)] W fun r w' => r = .returned (.int .i64 ls.length) ∧ w' = W := by
  obtain ⟨A, m, cap, rfl, h1, h2, h3⟩ := hv.2.2.1.open_
  rw [sent_length] at h1
  obtain rfl : ls.length = m := by omega
  obtain ⟨⟨c0, c1⟩, hf⟩ := hv.2.1
  clear hf hv h1
  go_enter Try.func27, Try.ntmps27
  go_wp2
  go_ret
  exact ⟨rfl, rfl⟩
theorem hinfo_read : (Try.prog.info? 84).map (fun i => (i.zero, i.size, i.bytes)) = some (some (.agg #[.int .i64 0, .int .i64 0]), 2, 16) := by kernel_rfl
set_option maxHeartbeats 1000000 in
theorem rpush_any (hv : RdV base W p v ls) (hb : base ≤ W.heap.size) (hlen : ls.length ≤ 100) (x y : Int) : Calls Try.prog 40 #[.pointer (some ⟨p, 0, none⟩), .agg #[.int .i64 x, .int .i64 y]] W fun r w' => r = .returned (.tuple #[]) ∧ RdGrew base (rdfoot p v) W p w' (pushL ls (x, y)) := by
  obtain ⟨⟨c1, c2⟩, hf⟩ := hv.2.1
  have hp := hv.2.1.lt
  have H := Lib.hid hv
  have HB := Lib.hid hb
  have HL := Lib.hid hlen
  clear hf hv hlen
  go_enter Try.func40, Try.ntmps40
  go_wp2_with fail
  go_region_law (first
    | (refine step_append_own rfl (.tmp 8) (.tmp 10) 77 rfl Try.underlying77 hinfo_read rfl (by decide) v _ rfl rfl (H.out.2.2.1.same ((((Upd.refl _ _).alloc _).alloc _).drew)) ((Rdr.box (W.alloc _) [.int .i64 x, .int .i64 y] _ _ (W.heap.size + 1) (by simp) 2 rfl).same (Upd.refl _ _).drew) (by simp; exact ⟨rfl, rfl⟩) (by simp; omega) ls.length 1 (sent_length _) rfl (by have := HL.out; omega) (by have := HL.out; omega) ?_; intro v6 w6 hf6 hu6 hr6; obtain ⟨zA, zn, zc, rfl, zl, zm, -⟩ := Own.open_ hf6; have hc6 := (H.out.2.1.upd ((((Upd.refl (fun _ => False) W).alloc _).alloc _).drew) (fun h => h)).upd hu6 H.out.2.2.2; have d61 := hc6.1.1; have d62 := hc6.1.2; have f61 := hc6.2 0 (by decide); have hu60 := Same.then ((((Upd.refl (fun _ => False) W).alloc _).alloc _).drew) hu6; have HF6 := Lib.hid hf6; have HU6 := Lib.hid hu60; have HR6 := Lib.hid hr6; clear hf6 hu6 hr6 hc6 hu60))
  all_goals
    obtain ⟨r1, r2, r3⟩ := RdV.set (ls' := ls ++ [(x, y)]) H.out (by rw [List.flatMap_append]; simpa [sentC] using HF6.out) HU6.out (fun k hk => (HR6.out k hk).imp (fun h => h) fun e => by simp at e; omega)
    have hzn : zn = ls.length + 1 := by
      rw [List.length_append, sent_length] at zl
      simp at zl
      omega
    generalize w6.setCell ⟨p, 0, none⟩ (.slice zA zn zc) = w7 at r1 r2 ⊢
    obtain ⟨⟨m1, m2⟩, mf⟩ := r1.2.1
    have n1 := mf 0 (by decide)
    have HR := Lib.hid (And.intro r1 (And.intro r2 r3))
    have HL2 := HL.out
    subst hzn
    clear r1 r2 r3 mf HF6 HU6 HR6 d61 d62 f61 c1 c2 zl
    by_cases hl : ls.length < 100
    · have g1 : ¬ (100 : Int) < (ls.length : Int) + 1 := by omega
      have HP : Hid (pushL ls (x, y) = ls ++ [(x, y)]) := Lib.hid (if_pos hl)
      go_wp2_with fail
      go_quiet (fail)
      go_wp2_with fail
      refine bodyPost_end (v := .tuple #[]) (by simp [results, Try.results40, go_sem]) rfl ?_
      refine ⟨rfl, ?_⟩
      rw [HP.out]
      have hs := (Upd.refl (fun _ => False) w7).drewN
      exact ⟨_, ⟨_, HR.out.1.upd (hs _) (fun _ _ h => h), fun _ h => h, (HR.out.1.upd (hs _) (fun _ _ h => h)).foot⟩, Step.trans ⟨HR.out.2.1, HR.out.2.2⟩ (Step.same (hs _))⟩
    · have hl1 : ls.length = 100 := by omega
      have HP : Hid (pushL ls (x, y) = (ls ++ [(x, y)]).drop 1) := Lib.hid (if_neg hl)
      have g1 : (100 : Int) < (ls.length : Int) + 1 := by omega
      have g2 : ¬ zc = 1 := by omega
      have g3 : 1 ≤ zc := by omega
      have g4 : (1 : Int) ≤ (ls.length : Int) + 1 := by omega
      clear hl1
      go_wp2_with fail
      go_quiet (fail)
      rename_i nq
      have hs := (Upd.refl (fun _ => False) w7).drewN nq
      have hq := HR.out.1.upd hs (fun _ _ h => h)
      have hst : Step (rdfoot p v) _ W (w7.drewN nq) := Step.trans ⟨HR.out.2.1, HR.out.2.2⟩ (Step.same hs)
      generalize w7.drewN nq = w8 at hq hst ⊢
      have k1 := hq.2.1.1.1
      have kf := hq.2.1.2 0 (by decide)
      have HQ := Lib.hid hq
      have HST := Lib.hid hst
      obtain ⟨b, off, rfl, hcs⟩ := Own.at_ hq.2.2.1 (by rw [sent_length]; simp)
      clear hq hst hs HR m1 m2 n1 hcs
      have hbk := Own.back HQ.out.2.2.1 1 (by omega)
      rw [if_neg g2, show (1 * 2 : Nat) = 1 * 2 from rfl, sent_drop] at hbk
      have HBK := Lib.hid hbk
      have HRB := Lib.hid (room_back (some ⟨b, off, none⟩) (ls.length + 1) (ls.length + 1 - 1) zc 1 2)
      clear hbk
      go_wp2_with fail
      refine bodyPost_end (v := .tuple #[]) (by simp [results, Try.results40, go_sem]) rfl ?_
      refine ⟨rfl, ?_⟩
      rw [HP.out]
      have hrb := HRB.out
      rw [if_neg g2] at hrb
      obtain ⟨t1, t2, t3⟩ := RdV.set (ls' := (ls ++ [(x, y)]).drop 1) HQ.out HBK.out (Upd.refl _ _) fun k hk => .inl (hrb k hk)
      exact ⟨_, ⟨_, t1, fun _ h => h, t1.foot⟩, Step.trans HST.out ⟨t2, t3⟩⟩
end
end Go.Proofs.Ytoepflfchcoogaa
