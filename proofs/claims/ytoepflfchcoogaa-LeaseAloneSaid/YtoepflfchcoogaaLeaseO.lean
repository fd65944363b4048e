/- The lease's object; New, Len, Reset, last, push. -/
import Derived.Test.YtoepflfchcoogaaLeaseFind
import Derived.Deep.RegionHeld3
import Derived.Test.YtoepflfchcoogaaStepA
import Derived.Deep.RegionLaw
import Derived.Deep.DrawnRows
import Derived.Deep.QuietTactic
import Derived.BigQuiet
namespace Go.Proofs.Ytoepflfchcoogaa
open Go.RowKit
set_option linter.unusedVariables false
set_option linter.unusedSimpArgs false
attribute [local go_sem ↓] Go.wp_at_zero Go.wp_at_succ

theorem off_ne (p : Nat) {i j : Nat} (h : i ≠ j) : (⟨p, i, none⟩ : Addr) ≠ ⟨p, j, none⟩ := by
  intro e
  injection e with e1 e2
  exact h e2
/-- A lease's cells in block p. -/
def LeC (W : World) (p : Nat) (h : Int) (v : Value) : Prop :=
  (W.cell? ⟨p, 0, none⟩ = some (.int .i64 h) ∧ W.cell? ⟨p, 1, none⟩ = some v ∧ W.cell? ⟨p, 2, none⟩ = some (.int .i64 100)) ∧ ∀ j, j < 3 → W.frozen? ⟨p, j, none⟩ = false
theorem LeC.lt {W : World} {p : Nat} {h : Int} {v : Value} (hc : LeC W p h v) : p < W.heap.size := World.block_lt_of_cell? W _ hc.1.1
theorem LeC.upd {S : Nat → Prop} {W W' : World} {p : Nat} {h : Int} {v : Value} (hc : LeC W p h v) (hu : Upd S W W') (hn : ¬ S p) : LeC W' p h v := by
  have hlt := hc.lt
  obtain ⟨⟨c0, c1, c2⟩, hf⟩ := hc
  exact ⟨⟨hu.cell c0 hn, hu.cell c1 hn, hu.cell c2 hn⟩, fun j hj => (hu.frozen (p := ⟨p, j, none⟩) hlt hn).trans (hf j hj)⟩
theorem LeC.set {W : World} {p : Nat} {h : Int} {v : Value} (hc : LeC W p h v) (u : Value) : LeC (W.setCell ⟨p, 1, none⟩ u) p h u := by
  obtain ⟨⟨c0, c1, c2⟩, hf⟩ := hc
  refine ⟨⟨?_, World.cell?_setCell_same _ _ _ c1, ?_⟩, fun j hj => by rw [World.frozen?_setCell]; exact hf j hj⟩
  all_goals (rw [World.cell?_setCell_other _ _ _ _ (off_ne p (by decide))]; assumption)
theorem LeC.new (W : World) (h : Int) (v : Value) (t : TypeId) (p : Nat) (hp : p = W.heap.size) : LeC (W.alloc (.cells #[.int .i64 h, v, .int .i64 100] t)) p h v := by
  subst hp
  have hn : (W.alloc (.cells #[.int .i64 h, v, .int .i64 100] t)).heap[W.heap.size]? = some (.cells #[.int .i64 h, v, .int .i64 100] t) := heap_alloc_new W _
  refine ⟨⟨?_, ?_, ?_⟩, fun j hj => ?_⟩
  all_goals first | (rw [cell_of_row _ _ _ _ t (0, 0) hn]; rfl) | (unfold World.frozen?; rw [hn]; simp)
theorem sent_one (ls : List (Int × Int)) : ∀ y ∈ ls.flatMap sentC, y.oneCell' = true := by
  intro y hy
  obtain ⟨h, _, hy⟩ := List.mem_flatMap.1 hy
  simp [sentC] at hy
  rcases hy with rfl | rfl <;> rfl
theorem sent_drop (ls : List (Int × Int)) (k : Nat) : (ls.flatMap sentC).drop (k * 2) = (ls.drop k).flatMap sentC := by
  induction ls generalizing k with
  | nil => simp
  | cons h t ih =>
    cases k with
    | zero => simp
    | succ k =>
      rw [show (k + 1) * 2 = k * 2 + 2 by omega]
      simp [sentC, ih k]
def lfoot (p : Nat) (v : Value) : Nat → Prop := fun k => k = p ∨ room v = some k
def LeV (base : Nat) (W : World) (p : Nat) (v : Value) (h : Int) (ls : List (Int × Int)) : Prop := base ≤ p ∧ LeC W p h v ∧ Own base W v 2 (ls.flatMap sentC) ∧ ¬ room v = some p
def LeO (base : Nat) (F : Nat → Prop) (W : World) (p : Nat) (h : Int) (ls : List (Int × Int)) : Prop := ∃ v, LeV base W p v h ls ∧ (∀ k, lfoot p v k → F k) ∧ Foot base F W
theorem LeV.upd {base : Nat} {S : Nat → Prop} {W W' : World} {p : Nat} {v : Value} {h : Int} {ls : List (Int × Int)} (hv : LeV base W p v h ls) (hu : Upd S W W') (hn : ∀ k, lfoot p v k → ¬ S k) : LeV base W' p v h ls :=
  ⟨hv.1, hv.2.1.upd hu (hn p (.inl rfl)), hv.2.2.1.upd hu (fun k hk => hn k (.inr hk)), hv.2.2.2⟩
theorem LeV.foot {base : Nat} {W : World} {p : Nat} {v : Value} {h : Int} {ls : List (Int × Int)} (hv : LeV base W p v h ls) : Foot base (lfoot p v) W := by
  rintro k (rfl | hk)
  · exact ⟨hv.1, hv.2.1.lt⟩
  · exact hv.2.2.1.ge (by decide) k hk
theorem LeO.upd {base : Nat} {F S : Nat → Prop} {W W' : World} {p : Nat} {h : Int} {ls : List (Int × Int)} (ho : LeO base F W p h ls) (hu : Upd S W W') (hn : ∀ k, F k → ¬ S k) : LeO base F W' p h ls := by
  obtain ⟨v, h1, h2, h3⟩ := ho
  exact ⟨v, h1.upd hu fun k hk => hn k (h2 k hk), h2, h3.mono hu.size⟩
theorem LeO.same {base : Nat} {F : Nat → Prop} {W W' : World} {p : Nat} {h : Int} {ls : List (Int × Int)} (ho : LeO base F W p h ls) (hu : Same W W') : LeO base F W' p h ls := ho.upd hu fun _ _ h => h
def LGrew (base : Nat) (F : Nat → Prop) (W : World) (p : Nat) (W' : World) (h : Int) (ls : List (Int × Int)) : Prop := ∃ F', LeO base F' W' p h ls ∧ Step F F' W W'
theorem LGrew.same {base : Nat} {F : Nat → Prop} {W W' : World} {p : Nat} {h : Int} {ls : List (Int × Int)} (ho : LeO base F W p h ls) (hs : Same W W') : LGrew base F W p W' h ls := ⟨F, ho.same hs, Step.same hs⟩
section
variable {base : Nat} {W : World} {p : Nat} {v : Value} {h : Int} {ls : List (Int × Int)}
/-- Another row takes the place of what is remembered. -/
theorem LeV.set {w1 : World} {v1 : Value} {ls' : List (Int × Int)} (hv : LeV base W p v h ls) (hf : Own base w1 v1 2 (ls'.flatMap sentC)) (hu : Upd (fun k => room v = some k) W w1) (hr : ∀ k, room v1 = some k → room v = some k ∨ W.heap.size ≤ k) :
    LeV base (w1.setCell ⟨p, 1, none⟩ v1) p v1 h ls' ∧ Upd (lfoot p v) W (w1.setCell ⟨p, 1, none⟩ v1) ∧ ∀ k, lfoot p v1 k → lfoot p v k ∨ W.heap.size ≤ k := by
  obtain ⟨h1, h2, h3, h4⟩ := hv
  have hp := h2.lt
  have a1 : ¬ room v1 = some p := fun e => by
    rcases hr p e with e | e
    · exact h4 e
    · omega
  have u3 : Upd (fun k => k = p) w1 (w1.setCell ⟨p, 1, none⟩ v1) := (Upd.refl (fun k => k = p) w1).setCell (p := ⟨p, 1, none⟩) (fun _ => rfl) _
  refine ⟨⟨h1, (h2.upd hu h4).set v1, hf.upd u3 fun k hk e => a1 (by rw [hk, e]), a1⟩, Upd.trans (hu.mono fun k _ e => .inr e) u3 fun k _ e => .inl e, ?_⟩
  rintro k (e | e)
  · exact .inl (.inl e)
  · rcases hr k e with e | e
    · exact .inl (.inr e)
    · exact .inr e
theorem lnew_bad (a b : Int) (w : World) (hbad : a < 1 ∨ 1000 < a ∨ b < 1 ∨ 1000 < b) : Calls Try.prog 8 #[.int .i64 a, .int .i64 b] w fun r w' => r = .returned (.tuple #[.pointer none, .int .i64 1]) ∧ w = w' := by
  by_cases h1 : a < 1
  · go_enter Try.func8, Try.ntmps8
    go_wp2
    go_ret2
    exact ⟨rfl, rfl⟩
  by_cases h2 : 1000 < a
  · go_enter Try.func8, Try.ntmps8
    go_wp2
    go_ret2
    exact ⟨rfl, rfl⟩
  by_cases h3 : b < 1
  · go_enter Try.func8, Try.ntmps8
    go_wp2
    go_ret2
    exact ⟨rfl, rfl⟩
  · have h4 : 1000 < b := by omega
    go_enter Try.func8, Try.ntmps8
    go_wp2
    go_ret2
    exact ⟨rfl, rfl⟩
theorem lnew_good (a b : Int) (w : World) (h1 : 1 ≤ a) (h2 : a ≤ 1000) (h3 : 1 ≤ b) (h4 : b ≤ 1000) : Calls Try.prog 8 #[.int .i64 a, .int .i64 b] w fun r w' => r = .returned (.tuple #[.pointer (some ⟨w.heap.size, 0, none⟩), .int .i64 0]) ∧ LeC w' w.heap.size (a - 2 * b) (.slice none 0 0) ∧ Same w w' := by
  go_enter Try.func8, Try.ntmps8
  go_wp2
  go_ret2
  exact ⟨rfl, LeC.new w _ _ _ _ rfl, (Upd.refl _ w).alloc _⟩
theorem llen_any (hv : LeV base W p v h ls) : Calls Try.prog 15 #[.pointer (some ⟨p, 0, none⟩)] W fun r w' => r = .returned (.int .i64 ls.length) ∧ w' = W := by
  obtain ⟨A, m, cap, rfl, h1, h2, h3⟩ := hv.2.2.1.open_
  rw [sent_length] at h1
  obtain rfl : ls.length = m := by omega
  obtain ⟨⟨c0, c1, c2⟩, hf⟩ := hv.2.1
  clear hf hv h1
  go_enter Try.func15, Try.ntmps15
  go_wp2
  go_ret
  exact ⟨rfl, rfl⟩
theorem lreset_any (hv : LeV base W p v h ls) : Calls Try.prog 13 #[.pointer (some ⟨p, 0, none⟩)] W fun r w' => r = .returned (.tuple #[]) ∧ LGrew base (lfoot p v) W p w' h [] := by
  have H := Lib.hid (hv.set (v1 := .slice none 0 0) (ls' := []) (Own.nil base W 2) (Upd.refl _ W) fun k hk => by simp [room] at hk)
  obtain ⟨⟨c0, c1, c2⟩, hf⟩ := hv.2.1
  have f1 := hf 1 (by decide)
  clear hf hv
  go_enter Try.func13, Try.ntmps13
  go_wp2
  refine bodyPost_end (v := .tuple #[]) (by simp [results, Try.results13, go_sem]) rfl ?_
  exact ⟨rfl, lfoot p (.slice none 0 0), ⟨_, H.out.1, fun _ h => h, H.out.1.foot⟩, H.out.2⟩
theorem last_none (hv : LeV base W p v h []) : Calls Try.prog 34 #[.pointer (some ⟨p, 1, none⟩)] W fun r w' => r = .returned (.tuple #[.agg #[.int .i64 0, .int .i64 0], .bool false]) ∧ Same W w' := by
  obtain ⟨A, m, cap, rfl, h1, h2, h3⟩ := hv.2.2.1.open_
  obtain rfl : m = 0 := by simp at h1; omega
  obtain ⟨⟨c0, c1, c2⟩, hf⟩ := hv.2.1
  have hp := hv.2.1.lt
  clear hf hv h1
  go_enter Try.func34, Try.ntmps34
  go_wp2
  refine bodyPost_ret (v := .tuple #[.agg #[.int .i64 0, .int .i64 0], .bool false]) (by simp [results, Try.results34, go_sem]) rfl ⟨rfl, ?_⟩
  exact ((Upd.refl _ W).alloc _).alloc _
theorem last_some {ini : List (Int × Int)} {x : Int × Int} (hv : LeV base W p v h (ini ++ [x])) (hlen : ini.length ≤ 1000) : Calls Try.prog 34 #[.pointer (some ⟨p, 1, none⟩)] W fun r w' => r = .returned (.tuple #[.agg #[.int .i64 x.1, .int .i64 x.2], .bool true]) ∧ Same W w' := by
  obtain ⟨A, m, cap, rfl, h1, h2, h3⟩ := hv.2.2.1.open_
  rw [sent_length] at h1
  obtain rfl : m = ini.length + 1 := by simp at h1; omega
  obtain ⟨b, off, rfl, hc⟩ := Own.at_ hv.2.2.1 (by rw [sent_length]; simp)
  obtain ⟨g0, g1⟩ := sent_get (ini ++ [x]) ini.length (by simp)
  have x0 := hc _ _ g0
  have x1 := hc _ _ g1
  rw [List.getElem_append_right (Nat.le_refl _)] at x0 x1
  simp only [Nat.sub_self, List.getElem_singleton] at x0 x1
  rw [← Nat.add_assoc] at x1
  obtain ⟨⟨c0, c1, c2⟩, hf⟩ := hv.2.1
  have hp := hv.2.1.lt
  have hb := World.block_lt_of_cell? W _ x0
  obtain ⟨x, y⟩ := x
  simp only at x0 x1 hb
  generalize ini.length = k at x0 x1 c1 h2 hlen
  have e1 : IntKind.i64.wrap (k : Int) = (k : Int) := by rw [IntKind.wrap_i64]; omega
  have g2 : (k : Int) < (k : Int) + 1 := by omega
  have g3 : (0 : Int) ≤ (k : Int) := by omega
  have nw1 := World.new_ne W _ c1
  have nw2 := World.new_ne W _ x0
  clear hf hv h1 hc g0 g1
  go_enter Try.func34, Try.ntmps34
  go_wp2_with fail
  go_region_law (fail)
  all_goals
    go_wp2_with fail
    refine bodyPost_ret (v := .tuple #[.agg #[.int .i64 x, .int .i64 y], .bool true]) (by simp [results, Try.results34, go_sem]) rfl ⟨rfl, ?_⟩
    first
    | exact (((Upd.refl _ W).alloc _).alloc _).drew
    | trace_state
theorem hinfo_sent : (Try.prog.info? 71).map (fun i => (i.zero, i.size, i.bytes)) = some (some (.agg #[.int .i64 0, .int .i64 0]), 2, 16) := by kernel_rfl
/-- What is remembered behind a round more. -/
def pushL (ls : List (Int × Int)) (x : Int × Int) : List (Int × Int) := if ls.length < 100 then ls ++ [x] else (ls ++ [x]).drop 1
set_option maxHeartbeats 1000000 in
theorem push_any (hv : LeV base W p v h ls) (hb : base ≤ W.heap.size) (hlen : ls.length ≤ 100) (x y : Int) : Calls Try.prog 35 #[.pointer (some ⟨p, 1, none⟩), .agg #[.int .i64 x, .int .i64 y]] W fun r w' => r = .returned (.tuple #[]) ∧ LGrew base (lfoot p v) W p w' h (pushL ls (x, y)) := by
  obtain ⟨⟨c0, c1, c2⟩, hf⟩ := hv.2.1
  have hp := hv.2.1.lt
  have H := Lib.hid hv
  have HB := Lib.hid hb
  have HL := Lib.hid hlen
  clear hf hv hlen
  go_enter Try.func35, Try.ntmps35
  go_wp2_with fail
  go_region_law (first
    | (refine step_append_own rfl (.tmp 8) (.tmp 10) 65 rfl Try.underlying65 hinfo_sent rfl (by decide) v _ rfl rfl (H.out.2.2.1.same ((((Upd.refl _ _).alloc _).alloc _).drew)) ((Rdr.box (W.alloc _) [.int .i64 x, .int .i64 y] _ _ (W.heap.size + 1) (by simp) 2 rfl).same (Upd.refl _ _).drew) (by simp; exact ⟨rfl, rfl⟩) (by simp; omega) ls.length 1 (sent_length _) rfl (by have := HL.out; omega) (by have := HL.out; omega) ?_; intro v6 w6 hf6 hu6 hr6; obtain ⟨zA, zn, zc, rfl, zl, zm, -⟩ := Own.open_ hf6; have hc6 := (H.out.2.1.upd ((((Upd.refl (fun _ => False) W).alloc _).alloc _).drew) (fun h => h)).upd hu6 H.out.2.2.2; have d61 := hc6.1.2.1; have d62 := hc6.1.2.2; have f61 := hc6.2 1 (by decide); have hu60 := Same.then ((((Upd.refl (fun _ => False) W).alloc _).alloc _).drew) hu6; have HF6 := Lib.hid hf6; have HU6 := Lib.hid hu60; have HR6 := Lib.hid hr6; clear hf6 hu6 hr6 hc6 hu60))
  all_goals
    obtain ⟨r1, r2, r3⟩ := LeV.set (ls' := ls ++ [(x, y)]) H.out (by rw [List.flatMap_append]; simpa [sentC] using HF6.out) HU6.out (fun k hk => (HR6.out k hk).imp (fun h => h) fun e => by simp at e; omega)
    have hzn : zn = ls.length + 1 := by
      rw [List.length_append, sent_length] at zl
      simp at zl
      omega
    generalize w6.setCell ⟨p, 1, none⟩ (.slice zA zn zc) = w7 at r1 r2 ⊢
    obtain ⟨⟨m0, m1, m2⟩, mf⟩ := r1.2.1
    have n1 := mf 1 (by decide)
    have HR := Lib.hid (And.intro r1 (And.intro r2 r3))
    have HL2 := HL.out
    subst hzn
    clear r1 r2 r3 mf HF6 HU6 HR6 d61 d62 f61 c0 c1 c2 zl
    by_cases hl : ls.length < 100
    · have g1 : ¬ (100 : Int) < (ls.length : Int) + 1 := by omega
      have HP : Hid (pushL ls (x, y) = ls ++ [(x, y)]) := Lib.hid (if_pos hl)
      go_wp2_with fail
      go_quiet (fail)
      go_wp2_with fail
      refine bodyPost_end (v := .tuple #[]) (by simp [results, Try.results35, go_sem]) rfl ?_
      refine ⟨rfl, ?_⟩
      rw [HP.out]
      have hs := (Upd.refl (fun _ => False) w7).drewN
      exact ⟨_, ⟨_, HR.out.1.upd (hs _) (fun _ _ h => h), fun _ h => h, (HR.out.1.upd (hs _) (fun _ _ h => h)).foot⟩, Step.trans ⟨HR.out.2.1, HR.out.2.2⟩ (Step.same (hs _))⟩
    · have hl1 : ls.length = 100 := by omega
      have HP : Hid (pushL ls (x, y) = (ls ++ [(x, y)]).drop 1) := Lib.hid (if_neg hl)
      have g1 : (100 : Int) < (ls.length : Int) + 1 := by omega
      have g2 : ¬ zc = 1 := by omega
      have g3 : 1 ≤ zc := by omega
      have g4 : (1 : Int) ≤ (ls.length : Int) + 1 := by omega
      clear hl1
      go_wp2_with fail
      go_quiet (fail)
      rename_i nq
      have hs := (Upd.refl (fun _ => False) w7).drewN nq
      have hq := HR.out.1.upd hs (fun _ _ h => h)
      have hst : Step (lfoot p v) _ W (w7.drewN nq) := Step.trans ⟨HR.out.2.1, HR.out.2.2⟩ (Step.same hs)
      generalize w7.drewN nq = w8 at hq hst ⊢
      have k1 := hq.2.1.1.2.1
      have kf := hq.2.1.2 1 (by decide)
      have HQ := Lib.hid hq
      have HST := Lib.hid hst
      obtain ⟨b, off, rfl, hcs⟩ := Own.at_ hq.2.2.1 (by rw [sent_length]; simp)
      clear hq hst hs HR m0 m1 m2 n1 hcs
      have hbk := Own.back HQ.out.2.2.1 1 (by omega)
      rw [if_neg g2, show (1 * 2 : Nat) = 1 * 2 from rfl, sent_drop] at hbk
      have HBK := Lib.hid hbk
      have HRB := Lib.hid (room_back (some ⟨b, off, none⟩) (ls.length + 1) (ls.length + 1 - 1) zc 1 2)
      clear hbk
      go_wp2_with fail
      refine bodyPost_end (v := .tuple #[]) (by simp [results, Try.results35, go_sem]) rfl ?_
      refine ⟨rfl, ?_⟩
      rw [HP.out]
      have hrb := HRB.out
      rw [if_neg g2] at hrb
      obtain ⟨t1, t2, t3⟩ := LeV.set (ls' := (ls ++ [(x, y)]).drop 1) HQ.out HBK.out (Upd.refl _ _) fun k hk => .inl (hrb k hk)
      exact ⟨_, ⟨_, t1, fun _ h => h, t1.foot⟩, Step.trans HST.out ⟨t2, t3⟩⟩
end
end Go.Proofs.Ytoepflfchcoogaa
