/- Letters (chapter 17): the reference's Next: its row cut at the front, the field's reader, die. -/
import Derived.Test.YtfafepmghcobdaaPduZ0
import Derived.Test.YtfafepmghcobdaaGa
namespace Go.Proofs.Ytfafepmghcobdaa
open Go.RowKit
set_option linter.unusedVariables false
set_option linter.unusedSimpArgs false
set_option maxRecDepth 100000
set_option maxHeartbeats 8000000
attribute [local go_sem ↓] Go.wp_at_zero Go.wp_at_succ
theorem tmod64 (n : Int) (h : 0 ≤ n ∧ n ≤ 255) : Int.tmod n 64 = n % 64 := by rw [Int.tmod_eq_emod_of_nonneg h.1]
theorem tdiv64 (n : Int) (h : 0 ≤ n ∧ n ≤ 255) : Int.tdiv n 64 = n / 64 := by rw [Int.tdiv_eq_ediv_of_nonneg h.1]
theorem at8_drop (l : List UInt8) (s k : Nat) : at8 (l.drop s) k = at8 l (s + k) := by
  unfold at8
  rw [List.getD_eq_getElem?_getD, List.getD_eq_getElem?_getD, List.getElem?_drop]
theorem Bs.capL {w : World} {A : Option Addr} {n cap : Nat} {bs : List UInt8} (h : Bs w (.slice A n cap) bs) : n = bs.length ∧ bs.length ≤ cap ∧ cap ≤ 9223372036854775807 := by
  obtain ⟨_, _, e, h1, h2, _⟩ := h
  injection e with _ e2 e3
  subst e3
  exact ⟨e2, h1, h2⟩
theorem Fresh.dropB {base : Nat} {w : World} {A : Option Addr} {n cap : Nat} {xs : List UInt8} (h : Fresh base w (.slice A n cap) xs) (k : Nat) (hk : k ≤ n) :
    Fresh base w (.slice (if cap = k then A else A.map (·.add k)) (n - k) (cap - k)) (xs.drop k) := by
  have h2 := Own.back h k hk
  simp only [Nat.mul_one] at h2
  unfold Fresh
  rw [List.map_drop]
  exact h2
/-- The field's reader at block P stands behind a bytes; the letter's box X lies above it. -/
def PF (base : Nat) (w wr : World) (b : Nat) (v : Value) (r : Rd1) (P X : Nat) (bs : List UInt8) (a : Nat) : Prop :=
  NS base w wr b v r ∧ (∃ u, WObj (w.heap.size + 1) wr P u (bs.drop a) 0 ∧ ∀ k, foot P u k → k < X) ∧ (∀ k, rft b v k → k < w.heap.size) ∧ w.heap.size < P ∧ P < X
theorem PF.same {base : Nat} {w wr w' : World} {b : Nat} {v : Value} {r : Rd1} {P X : Nat} {bs : List UInt8} {a : Nat} (h : PF base w wr b v r P X bs a) (hs : Same wr w') : PF base w w' b v r P X bs a := by
  obtain ⟨hn, ⟨u, ho, hft⟩, h3, h4⟩ := h
  exact ⟨hn.same hs, ⟨u, ho.upd hs (fun _ _ h => h), hft⟩, h3, h4⟩
theorem NS.upd {base : Nat} {w wi wj : World} {b : Nat} {v : Value} {r : Rd1} {S : Nat → Prop} (h : NS base w wi b v r) (hu : Upd S wi wj) (h0 : ∀ k, rft b v k → k < w.heap.size) (hS : ∀ k, S k → w.heap.size < k) : NS base w wj b v r :=
  ⟨h.1.upd hu (fun k hk e => by have := h0 k hk; have := hS k e; omega), h.2.1.upd (by decide) hu (fun e => by have := hS _ e; omega), Same.into h.2.2 hu (fun k hk => by have := hS k hk; omega)⟩
theorem PF.setX {base : Nat} {w wr : World} {b : Nat} {v : Value} {r : Rd1} {P X j : Nat} {bs : List UInt8} {a : Nat} {u : Value} (h : PF base w wr b v r P X bs a) : PF base w (wr.setCell ⟨X, j, none⟩ u) b v r P X bs a := by
  obtain ⟨hn, ⟨u', ho, hft⟩, h3, h4, h5⟩ := h
  have hu : Upd (fun k => k = X) wr (wr.setCell ⟨X, j, none⟩ u) := (Upd.refl (fun k => k = X) wr).setCell (p := ⟨X, j, none⟩) (fun _ => rfl) _
  exact ⟨hn.upd hu h3 (fun k hk => by omega), ⟨u', ho.upd hu (fun k hk e => by have := hft k hk; omega), hft⟩, h3, h4, h5⟩
theorem PF.num {base : Nat} {w wr : World} {b : Nat} {v : Value} {r : Rd1} {P X : Nat} {bs : List UInt8} {a : Nat} (h : PF base w wr b v r P X bs a) (s : Nat) (h1 : 1 ≤ s) (h8 : s ≤ 8) (hl : a + s ≤ bs.length) (hm : bs.length ≤ 100000) :
    Calls Try.prog 47 #[.pointer (some ⟨P, 0, none⟩), .int .i64 (s : Int)] wr fun e w' => e = .returned (.int .i64 (wrap64 (pn bs a s))) ∧ PF base w w' b v r P X bs (a + s) ∧ Upd (fun k => k = P) wr w' := by
  obtain ⟨hn, ⟨u, ho, hft⟩, h3, h4, h5⟩ := h
  refine (rrnum_any P u (bs.drop a) 0 (s : Int) wr ho (by rw [List.length_drop]; omega) (by omega) (by omega)).mono ?_
  rintro e w' ⟨rfl, u', ho', hu, hroom⟩
  have hE : rnE 0 (s : Int) (bs.drop a).length = 0 := by
    unfold rnE
    rw [if_neg (by decide), if_neg (by omega), if_neg (by rw [List.length_drop]; omega)]
  rw [hE] at ho'
  have hL : rnL (bs.drop a) 0 (s : Int) = bs.drop (a + s) := by unfold rnL; rw [hE, if_pos rfl, Int.toNat_natCast, List.drop_drop]
  rw [hL] at ho'
  refine ⟨?_, ⟨hn.upd hu h3 (fun k hk => by omega), ⟨u', ho', fun k hk => ?_⟩, h3, h4, h5⟩, hu⟩
  · unfold rnN pn
    rw [hE, if_pos rfl, Int.toNat_natCast]
  · rcases hk with hk | hk
    · omega
    · exact hft k (.inr (hroom k hk))
/-- A number of four bytes at most. -/
theorem PF.num4 {base : Nat} {w wr : World} {b : Nat} {v : Value} {r : Rd1} {P X : Nat} {bs : List UInt8} {a : Nat} (h : PF base w wr b v r P X bs a) (s : Nat) (h1 : 1 ≤ s) (h4 : s ≤ 4) (hl : a + s ≤ bs.length) (hm : bs.length ≤ 100000) :
    Calls Try.prog 47 #[.pointer (some ⟨P, 0, none⟩), .int .i64 (s : Int)] wr fun e w' => e = .returned (.int .i64 (pn bs a s)) ∧ PF base w w' b v r P X bs (a + s) ∧ Upd (fun k => k = P) wr w' := by
  have := h.num s h1 (by omega) hl hm
  rwa [wrap64_small (by have := pn_small bs a s h4; omega)] at this
theorem PF.up {base : Nat} {w wr : World} {b : Nat} {v : Value} {r : Rd1} {P X Y : Nat} {bs : List UInt8} {a : Nat} (h : PF base w wr b v r P X bs a) (hXY : X ≤ Y) : PF base w wr b v r P Y bs a := by
  obtain ⟨hn, ⟨u, ho, hft⟩, h3, h4, h5⟩ := h
  exact ⟨hn, ⟨u, ho, fun k hk => Nat.lt_of_lt_of_le (hft k hk) hXY⟩, h3, h4, Nat.lt_of_lt_of_le h5 hXY⟩
/-- A new field's reader. -/
theorem pof_any {base : Nat} {w wr : World} {b : Nat} {v : Value} {r : Rd1} (h0 : RdV base w b v r) (h : NS base w wr b v r) (u : Value) (bs : List UInt8) (hb : Bs wr u bs) (hl : bs.length ≤ 100000) :
    Calls Try.prog 46 #[u] wr fun e w' => ∃ P, e = .returned (.pointer (some ⟨P, 0, none⟩)) ∧ PF base w w' b v r P w'.heap.size bs 0 := by
  refine (of_any u bs wr hb (by omega)).mono ?_
  rintro e w' ⟨P, u', rfl, ho, hs⟩
  have hz : w.heap.size + 1 ≤ wr.heap.size := by have := h.2.1.lt (by decide); omega
  refine ⟨P, rfl, h.same hs, ⟨u', ⟨by have := ho.1; omega, ho.2.1, ho.2.2.1.mono hz, ho.2.2.2⟩, fun k hk => (ho.foot k hk).2⟩, fun k hk => (h0.foot k hk).2, by have := ho.1; omega, (ho.foot P (.inl rfl)).2⟩
/-- A letter's box. -/
theorem PF.box {base : Nat} {w wr : World} {b : Nat} {v : Value} {r : Rd1} {P : Nat} {bs : List UInt8} {a : Nat} (h : PF base w wr b v r P wr.heap.size bs a) (C : List Value) (t : TypeId) : PF base w (wr.alloc (.cells C.toArray t)) b v r P wr.heap.size bs a := h.same ((Upd.refl _ _).alloc _)
/-- A result that lies in a box, with an error and a flag. -/
theorem rnext_ret (p : Pd) (A : Option Addr) (n cap : Nat) {x : Int} {y : Bool} {a : Act} {w' : World} {b : Nat} {Q : Ending → World → Prop} (hp : a.tmps[2]? = some (.pointer (some ⟨b, 0, none⟩))) (h3 : a.tmps[3]? = some (.int .i64 x)) (h4 : a.tmps[4]? = some (.bool y)) (hdf : a.defers = []) (hbox : BoxAt w' b p (.slice A n cap)) (hQ : Q (.returned (.tuple #[pdA p (.slice A n cap), .int .i64 x, .bool y])) w') : bodyPost Try.prog Try.f27 Q .ret a w' := by
  have k0 := hbox 0 _ rfl
  have k1 := hbox 1 _ rfl
  have k2 := hbox 2 _ rfl
  have k3 := hbox 3 _ rfl
  have k4 := hbox 4 _ rfl
  have k5 := hbox 5 _ rfl
  have k6 := hbox 6 _ rfl
  have k7 := hbox 7 _ rfl
  have k8 := hbox 8 _ rfl
  have k9 := hbox 9 _ rfl
  have k10 := hbox 10 _ rfl
  have k11 := hbox 11 _ rfl
  have k12 := hbox 12 _ rfl
  have k13 := hbox 13 _ rfl
  have k14 := hbox 14 _ rfl
  refine bodyPost_ret (v := .tuple #[.agg #[.int .i64 p.op, .bool p.now, .int .i64 p.flags, .int .i64 p.b2, .int .i64 p.b3, .int .u64 p.lun, .int .u32 p.task, .int .u32 (wd p 0), .int .u32 (wd p 1), .int .u32 (wd p 2), .int .u32 (wd p 3), .int .u32 (wd p 4), .int .u32 (wd p 5), .int .u32 (wd p 6), .slice A n cap], .int .i64 x, .bool y]) (by simp [results, Try.results27, go_sem, asAddr, Result.andThen, hp, h3, h4, k0, k1, k2, k3, k4, k5, k6, k7, k8, k9, k10, k11, k12, k13, k14]) hdf hQ
theorem rdie_ret (p : Pd) (A : Option Addr) (n cap : Nat) {x : Int} {y : Bool} {a : Act} {w' : World} {b : Nat} {Q : Ending → World → Prop} (hp : a.tmps[4]? = some (.pointer (some ⟨b, 0, none⟩))) (h3 : a.tmps[5]? = some (.int .i64 x)) (h4 : a.tmps[6]? = some (.bool y)) (hdf : a.defers = []) (hbox : BoxAt w' b p (.slice A n cap)) (hQ : Q (.returned (.tuple #[pdA p (.slice A n cap), .int .i64 x, .bool y])) w') : bodyPost Try.prog Try.f45 Q .ret a w' := by
  have k0 := hbox 0 _ rfl
  have k1 := hbox 1 _ rfl
  have k2 := hbox 2 _ rfl
  have k3 := hbox 3 _ rfl
  have k4 := hbox 4 _ rfl
  have k5 := hbox 5 _ rfl
  have k6 := hbox 6 _ rfl
  have k7 := hbox 7 _ rfl
  have k8 := hbox 8 _ rfl
  have k9 := hbox 9 _ rfl
  have k10 := hbox 10 _ rfl
  have k11 := hbox 11 _ rfl
  have k12 := hbox 12 _ rfl
  have k13 := hbox 13 _ rfl
  have k14 := hbox 14 _ rfl
  refine bodyPost_ret (v := .tuple #[.agg #[.int .i64 p.op, .bool p.now, .int .i64 p.flags, .int .i64 p.b2, .int .i64 p.b3, .int .u64 p.lun, .int .u32 p.task, .int .u32 (wd p 0), .int .u32 (wd p 1), .int .u32 (wd p 2), .int .u32 (wd p 3), .int .u32 (wd p 4), .int .u32 (wd p 5), .int .u32 (wd p 6), .slice A n cap], .int .i64 x, .bool y]) (by simp [results, Try.results45, go_sem, asAddr, Result.andThen, hp, h3, h4, k0, k1, k2, k3, k4, k5, k6, k7, k8, k9, k10, k11, k12, k13, k14]) hdf hQ
/-- Behind the letter's bytes: the reader's row is cut at its front. -/
structure RNx (base : Nat) (w wt : World) (b : Nat) (v v2 : Value) (r r' : Rd1) (X : Nat) (q : Pd) : Prop where
  rd : RdV base wt b v2 r'
  upd : Upd (rft b v) w wt
  rooms : ∀ k, room v2 = some k → room v = some k
  old : Fresh base wt v r.b
  zero : BoxC wt w.heap.size (pdC noP (.slice none 0 0))
  box : BoxC wt X (pdC q (.slice none 0 0))
  far : w.heap.size < X
theorem RNx.mk' {base : Nat} {w wi : World} {b : Nat} {v v2 : Value} {r : Rd1} {X : Nat} {q : Pd} (h0 : RdV base w b v r) (h : NS base w wi b v r) (hx : BoxC wi X (pdC q (.slice none 0 0))) (hX : w.heap.size < X) (hf : Fresh base wi v2 (r.b.drop r.all)) (hr : ∀ k, room v2 = some k → room v = some k) : RNx base w (wi.setCell ⟨b, 3, none⟩ v2) b v v2 r r.rest X q := by
  have hlt := h0.lt
  have hne : ¬ room v2 = some b := fun e => h0.2.2.2.2 (hr b e)
  have hu : Upd (fun k => k = b) wi (wi.setCell ⟨b, 3, none⟩ v2) := (Upd.refl (fun k => k = b) wi).setCell (p := ⟨b, 3, none⟩) (fun _ => rfl) _
  refine ⟨h.1.row hf hne, ?_, hr, h.1.2.2.2.1.upd hu (fun k hk e => h0.2.2.2.2 (by rw [hk, e])), h.2.1.skip (by omega), hx.skip (by omega), hX⟩
  exact (h.2.2.mono (fun _ _ h => h.elim)).trans hu (fun i hi e => .inl e)
theorem RNx.same {base : Nat} {w wt wu : World} {b : Nat} {v v2 : Value} {r r' : Rd1} {X : Nat} {q : Pd} (h : RNx base w wt b v v2 r r' X q) (hs : Same wt wu) : RNx base w wu b v v2 r r' X q :=
  ⟨h.rd.same hs, Same.trans h.upd hs, h.rooms, h.old.same hs, h.zero.upd (by decide) hs id, h.box.upd (by simp [pdC]) hs id, h.far⟩
theorem RNx.low {base : Nat} {w wt : World} {b : Nat} {v v2 : Value} {r r' : Rd1} {X : Nat} {q : Pd} (h0 : RdV base w b v r) (h : RNx base w wt b v v2 r r' X q) : ∀ k, rft b v2 k → k < w.heap.size := by
  rintro k (hk | hk)
  · have := h0.lt; omega
  · exact (h0.foot k (.inr (h.rooms k hk))).2
theorem RNx.exit {base : Nat} {w wt wz : World} {b : Nat} {v v2 : Value} {r r' : Rd1} {X : Nat} {q : Pd} (h0 : RdV base w b v r) (h : RNx base w wt b v v2 r r' X q) (hq : q.data = []) (hu : Upd (fun k => k = w.heap.size) wt wz) (E : Int) (ok : Bool) : NextPost base w b v (q, E, ok, r') (.returned (.tuple #[pdA q (.slice none 0 0), .int .i64 E, .bool ok])) wz :=
  ⟨none, 0, 0, rfl, by rw [hq]; exact Fresh.nil _ _, v2, h.rd.upd hu (fun k hk e => by have := h.low h0 k hk; omega), h.upd.trans hu (fun i hi e => by omega), fun k hk => .inl (h.rooms k hk), fun k hk => by simp [room] at hk⟩
theorem RNx.good {base : Nat} {w wt wk wz : World} {b : Nat} {v v2 v3 : Value} {r r' : Rd1} {X : Nat} {q : Pd} {ds : List UInt8} (h0 : RdV base w b v r) (h : RNx base w wt b v v2 r r' X q) (hs : Same wt wk) {A : Option Addr} {n cap : Nat} (hv : v3 = .slice A n cap) (hf : Fresh wt.heap.size wk v3 ds) (hu : Upd (fun k => k = w.heap.size) (wk.setCell ⟨X, 14, none⟩ v3) wz) : NextPost base w b v ({ q with data := ds }, 0, true, r') (.returned (.tuple #[pdA q v3, .int .i64 0, .bool true])) wz := by
  subst hv
  have hX := h.box.lt (by simp [pdC])
  have hfar := h.far
  have hlt := h0.lt
  have hoff : ∀ k, rft b v2 k → ¬ k = w.heap.size ∧ ¬ k = X := fun k hk => by have := h.low h0 k hk; omega
  have h1 := h.same hs
  have hu1 : Upd (fun k => k = X) wk (wk.setCell ⟨X, 14, none⟩ (.slice A n cap)) := (Upd.refl (fun k => k = X) wk).setCell (p := ⟨X, 14, none⟩) (fun _ => rfl) _
  have hu2 : Upd (fun k => k = X ∨ k = w.heap.size) wk wz := (hu1.mono (fun _ _ h => .inl h)).trans hu (fun i hi e => .inr e)
  have hge : ∀ k, room (.slice A n cap) = some k → wt.heap.size ≤ k := fun k hk => (hf.ge k hk).1
  refine ⟨A, n, cap, rfl, (hf.upd hu2 (fun k hk e => by have := hge k hk; omega)).mono (by have := h.upd.size; omega), v2, h1.rd.upd hu2 (fun k hk e => by have := hoff k hk; omega), h1.upd.trans hu2 (fun i hi e => by omega), fun k hk => .inl (h.rooms k hk), fun k hk hr => ?_⟩
  have h2 := hge k hk
  have h3 := (h.rd.foot k hr).2
  omega
theorem rdie_end {base : Nat} {w w1 w2 wz : World} {b : Nat} {v : Value} {r : Rd1} (hg : RdG base w1 b v w2 r.die) (hd : RdV base w2 b (.slice none 0 0) r.die) (hlt : b < w.heap.size) (hs : Same w w1) (hu : Upd (fun k => k = w.heap.size) w2 wz) : RdG base w b v wz r.die := by
  obtain ⟨v', hv, hw, hr⟩ := hg
  refine ⟨.slice none 0 0, ?_, ?_, fun k hk => by simp [room] at hk⟩
  · exact hd.upd hu (fun k hk e => by
      rcases hk with hk | hk
      · omega
      · simp [room] at hk)
  · have h1 : Upd (rft b v) w w2 := Same.then hs hw
    exact h1.trans hu (fun i hi e => by omega)
theorem rdie_any {base : Nat} {w : World} {b : Nat} {v : Value} {r : Rd1} (h : RdV base w b v r) (why : Int) : Calls Try.prog 45 #[.pointer (some ⟨b, 0, none⟩), .int .i64 why] w fun e w' => e = .returned (.tuple #[pdA noP (.slice none 0 0), .int .i64 why, .bool true]) ∧ RdG base w b v w' r.die := by
  have hlt := h.lt
  have h1 := h.same (w' := w.alloc (.cells #[.int .i64 0, .bool false, .int .i64 0, .int .i64 0, .int .i64 0, .int .u64 0, .int .u32 0, .int .u32 0, .int .u32 0, .int .u32 0, .int .u32 0, .int .u32 0, .int .u32 0, .int .u32 0, .slice none 0 0] 42)) ((Upd.refl _ _).alloc _)
  have hbx : BoxC (w.alloc (.cells #[.int .i64 0, .bool false, .int .i64 0, .int .i64 0, .int .i64 0, .int .u64 0, .int .u32 0, .int .u32 0, .int .u32 0, .int .u32 0, .int .u32 0, .int .u32 0, .int .u32 0, .int .u32 0, .slice none 0 0] 42)) w.heap.size (pdC noP (.slice none 0 0)) := BoxC.newAt w (pdC noP (.slice none 0 0)) 42 w.heap.size rfl
  have hs : Same w (w.alloc (.cells #[.int .i64 0, .bool false, .int .i64 0, .int .i64 0, .int .i64 0, .int .u64 0, .int .u32 0, .int .u32 0, .int .u32 0, .int .u32 0, .int .u32 0, .int .u32 0, .int .u32 0, .int .u32 0, .slice none 0 0] 42)) := (Upd.refl _ _).alloc _
  have HLT := Lib.hid hlt
  go_enter Try.func45, Try.ntmps45
  go_upto_region 1 with (fail)
  generalize w.alloc (.cells #[.int .i64 0, .bool false, .int .i64 0, .int .i64 0, .int .i64 0, .int .u64 0, .int .u32 0, .int .u32 0, .int .u32 0, .int .u32 0, .int .u32 0, .int .u32 0, .int .u32 0, .int .u32 0, .slice none 0 0] 42) = w1 at h1 hbx hs ⊢
  have c3 := h1.2.1 3 _ rfl
  have c4 := h1.2.1 4 _ rfl
  have fz := h1.2.2.1
  unfold FzAt at fz
  have hb2 : BoxC ((w1.setCell ⟨b, 3, none⟩ (.slice none 0 0)).setCell ⟨b, 4, none⟩ (.bool true)) w.heap.size (pdC noP (.slice none 0 0)) := (hbx.skip (by omega)).skip (by omega)
  have HG := Lib.hid (RdG.dies h1)
  have HD := Lib.hid h1.dies
  have HX := Lib.hid hb2
  have HS := Lib.hid hs
  clear h h1 hbx hlt hs hb2
  go_upto_region 3 with (fail)
  generalize (w1.setCell ⟨b, 3, none⟩ (.slice none 0 0)).setCell ⟨b, 4, none⟩ (.bool true) = w2 at HG HD HX ⊢
  have z0 := HX.out.1 0 _ rfl
  have z1 := HX.out.1 1 _ rfl
  have z2 := HX.out.1 2 _ rfl
  have z3 := HX.out.1 3 _ rfl
  have z4 := HX.out.1 4 _ rfl
  have z5 := HX.out.1 5 _ rfl
  have z6 := HX.out.1 6 _ rfl
  have z7 := HX.out.1 7 _ rfl
  have z8 := HX.out.1 8 _ rfl
  have z9 := HX.out.1 9 _ rfl
  have z10 := HX.out.1 10 _ rfl
  have z11 := HX.out.1 11 _ rfl
  have z12 := HX.out.1 12 _ rfl
  have z13 := HX.out.1 13 _ rfl
  have z14 := HX.out.1 14 _ rfl
  have fzx := HX.out.2
  unfold FzAt at fzx
  clear c3 c4 fz
  go_wp2_with fail
  refine rdie_ret (b := w.heap.size) noP none 0 0 (x := why) (y := true) ?_ ?_ ?_ ?_ (BoxTo.full ?_) ?_
  · rfl
  · rfl
  · rfl
  · rfl
  · iterate 15 refine BoxTo.step ?_ (by decide) rfl
    exact BoxTo.zero noP noP (.slice none 0 0) (.slice none 0 0) HX.out.1
  · refine ⟨rfl, rdie_end HG.out HD.out HLT.out HS.out ?_⟩
    repeat refine Upd.setCell ?_ (by simp) _
    exact Upd.refl _ _
end Go.Proofs.Ytfafepmghcobdaa
