/- Letters (chapter 17): the program's Next. -/
import Derived.Test.YtfafepmghcobdaaPduY
import Derived.Test.YtfafepmghcobdaaGa
import Derived.Deep.CutRange
import Derived.Deep.CutBlock
import Derived.Deep.Cut
import Derived.Deep.DeepCutAuto
namespace Go.Proofs.Ytfafepmghcobdaa
open Go.RowKit
set_option linter.unusedVariables false
set_option linter.unusedSimpArgs false
set_option maxRecDepth 100000
set_option maxHeartbeats 8000000
attribute [local go_sem ↓] Go.wp_at_zero Go.wp_at_succ
/-- What comes of Next. -/
def NextPost (base : Nat) (w : World) (b : Nat) (v : Value) (x : Pd × Int × Bool × Rd1) (e : Ending) (w' : World) : Prop :=
  ∃ A n cap, e = .returned (.tuple #[pdA x.1 (.slice A n cap), .int .i64 x.2.1, .bool x.2.2.1]) ∧ Fresh w.heap.size w' (.slice A n cap) x.1.data ∧ ∃ v', RdV base w' b v' x.2.2.2 ∧ Upd (rft b v) w w' ∧ (∀ k, room v' = some k → room v = some k ∨ w.heap.size ≤ k) ∧ ∀ k, room (.slice A n cap) = some k → ¬ rft b v' k
/-- While Next walks: the reader is as it was; the result's box is empty. -/
def NS (base : Nat) (w wi : World) (b : Nat) (v : Value) (r : Rd1) : Prop := RdV base wi b v r ∧ BoxC wi w.heap.size (pdC noP (.slice none 0 0)) ∧ Same w wi
theorem NS.same {base : Nat} {w wi wj : World} {b : Nat} {v : Value} {r : Rd1} (h : NS base w wi b v r) (hs : Same wi wj) : NS base w wj b v r := ⟨h.1.same hs, h.2.1.upd (by decide) hs id, Same.trans h.2.2 hs⟩
theorem NS.init {base : Nat} {w : World} {b : Nat} {v : Value} {r : Rd1} (h : RdV base w b v r) (t : TypeId) : NS base w (w.alloc (.cells (pdC noP (.slice none 0 0)).toArray t)) b v r :=
  ⟨h.same ((Upd.refl _ _).alloc _), BoxC.newAt w _ t _ rfl, (Upd.refl _ _).alloc _⟩
theorem RdV.off {base : Nat} {w wi wz : World} {b : Nat} {v : Value} {r : Rd1} (h : RdV base wi b v r) (hlt : ∀ k, rft b v k → k < w.heap.size) (hu : Upd (fun k => k = w.heap.size) wi wz) : RdV base wz b v r := h.upd hu (fun k hk e => by have := hlt k hk; omega)
theorem NS.exit {base : Nat} {w wi wz : World} {b : Nat} {v : Value} {r : Rd1} (h0 : RdV base w b v r) (h : NS base w wi b v r) (hu : Upd (fun k => k = w.heap.size) wi wz) (E : Int) (ok : Bool) : NextPost base w b v (noP, E, ok, r) (.returned (.tuple #[pdA noP (.slice none 0 0), .int .i64 E, .bool ok])) wz :=
  ⟨none, 0, 0, rfl, Fresh.nil _ _, v, h.1.off (fun k hk => (h0.foot k hk).2) hu, (Same.into h.2.2 hu (fun k hk => by omega)).mono (fun _ _ h => h.elim), fun k hk => .inl hk, fun k hk => by simp [room] at hk⟩
theorem NS.exitDie {base : Nat} {w wi wd wz : World} {b : Nat} {v : Value} {r : Rd1} (h0 : RdV base w b v r) (h : NS base w wi b v r) (hg : RdG base wi b v wd r.die) (hu : Upd (fun k => k = w.heap.size) wd wz) (E : Int) : NextPost base w b v (noP, E, true, r.die) (.returned (.tuple #[pdA noP (.slice none 0 0), .int .i64 E, .bool true])) wz := by
  obtain ⟨v', hv, hw, hr⟩ := hg
  have hft : ∀ k, rft b v' k → ¬ k = w.heap.size := by
    intro k hk e
    rcases hk with hk | hk
    · have := h0.lt; omega
    · rcases hr k hk with h1 | h1
      · have := (h0.foot k (.inr h1)).2; omega
      · have := h.2.1.lt (by decide); omega
  have hlow := hw.mono (T := rft b v) (fun _ _ h => h)
  refine ⟨none, 0, 0, rfl, Fresh.nil _ _, v', hv.upd hu hft, ?_, fun k hk => (hr k hk).imp_right fun h1 => Nat.le_trans h.2.2.size h1, fun k hk => by simp [room] at hk⟩
  have h1 : Upd (rft b v) w wd := Same.then h.2.2 hw
  exact h1.trans hu (fun i hi e => by omega)
theorem NS.die {base : Nat} {w wi wd : World} {b : Nat} {v : Value} {r r' : Rd1} (h0 : RdV base w b v r) (h : NS base w wi b v r) (hg : RdG base wi b v wd r') : BoxC wd w.heap.size (pdC noP (.slice none 0 0)) := by
  obtain ⟨v', hv, hw, hr⟩ := hg
  exact h.2.1.upd (by decide) hw (fun e => by have := (h0.foot _ e).2; omega)
/-- Behind the letter's bytes: the reader's row is another one; the old one is as it was. -/
structure NextSt (base : Nat) (w wt : World) (b : Nat) (v v2 : Value) (r r' : Rd1) (X : Nat) (q : Pd) : Prop where
  rd : RdV base wt b v2 r'
  upd : Upd (rft b v) w wt
  fresh : ∀ k, room v2 = some k → w.heap.size ≤ k
  old : Fresh base wt v r.b
  zero : BoxC wt w.heap.size (pdC noP (.slice none 0 0))
  box : BoxC wt X (pdC q (.slice none 0 0))
  far : w.heap.size < X
  apart : ∀ k, room v2 = some k → X < k
theorem NextSt.mk' {base : Nat} {w wi wk : World} {b : Nat} {v v2 : Value} {r : Rd1} {X : Nat} {q : Pd} (h0 : RdV base w b v r) (h : NS base w wi b v r) (hx : BoxC wi X (pdC q (.slice none 0 0))) (hX : w.heap.size < X) (hs : Same wi wk) (hf : Fresh wi.heap.size wk v2 (r.b.drop r.all)) (hb : base ≤ w.heap.size) : NextSt base w (wk.setCell ⟨b, 3, none⟩ v2) b v v2 r r.rest X q := by
  have hlt := h0.lt
  have hne : ¬ room v2 = some b := fun e => by have := (hf.ge b e).1; have := h.1.lt; omega
  have hXi := hx.lt (by simp [pdC])
  have hu : Upd (fun k => k = b) wk (wk.setCell ⟨b, 3, none⟩ v2) := (Upd.refl (fun k => k = b) wk).setCell (p := ⟨b, 3, none⟩) (fun _ => rfl) _
  refine ⟨(h.1.same hs).row (hf.mono (by have := h.2.2.size; omega)) hne, ?_, fun k hk => by have := (hf.ge k hk).1; have := h.2.2.size; omega, (h.1.same hs).2.2.2.1.upd hu (fun k hk e => h0.2.2.2.2 (by rw [hk, e])), (h.2.1.upd (by decide) hs id).skip (by omega), (hx.upd (by simp [pdC]) hs id).skip (by omega), hX, fun k hk => by have := (hf.ge k hk).1; omega⟩
  exact (Same.trans h.2.2 hs).mono (fun _ _ h => h.elim) |>.trans hu (fun i hi e => .inl e)
theorem NextSt.same {base : Nat} {w wt wu : World} {b : Nat} {v v2 : Value} {r r' : Rd1} {X : Nat} {q : Pd} (h : NextSt base w wt b v v2 r r' X q) (hs : Same wt wu) : NextSt base w wu b v v2 r r' X q :=
  ⟨h.rd.same hs, Same.trans h.upd hs, h.fresh, h.old.same hs, h.zero.upd (by decide) hs id, h.box.upd (by simp [pdC]) hs id, h.far, h.apart⟩
theorem NextSt.exit {base : Nat} {w wt wz : World} {b : Nat} {v v2 : Value} {r r' : Rd1} {X : Nat} {q : Pd} (h0 : RdV base w b v r) (h : NextSt base w wt b v v2 r r' X q) (hq : q.data = []) (hu : Upd (fun k => k = w.heap.size) wt wz) (E : Int) (ok : Bool) : NextPost base w b v (q, E, ok, r') (.returned (.tuple #[pdA q (.slice none 0 0), .int .i64 E, .bool ok])) wz := by
  have hoff : ∀ k, rft b v2 k → ¬ k = w.heap.size := by
    rintro k (hk | hk) e
    · have := h0.lt; omega
    · have := h.apart k hk; have := h.far; omega
  refine ⟨none, 0, 0, rfl, by rw [hq]; exact Fresh.nil _ _, v2, h.rd.upd hu hoff, h.upd.trans hu (fun i hi e => by omega), fun k hk => .inr (h.fresh k hk), fun k hk => by simp [room] at hk⟩
theorem any_at {l : List UInt8} {i : Nat} (h : ¬ at8 l i = 0) (hi : i < l.length) : l.any (fun c => c != 0) = true := by
  rw [List.any_eq_true]
  refine ⟨l[i], List.getElem_mem _, ?_⟩
  rw [bne_iff_ne]
  intro e
  apply h
  unfold at8
  rw [List.getD_eq_getElem?_getD, List.getElem?_eq_getElem hi]
  simp [e]
theorem any_none {l : List UInt8} (h : ∀ k, k < l.length → at8 l k = 0) : l.any (fun c => c != 0) = false := by
  rw [List.any_eq_false]
  intro c hc
  obtain ⟨i, hi, rfl⟩ := List.mem_iff_getElem.1 hc
  have h1 := h i hi
  unfold at8 at h1
  rw [List.getD_eq_getElem?_getD, List.getElem?_eq_getElem hi] at h1
  simp only [Option.getD_some] at h1
  have h2 : l[i].toNat = 0 := by omega
  have h3 : l[i] = 0 := by
    apply UInt8.toNat_inj.1
    rw [h2]; rfl
  simp [h3]
theorem NextSt.good {base : Nat} {w wt wk wz : World} {b : Nat} {v v2 v3 : Value} {r r' : Rd1} {X : Nat} {q : Pd} {ds : List UInt8} (h0 : RdV base w b v r) (h : NextSt base w wt b v v2 r r' X q) (hs : Same wt wk) {A : Option Addr} {n cap : Nat} (hv : v3 = .slice A n cap) (hf : Fresh wt.heap.size wk v3 ds) (hu : Upd (fun k => k = w.heap.size) (wk.setCell ⟨X, 14, none⟩ v3) wz) : NextPost base w b v ({ q with data := ds }, 0, true, r') (.returned (.tuple #[pdA q v3, .int .i64 0, .bool true])) wz := by
  subst hv
  have hX := h.box.lt (by simp [pdC])
  have hfar := h.far
  have hlt := h0.lt
  have hoff : ∀ k, rft b v2 k → ¬ k = w.heap.size ∧ ¬ k = X := by
    rintro k (hk | hk)
    · omega
    · have := h.apart k hk; omega
  have h1 := h.same hs
  have hu1 : Upd (fun k => k = X) wk (wk.setCell ⟨X, 14, none⟩ (.slice A n cap)) := (Upd.refl (fun k => k = X) wk).setCell (p := ⟨X, 14, none⟩) (fun _ => rfl) _
  have hu2 : Upd (fun k => k = X ∨ k = w.heap.size) wk wz := (hu1.mono (fun _ _ h => .inl h)).trans hu (fun i hi e => .inr e)
  have hge : ∀ k, room (.slice A n cap) = some k → wt.heap.size ≤ k := fun k hk => (hf.ge k hk).1
  refine ⟨A, n, cap, rfl, (hf.upd hu2 (fun k hk e => by have := hge k hk; omega)).mono (by have := h.upd.size; omega), v2, h1.rd.upd hu2 (fun k hk e => by have := hoff k hk; omega), h1.upd.trans hu2 (fun i hi e => by omega), fun k hk => .inr (h.fresh k hk), fun k hk hr => ?_⟩
  have h2 := hge k hk
  have h3 := (h.rd.foot k hr).2
  omega
theorem next_ret (p : Pd) (A : Option Addr) (n cap : Nat) {x : Int} {y : Bool} {a : Act} {w' : World} {b : Nat} {Q : Ending → World → Prop} (hp : a.tmps[2]? = some (.pointer (some ⟨b, 0, none⟩))) (h3 : a.tmps[3]? = some (.int .i64 x)) (h4 : a.tmps[4]? = some (.bool y)) (hdf : a.defers = []) (hbox : BoxAt w' b p (.slice A n cap)) (hQ : Q (.returned (.tuple #[pdA p (.slice A n cap), .int .i64 x, .bool y])) w') : bodyPost Try.prog Try.f16 Q .ret a w' := by
  have k0 := hbox 0 _ rfl
  have k1 := hbox 1 _ rfl
  have k2 := hbox 2 _ rfl
  have k3 := hbox 3 _ rfl
  have k4 := hbox 4 _ rfl
  have k5 := hbox 5 _ rfl
  have k6 := hbox 6 _ rfl
  have k7 := hbox 7 _ rfl
  have k8 := hbox 8 _ rfl
  have k9 := hbox 9 _ rfl
  have k10 := hbox 10 _ rfl
  have k11 := hbox 11 _ rfl
  have k12 := hbox 12 _ rfl
  have k13 := hbox 13 _ rfl
  have k14 := hbox 14 _ rfl
  refine bodyPost_ret (v := .tuple #[.agg #[.int .i64 p.op, .bool p.now, .int .i64 p.flags, .int .i64 p.b2, .int .i64 p.b3, .int .u64 p.lun, .int .u32 p.task, .int .u32 (wd p 0), .int .u32 (wd p 1), .int .u32 (wd p 2), .int .u32 (wd p 3), .int .u32 (wd p 4), .int .u32 (wd p 5), .int .u32 (wd p 6), .slice A n cap], .int .i64 x, .bool y]) (by simp [results, Try.results16, go_sem, asAddr, Result.andThen, hp, h3, h4, k0, k1, k2, k3, k4, k5, k6, k7, k8, k9, k10, k11, k12, k13, k14]) hdf hQ
theorem Fresh.cap {base : Nat} {w : World} {A : Option Addr} {n cap : Nat} {xs : List UInt8} (h : Fresh base w (.slice A n cap) xs) : xs.length ≤ cap ∧ cap ≤ 9223372036854775807 := by
  obtain ⟨_, cap', e, h1, h2, _⟩ := h.bs
  injection e with _ _ e3
  subst e3
  exact ⟨h1, h2⟩
theorem eqB_beq (xs ys : List UInt8) : eqB xs ys = (xs == ys) := by
  by_cases h : xs = ys
  · rw [eqB_true h]; simp [h]
  · rw [eqB_false h]; exact (beq_eq_false_iff_ne.2 h).symm
theorem pn_take {bs : List UInt8} {a s m : Nat} (h : a + s ≤ m) : pn (bs.take m) a s = pn bs a s := by
  unfold pn
  rw [List.drop_take, List.take_take, Nat.min_eq_left (by omega)]
theorem parseP_take (bs : List UInt8) : parseP (bs.take 48) = parseP bs := by
  have hw : (List.range 7).map (fun i => pn (bs.take 48) (20 + 4 * i) 4) = (List.range 7).map (fun i => pn bs (20 + 4 * i) 4) := List.map_congr_left fun i hi => pn_take (by have := List.mem_range.1 hi; omega)
  unfold parseP
  rw [hw, pn_take (by omega), pn_take (by omega), pn_take (by omega), pn_take (by omega), pn_take (by omega), pn_take (by omega)]
theorem parseE_take (bs : List UInt8) : parseE (bs.take 48) = parseE bs := by unfold parseE; rw [pn_take (by omega), pn_take (by omega)]
theorem sizeP_take (bs : List UInt8) : sizeP (bs.take 48) = sizeP bs := by unfold sizeP; rw [pn_take (by omega)]
def Rd1.hbad (r : Rd1) : Bool := r.o.hs && !(crcDigest (crcSum (r.b.take 48)) == (r.b.drop 48).take 4)
def Rd1.dbad (r : Rd1) : Bool := (r.o.ds && decide (0 < sizeP r.b)) && !(crcDigest (crcSum r.d) == r.sum)
theorem next_short {r : Rd1} (hd : r.dead = false) (h1 : r.b.length < r.at_) : r.next = (noP, 0, false, r) := by unfold Rd1.next; rw [hd]; simp only [Bool.false_eq_true, if_false, if_pos h1]
theorem next_hsum {r : Rd1} (hd : r.dead = false) (h1 : ¬ r.b.length < r.at_) (h2 : r.hbad = true) : r.next = (noP, 12, true, r.die) := by
  unfold Rd1.hbad at h2
  unfold Rd1.next; rw [hd]; simp only [Bool.false_eq_true, if_false, if_neg h1, h2, if_true]
theorem next_form {r : Rd1} (hd : r.dead = false) (h1 : ¬ r.b.length < r.at_) (h2 : r.hbad = false) (h3 : parseE r.b ≠ 0) : r.next = (noP, 11, true, r.die) := by
  unfold Rd1.hbad at h2
  unfold Rd1.next; rw [hd]; simp only [Bool.false_eq_true, if_false, if_neg h1, h2, if_pos h3]
theorem next_size {r : Rd1} (hd : r.dead = false) (h1 : ¬ r.b.length < r.at_) (h2 : r.hbad = false) (h3 : parseE r.b = 0) (h4 : r.o.most < (sizeP r.b : Int)) : r.next = (noP, 3, true, r.die) := by
  unfold Rd1.hbad at h2
  unfold Rd1.next; rw [hd]; simp only [Bool.false_eq_true, if_false, if_neg h1, h2, h3, ne_eq, not_true_eq_false, if_pos h4]
theorem next_waits {r : Rd1} (hd : r.dead = false) (h1 : ¬ r.b.length < r.at_) (h2 : r.hbad = false) (h3 : parseE r.b = 0) (h4 : ¬ r.o.most < (sizeP r.b : Int)) (h5 : r.b.length < r.all) : r.next = (noP, 0, false, r) := by
  unfold Rd1.hbad at h2
  unfold Rd1.next; rw [hd]; simp only [Bool.false_eq_true, if_false, if_neg h1, h2, h3, ne_eq, not_true_eq_false, if_neg h4, if_pos h5]
theorem next_dsum {r : Rd1} (hd : r.dead = false) (h1 : ¬ r.b.length < r.at_) (h2 : r.hbad = false) (h3 : parseE r.b = 0) (h4 : ¬ r.o.most < (sizeP r.b : Int)) (h5 : ¬ r.b.length < r.all) (h6 : r.dbad = true) : r.next = (parseP r.b, 12, true, r.rest) := by
  unfold Rd1.hbad at h2
  unfold Rd1.dbad at h6
  unfold Rd1.next; rw [hd]; simp only [Bool.false_eq_true, if_false, if_neg h1, h2, h3, ne_eq, not_true_eq_false, if_neg h4, if_neg h5, h6, if_true]
theorem next_pad {r : Rd1} (hd : r.dead = false) (h1 : ¬ r.b.length < r.at_) (h2 : r.hbad = false) (h3 : parseE r.b = 0) (h4 : ¬ r.o.most < (sizeP r.b : Int)) (h5 : ¬ r.b.length < r.all) (h6 : r.dbad = false) (h7 : (r.d.drop (sizeP r.b)).any (fun c => c != 0) = true) : r.next = (parseP r.b, 11, true, r.rest) := by
  unfold Rd1.hbad at h2
  unfold Rd1.dbad at h6
  unfold Rd1.next; rw [hd]; simp only [Bool.false_eq_true, if_false, if_neg h1, h2, h3, ne_eq, not_true_eq_false, if_neg h4, if_neg h5, h6, h7, if_true]
theorem next_good {r : Rd1} (hd : r.dead = false) (h1 : ¬ r.b.length < r.at_) (h2 : r.hbad = false) (h3 : parseE r.b = 0) (h4 : ¬ r.o.most < (sizeP r.b : Int)) (h5 : ¬ r.b.length < r.all) (h6 : r.dbad = false) (h7 : (r.d.drop (sizeP r.b)).any (fun c => c != 0) = false) : r.next = ({ parseP r.b with data := r.d.take (sizeP r.b) }, 0, true, r.rest) := by
  unfold Rd1.hbad at h2
  unfold Rd1.dbad at h6
  unfold Rd1.next; rw [hd]; simp only [Bool.false_eq_true, if_false, if_neg h1, h2, h3, ne_eq, not_true_eq_false, if_neg h4, if_neg h5, h6, h7]
theorem next_late {r : Rd1} (hd : r.dead = false) (h1 : ¬ r.b.length < r.at_) (h2 : r.hbad = false) (h3 : parseE r.b = 0) (h4 : ¬ r.o.most < (sizeP r.b : Int)) (h5 : ¬ r.b.length < r.all) : r.next.2.2.1 = true ∧ r.next.2.2.2.dead = false := by
  by_cases h6 : r.dbad = true
  · rw [next_dsum hd h1 h2 h3 h4 h5 h6]; exact ⟨rfl, hd⟩
  · rw [Bool.not_eq_true] at h6
    by_cases h7 : (r.d.drop (sizeP r.b)).any (fun c => c != 0) = true
    · rw [next_pad hd h1 h2 h3 h4 h5 h6 h7]; exact ⟨rfl, hd⟩
    · rw [Bool.not_eq_true] at h7
      rw [next_good hd h1 h2 h3 h4 h5 h6 h7]; exact ⟨rfl, hd⟩
theorem next_live {r : Rd1} (hd : r.dead = false) (h1 : ¬ r.b.length < r.at_) (h2 : r.hbad = false) (h3 : parseE r.b = 0) (h4 : ¬ r.o.most < (sizeP r.b : Int)) : r.next.2.2.2.dead = false := by
  by_cases h5 : r.b.length < r.all
  · rw [next_waits hd h1 h2 h3 h4 h5]; exact hd
  · exact (next_late hd h1 h2 h3 h4 h5).2
theorem next_dead {r : Rd1} (h : r.dead = true) : r.next = (noP, 21, true, r) := by unfold Rd1.next; rw [h]; rfl
end Go.Proofs.Ytfafepmghcobdaa
