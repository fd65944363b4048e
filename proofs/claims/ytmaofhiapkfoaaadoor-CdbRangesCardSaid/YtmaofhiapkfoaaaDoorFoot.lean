/- Objects of the call's own: which blocks they lie in, what a doing of one leaves of the others. Plain laws. -/
import Derived.Test.YtmaofhiapkfoaaaDoorRowsB
namespace Go.Proofs.YtmaofhiapkfoaaaDoor
open Go.RowKit
set_option linter.unusedVariables false
set_option linter.unusedSimpArgs false

/-- The blocks of F are there, from block base on. -/
def Foot (base : Nat) (F : Nat → Prop) (w : World) : Prop := ∀ k, F k → base ≤ k ∧ k < w.heap.size
/-- Behind a doing of an object that lay in F: it lies in F' now, and nothing else was written. -/
def Step (F F' : Nat → Prop) (w w' : World) : Prop := Upd F w w' ∧ ∀ k, F' k → F k ∨ w.heap.size ≤ k
theorem Step.refl (F : Nat → Prop) (w : World) : Step F F w w := ⟨Upd.refl F w, fun k h => .inl h⟩
theorem Step.trans {F G H : Nat → Prop} {a b c : World} (h : Step F G a b) (k : Step G H b c) : Step F H a c :=
  ⟨h.1.trans k.1 fun i hi hg => (h.2 i hg).elim id fun e => by omega, fun i hi => (k.2 i hi).elim (fun e => h.2 i e) fun e => .inr (Nat.le_trans h.1.size e)⟩
theorem Step.same {F : Nat → Prop} {a b : World} (h : Same a b) : Step F F a b := ⟨h.mono fun _ _ h => h.elim, fun k h => .inl h⟩
theorem Step.upd {F : Nat → Prop} {a b : World} (h : Upd F a b) : Step F F a b := ⟨h, fun k h => .inl h⟩
theorem Foot.mono {base : Nat} {F : Nat → Prop} {a b : World} (h : Foot base F a) (hs : a.heap.size ≤ b.heap.size) : Foot base F b := fun k hk => ⟨(h k hk).1, Nat.lt_of_lt_of_le (h k hk).2 hs⟩
/-- Two objects that lie apart stay apart. -/
theorem Step.apart {base : Nat} {F F' G : Nat → Prop} {a b : World} (h : Step F F' a b) (hG : Foot base G a) (hd : ∀ k, F k → ¬ G k) : ∀ k, F' k → ¬ G k := by
  intro k hk hg
  rcases h.2 k hk with e | e
  · exact hd k e hg
  · have := (hG k hg).2
    omega
/-- What the doings of an object of the call's own leave of what was there. -/
theorem Step.keeps {F F' : Nat → Prop} {w a b : World} (h : Step F F' a b) (hs : Same w a) (hF : Foot w.heap.size F a) : Same w b := Same.into hs h.1 fun k hk => (hF k hk).1
/-- The blocks that an object may have taken. -/
def more (F : Nat → Prop) (a b : World) : Nat → Prop := fun k => F k ∨ (a.heap.size ≤ k ∧ k < b.heap.size)
theorem more_step {F : Nat → Prop} {a b : World} (h : Upd F a b) : Step F (more F a b) a b := ⟨h, fun k hk => hk.elim .inl fun e => .inr e.1⟩
theorem more_foot {base : Nat} {F : Nat → Prop} {a b : World} (h : Foot base F a) (hb : base ≤ a.heap.size) (hs : a.heap.size ≤ b.heap.size) : Foot base (more F a b) b := by
  rintro k (hk | hk)
  · exact ⟨(h k hk).1, Nat.lt_of_lt_of_le (h k hk).2 hs⟩
  · omega

/-- A row's elements from number k on. -/
theorem Own.back {base : Nat} {w : World} {A : Option Addr} {n cap sz : Nat} {cs : List Value} (h : Own base w (.slice A n cap) sz cs) (k : Nat) (hk : k ≤ n) :
    Own base w (.slice (if cap = k then A else A.map (·.add (k * sz))) (n - k) (cap - k)) sz (cs.drop (k * sz)) := by
  obtain ⟨A', n', cap', e, h1, h2, h3, h4⟩ := h
  injection e with e1 e2 e3
  subst e1 e2 e3
  refine ⟨_, _, _, rfl, by rw [List.length_drop, h1, Nat.sub_mul], by omega, by omega, ?_⟩
  rcases h4 with rfl | ⟨b, off, rfl, hb, hc, hr⟩
  · exact .inl (by omega)
  · by_cases hck : cap = k
    · exact .inl (by omega)
    · rw [if_neg hck]
      simp only [Option.map_some, Addr.add_lit]
      refine .inr ⟨b, off + k * sz, rfl, hb, fun j u hj => ?_, fun j hj => ?_⟩
      · rw [List.getElem?_drop] at hj
        rw [Nat.add_assoc]
        exact hc _ u hj
      · rw [Nat.add_assoc]
        refine hr _ ?_
        rw [Nat.sub_mul] at hj
        omega
theorem room_back (A : Option Addr) (n m cap k sz : Nat) : ∀ j, room (.slice (if cap = k then A else A.map (·.add (k * sz))) m (cap - k)) = some j → room (.slice A n cap) = some j := by
  intro j hj
  cases A with
  | none => simp [room] at hj
  | some a =>
    by_cases hck : cap = k
    · simp [room, hck] at hj
    · rw [if_neg hck] at hj
      simp only [Option.map_some, room] at hj ⊢
      by_cases h0 : cap - k = 0
      · simp [h0] at hj
      · rw [if_neg h0] at hj
        rw [if_neg (by omega)]
        have e : (a.add (k * sz)).block = a.block := by unfold Addr.add; split <;> rfl
        rw [e] at hj
        exact hj
/-- A box of known cells reads as one element. -/
theorem Rdr.box (W : World) (cs : List Value) (t : TypeId) (fr : Nat × Nat) (g : Nat) (hg : g = W.heap.size) (sz : Nat) (hs : cs.length = sz) : Rdr (W.alloc (.cells cs.toArray t fr)) (.slice (some ⟨g, 0, none⟩) 1 1) sz cs := by
  subst hg
  have h : (W.alloc (.cells cs.toArray t fr)).heap[W.heap.size]? = some (.cells cs.toArray t fr) := heap_alloc_new W _
  refine ⟨_, 1, 1, rfl, by omega, by omega, by omega, .inr ⟨_, _, rfl, fun j u hj => ?_⟩⟩
  unfold World.cell?
  rw [h]
  simpa using hj
theorem Own.open_ {base : Nat} {w : World} {v : Value} {sz : Nat} {cs : List Value} (h : Own base w v sz cs) : ∃ A n cap, v = .slice A n cap ∧ cs.length = n * sz ∧ n ≤ cap ∧ cap ≤ 9223372036854775807 := by
  obtain ⟨A, n, cap, rfl, h1, h2, h3, _⟩ := h
  exact ⟨A, n, cap, rfl, h1, h2, h3⟩
/-- Where the cells of element k lie. -/
theorem Own.at_ {base : Nat} {w : World} {A : Option Addr} {n cap sz : Nat} {cs : List Value} (h : Own base w (.slice A n cap) sz cs) (hs : 0 < cs.length) : ∃ b off, A = some ⟨b, off, none⟩ ∧ ∀ j u, cs[j]? = some u → w.cell? ⟨b, off + j, none⟩ = some u := by
  obtain ⟨A', n', cap', e, h1, h2, h3, h4⟩ := h
  injection e with e1 e2 e3
  subst e1 e2 e3
  rcases h4 with rfl | ⟨b, off, rfl, hb, hc, hr⟩
  · have : n = 0 := by omega
    subst this
    simp at h1
    subst h1
    simp at hs
  · exact ⟨b, off, rfl, hc⟩
section
variable {P : Program}
/-- append(v, u...), v of the call's own, at its place in a walk: elements of sz cells. -/
theorem wpl_append_own {ops : Array Oper} {rest : List Oper} {o : Oper} {a : Act} {Q : Exit → Act → World → Prop} {w : World}
    (hg : o.guard = none) (s x : Operand) (t : TypeId) (hop : o.op = Op.call { callee := Callee.builtin Builtin.append, args := #[s, x], argTypes := #[t, t] })
    {e : TypeId} {z : Value} {sz bytes : Nat} (ht : P.underlying t = some (.slice e)) (hinfo : (P.info? e).map (fun i => (i.zero, i.size, i.bytes)) = some (some z, sz, bytes)) (hzs : z.cells.size = sz) (hs0 : 0 < sz)
    {base : Nat} (v u : Value) {xs ys : List Value} (hvs : a.eval s = v) (hux : a.eval x = u)
    (hv : Own base w v sz xs) (hu : Rdr w u sz ys) (h1 : ∀ y ∈ ys, y.oneCell' = true) (hbase : base ≤ w.heap.size)
    (n m : Nat) (hn : xs.length = n * sz) (hm : ys.length = m * sz) (hb : ((n + m) + (n + m) / 4 + 192) * bytes ≤ 281474976710656) (hmax : n + m ≤ 9223372036854775807)
    (h : ∀ v' w', Own base w' v' sz (xs ++ ys) → Upd (fun k => room v = some k) w w' → (∀ k, room v' = some k → room v = some k ∨ w.heap.size ≤ k) → wpList P ops Q rest (a.put o.dst v') w') :
    wpList P ops Q (o :: rest) a w := by
  subst hvs
  subst hux
  obtain ⟨i, hi, hzz⟩ := Option.map_eq_some_iff.1 hinfo
  simp only [Prod.mk.injEq] at hzz
  obtain ⟨hz0, hz1, hz2⟩ := hzz
  exact wpl_append (P := P) hg s x t hop ht hi hz0 hz1 hz2 hzs hs0 hv hu h1 hbase n m hn hm hb hmax h
end
end Go.Proofs.YtmaofhiapkfoaaaDoor
