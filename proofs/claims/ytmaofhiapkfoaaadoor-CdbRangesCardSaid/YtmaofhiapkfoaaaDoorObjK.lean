/- Objects of a row of bytes and an error. -/
import Derived.Test.YtmaofhiapkfoaaaDoorLentK
namespace Go.Proofs.YtmaofhiapkfoaaaDoor
open Go.RowKit
set_option linter.unusedVariables false
set_option linter.unusedSimpArgs false

/-- Two cells of a block: v, and an error's number. -/
def Cell2 (w : World) (p : Nat) (v : Value) (e : Int) : Prop :=
  w.cell? ⟨p, 0, none⟩ = some v ∧ w.cell? ⟨p, 1, none⟩ = some (.int .i64 e) ∧ w.frozen? ⟨p, 0, none⟩ = false ∧ w.frozen? ⟨p, 1, none⟩ = false
theorem cell_lt {w : World} {a : Addr} {v : Value} (h : w.cell? a = some v) : a.block < w.heap.size := by
  unfold World.cell? at h
  cases hk : w.heap[a.block]? with
  | none => rw [hk] at h; simp at h
  | some o => exact (Array.getElem?_eq_some_iff.1 hk).1
theorem Cell2.lt {w : World} {p : Nat} {v : Value} {e : Int} (h : Cell2 w p v e) : p < w.heap.size := cell_lt h.1
theorem Cell2.upd {S : Nat → Prop} {w w' : World} {p : Nat} {v : Value} {e : Int} (h : Cell2 w p v e) (hu : Upd S w w') (hn : ¬ S p) : Cell2 w' p v e :=
  ⟨hu.cell h.1 hn, hu.cell h.2.1 hn, (hu.frozen (p := ⟨p, 0, none⟩) h.lt hn).trans h.2.2.1, (hu.frozen (p := ⟨p, 1, none⟩) h.lt hn).trans h.2.2.2⟩
theorem addr01 (p : Nat) : (⟨p, 0, none⟩ : Addr) ≠ ⟨p, 1, none⟩ := by
  intro h
  injection h with h1 h2
  exact absurd h2 (by decide)
theorem Cell2.set0 {w : World} {p : Nat} {v : Value} {e : Int} (h : Cell2 w p v e) (v' : Value) : Cell2 (w.setCell ⟨p, 0, none⟩ v') p v' e :=
  ⟨World.cell?_setCell_same _ _ _ h.1, by rw [World.cell?_setCell_other _ _ _ _ (addr01 p)]; exact h.2.1, by rw [World.frozen?_setCell]; exact h.2.2.1, by rw [World.frozen?_setCell]; exact h.2.2.2⟩
theorem Cell2.set1 {w : World} {p : Nat} {v : Value} {e : Int} (h : Cell2 w p v e) (e' : Int) : Cell2 (w.setCell ⟨p, 1, none⟩ (.int .i64 e')) p v e' :=
  ⟨by rw [World.cell?_setCell_other _ _ _ _ (addr01 p).symm]; exact h.1, World.cell?_setCell_same _ _ _ h.2.1, by rw [World.frozen?_setCell]; exact h.2.2.1, by rw [World.frozen?_setCell]; exact h.2.2.2⟩
theorem Cell2.new (w : World) (v : Value) (e : Int) (t : TypeId) (p : Nat) (hp : p = w.heap.size) : Cell2 (w.alloc (.cells #[v, .int .i64 e] t)) p v e := by
  subst hp
  have h : (w.alloc (.cells #[v, .int .i64 e] t)).heap[w.heap.size]? = some (.cells #[v, .int .i64 e] t) := heap_alloc_new w _
  refine ⟨by rw [cell_of_row _ _ _ _ t (0, 0) h]; rfl, by rw [cell_of_row _ _ _ _ t (0, 0) h]; rfl, ?_, ?_⟩
  all_goals
    unfold World.frozen?
    rw [h]
    simp
/-- An object of a row of the call's own and an error. -/
def WObj (base : Nat) (w : World) (p : Nat) (v : Value) (bs : List UInt8) (e : Int) : Prop := base ≤ p ∧ Cell2 w p v e ∧ Fresh base w v bs ∧ ¬ room v = some p
/-- What an object's doings may write: its block, its row. -/
def foot (p : Nat) (v : Value) : Nat → Prop := fun k => k = p ∨ room v = some k
theorem WObj.upd {base : Nat} {S : Nat → Prop} {w w' : World} {p : Nat} {v : Value} {bs : List UInt8} {e : Int} (h : WObj base w p v bs e) (hu : Upd S w w') (hn : ∀ k, foot p v k → ¬ S k) : WObj base w' p v bs e :=
  ⟨h.1, h.2.1.upd hu (hn p (.inl rfl)), h.2.2.1.upd hu (fun k hk => hn k (.inr hk)), h.2.2.2⟩
theorem WObj.foot {base : Nat} {w : World} {p : Nat} {v : Value} {bs : List UInt8} {e : Int} (h : WObj base w p v bs e) : ∀ k, foot p v k → base ≤ k ∧ k < w.heap.size := by
  rintro k (rfl | hk)
  · exact ⟨h.1, h.2.1.lt⟩
  · exact h.2.2.1.ge k hk
/-- Behind some doings of an object: what it is now, what was written. -/
def Grew (base : Nat) (w : World) (p : Nat) (v : Value) (w' : World) (bs' : List UInt8) (e' : Int) : Prop :=
  ∃ v', WObj base w' p v' bs' e' ∧ Upd (foot p v) w w' ∧ ∀ k, room v' = some k → room v = some k ∨ w.heap.size ≤ k
theorem Grew.refl {base : Nat} {w : World} {p : Nat} {v : Value} {bs : List UInt8} {e : Int} (h : WObj base w p v bs e) : Grew base w p v w bs e := ⟨v, h, Upd.refl _ w, fun k hk => .inl hk⟩
theorem Grew.err {base : Nat} {w : World} {p : Nat} {v : Value} {bs : List UInt8} {e : Int} (h : WObj base w p v bs e) (e' : Int) : Grew base w p v (w.setCell ⟨p, 1, none⟩ (.int .i64 e')) bs e' :=
  ⟨v, ⟨h.1, h.2.1.set1 e', h.2.2.1.upd ((Upd.refl (fun k => k = p) w).setCell (p := ⟨p, 1, none⟩) (fun _ => rfl) _) (fun k hk e => h.2.2.2 (by rw [hk, e])), h.2.2.2⟩,
    (Upd.refl (Proofs.YtmaofhiapkfoaaaDoor.foot p v) w).setCell (p := ⟨p, 1, none⟩) (fun _ => .inl rfl) _, fun k hk => .inl hk⟩
/-- A row of the call's own takes the place of the object's. -/
theorem Grew.row {base : Nat} {w w1 : World} {p : Nat} {v v' : Value} {bs bs' : List UInt8} {e : Int} (h : WObj base w p v bs e) (hb : base ≤ w.heap.size) (hu : Upd (fun k => room v = some k) w w1) (hf : Fresh base w1 v' bs')
    (hr : ∀ k, room v' = some k → room v = some k ∨ w.heap.size ≤ k) : Grew base w p v (w1.setCell ⟨p, 0, none⟩ v') bs' e := by
  have hp := h.2.1.lt
  have hne : ¬ room v' = some p := fun e => by
    rcases hr p e with e | e
    · exact h.2.2.2 e
    · omega
  refine ⟨v', ⟨h.1, (h.2.1.upd hu h.2.2.2).set0 v', hf.upd ((Upd.refl (fun k => k = p) w1).setCell (p := ⟨p, 0, none⟩) (fun _ => rfl) _) (fun k hk e => hne (by rw [hk, e])), hne⟩, ?_, hr⟩
  exact (hu.mono fun k _ hk => .inr hk).setCell (p := ⟨p, 0, none⟩) (fun _ => .inl rfl) _
theorem Grew.trans {base : Nat} {w w1 w2 : World} {p : Nat} {v v1 : Value} {bs2 : List UInt8} {e2 : Int} (hu : Upd (Proofs.YtmaofhiapkfoaaaDoor.foot p v) w w1) (hr : ∀ k, room v1 = some k → room v = some k ∨ w.heap.size ≤ k) (h2 : Grew base w1 p v1 w2 bs2 e2) : Grew base w p v w2 bs2 e2 := by
  obtain ⟨v2, h3, h4, h5⟩ := h2
  refine ⟨v2, h3, hu.trans h4 ?_, ?_⟩
  · rintro k hk (e | e)
    · exact .inl e
    · rcases hr k e with e | e
      · exact .inr e
      · omega
  · intro k hk
    rcases h5 k hk with e | e
    · exact hr k e
    · exact .inr (Nat.le_trans hu.size e)
end Go.Proofs.YtmaofhiapkfoaaaDoor
