/- The reader of pieces as an object. -/
import Derived.Test.YtccbkagmglddfaaChkA
import Derived.Test.YtccbkagmglddfaaChkB
import Derived.Test.YtccbkagmglddfaaChkW
import Derived.Test.YtccbkagmglddfaaBoxC
import Derived.Test.YtccbkagmglddfaaAtom
namespace Go.Proofs.Ytccbkagmglddfaa
open Go.RowKit
set_option linter.unusedVariables false
set_option linter.unusedSimpArgs false
set_option maxRecDepth 100000
/-- What stands in the eight cells. -/
def chC (c : Cs) (vl : Value) (dn : Int) (sh : Bool) : List Value := [.int .i64 c.id, .int .u32 c.s, vl, .int .i64 c.added, .int .u32 dn, .int .i32 0, .int .u32 0, .bool sh]
abbrev It := Value × Option (List UInt8)
/-- A place of the row: nothing, or bytes in memory of their own. -/
def ItemAt (base : Nat) (W : World) (p : Nat) (vl : Value) (x : It) : Prop :=
  match x.2 with
  | none => x.1 = .slice none 0 0
  | some b => ∃ a n cap, x.1 = .slice (some a) n cap ∧ Fresh base W x.1 b ∧ ∀ k, room x.1 = some k → k ≠ p ∧ ¬ room vl = some k
def ChV (base : Nat) (W : World) (p : Nat) (vl : Value) (ls : List It) (c : Cs) (dn : Int) (sh : Bool) : Prop :=
  base ≤ p ∧ BoxC W p (chC c vl dn sh) ∧ Own base W vl 1 (ls.map (·.1)) ∧ c.l = ls.map (·.2) ∧ (∀ x ∈ ls, ItemAt base W p vl x) ∧ ¬ room vl = some p
def cfoot (p : Nat) (vl : Value) (ls : List It) : Nat → Prop := fun k => k = p ∨ room vl = some k ∨ ∃ x ∈ ls, room x.1 = some k
/-- What Add writes: the cells and the row. -/
def cwr (p : Nat) (vl : Value) : Nat → Prop := fun k => k = p ∨ room vl = some k
def ChG (base : Nat) (W : World) (p : Nat) (vl : Value) (ls : List It) (W' : World) (c' : Cs) (dn' : Int) (sh' : Bool) : Prop :=
  ∃ vl' ls', ChV base W' p vl' ls' c' dn' sh' ∧ Upd (cwr p vl) W W' ∧ ∀ k, cfoot p vl' ls' k → cfoot p vl ls k ∨ W.heap.size ≤ k
section
variable {base : Nat} {W W' : World} {p : Nat} {vl : Value} {ls : List It} {c : Cs} {dn : Int} {sh : Bool}
theorem ItemAt.upd {S : Nat → Prop} {x : It} (h : ItemAt base W p vl x) (hu : Upd S W W') (hn : ∀ k, room x.1 = some k → ¬ S k) : ItemAt base W' p vl x := by
  unfold ItemAt at h ⊢
  cases hx : x.2 with
  | none => rw [hx] at h; exact h
  | some b =>
    rw [hx] at h
    obtain ⟨a, n, cap, h1, h2, h3⟩ := h
    exact ⟨a, n, cap, h1, h2.upd hu hn, h3⟩
theorem ItemAt.room {x : It} (h : ItemAt base W p vl x) : ∀ k, room x.1 = some k → base ≤ k ∧ k < W.heap.size ∧ k ≠ p ∧ ¬ Proofs.Ytccbkagmglddfaa.room vl = some k := by
  intro k hk
  unfold ItemAt at h
  cases hx : x.2 with
  | none => rw [hx] at h; rw [h] at hk; simp [Proofs.Ytccbkagmglddfaa.room] at hk
  | some b =>
    rw [hx] at h
    obtain ⟨a, n, cap, h1, h2, h3⟩ := h
    have h4 := h2.ge k hk
    exact ⟨h4.1, h4.2, h3 k hk⟩
theorem ChV.lt (h : ChV base W p vl ls c dn sh) : p < W.heap.size := h.2.1.lt (by simp [chC])
theorem ChV.foot (h : ChV base W p vl ls c dn sh) : ∀ k, cfoot p vl ls k → base ≤ k ∧ k < W.heap.size := by
  rintro k (rfl | hk | ⟨x, hx, hk⟩)
  · exact ⟨h.1, h.lt⟩
  · exact h.2.2.1.ge (by decide) k hk
  · have := (h.2.2.2.2.1 x hx).room k hk
    exact ⟨this.1, this.2.1⟩
theorem ChV.upd {S : Nat → Prop} (h : ChV base W p vl ls c dn sh) (hu : Upd S W W') (hn : ∀ k, cfoot p vl ls k → ¬ S k) : ChV base W' p vl ls c dn sh :=
  ⟨h.1, h.2.1.upd (by simp [chC]) hu (hn p (.inl rfl)), h.2.2.1.upd hu (fun k hk => hn k (.inr (.inl hk))), h.2.2.2.1, fun x hx => (h.2.2.2.2.1 x hx).upd hu (fun k hk => hn k (.inr (.inr ⟨x, hx, hk⟩))), h.2.2.2.2.2⟩
theorem ChV.same (h : ChV base W p vl ls c dn sh) (hs : Same W W') : ChV base W' p vl ls c dn sh := h.upd hs (fun _ _ e => e)
theorem ChV.mono {b2 : Nat} (h : ChV base W p vl ls c dn sh) (hb : b2 ≤ base) : ChV b2 W p vl ls c dn sh := by
  refine ⟨Nat.le_trans hb h.1, h.2.1, h.2.2.1.mono hb, h.2.2.2.1, fun x hx => ?_, h.2.2.2.2.2⟩
  have h1 := h.2.2.2.2.1 x hx
  unfold ItemAt at h1 ⊢
  cases hx : x.2 with
  | none => rw [hx] at h1; exact h1
  | some b =>
    rw [hx] at h1
    obtain ⟨a, n, cap, q1, q2, q3⟩ := h1
    exact ⟨a, n, cap, q1, q2.mono hb, q3⟩
theorem ChV.len (h : ChV base W p vl ls c dn sh) : ∃ A cap, vl = .slice A ls.length cap ∧ ls.length ≤ cap ∧ cap ≤ 9223372036854775807 := by
  obtain ⟨A, n, cap, rfl, h1, h2, h3, _⟩ := h.2.2.1
  have : ls.length = n := by simpa using h1
  subst this
  exact ⟨A, cap, rfl, h2, h3⟩
theorem ChV.llen (h : ChV base W p vl ls c dn sh) : ls.length = c.l.length := by rw [h.2.2.2.1, List.length_map]
theorem ChG.stay (h : ChV base W p vl ls c dn sh) (hs : Same W W') : ChG base W p vl ls W' c dn sh := ⟨vl, ls, h.same hs, hs.mono (fun _ _ e => e.elim), fun k hk => .inl hk⟩
theorem ChG.trans {W2 : World} {vl2 : Value} {ls2 : List It} {c3 : Cs} {dn3 : Int} {sh3 : Bool} (hu : Upd (cwr p vl) W W2) (hr : ∀ k, cfoot p vl2 ls2 k → cfoot p vl ls k ∨ W.heap.size ≤ k) (hw : ∀ k, cwr p vl2 k → cwr p vl k ∨ W.heap.size ≤ k) (h2 : ChG base W2 p vl2 ls2 W' c3 dn3 sh3) : ChG base W p vl ls W' c3 dn3 sh3 := by
  obtain ⟨vl3, ls3, q1, q2, q3⟩ := h2
  refine ⟨vl3, ls3, q1, Upd.trans hu q2 (fun k hk e => ?_), fun k hk => ?_⟩
  · rcases hw k e with e | e
    · exact e
    · omega
  · rcases q3 k hk with e | e
    · exact hr k e
    · exact .inr (Nat.le_trans hu.size e)
/-- Where place k lies. -/
theorem ChV.at_ {A : Option Addr} {n cap : Nat} (h : ChV base W p (.slice A n cap) ls c dn sh) {k : Nat} {x : It} (hx : ls[k]? = some x) : ∃ b off, A = some ⟨b, off, none⟩ ∧ W.cell? ⟨b, off + k, none⟩ = some x.1 := by
  have hlt : k < (ls.map (·.1)).length := by rw [List.length_map]; exact (List.getElem?_eq_some_iff.1 hx).1
  obtain ⟨b, off, rfl, hc⟩ := h.2.2.1.rdr.at_ k hlt
  refine ⟨b, off, rfl, ?_⟩
  rw [hc, List.getElem_map]
  obtain ⟨_, e⟩ := List.getElem?_eq_some_iff.1 hx
  rw [e]
end
theorem ChV.new (W : World) (t : TypeId) (base p : Nat) (hb : base ≤ W.heap.size) (hp : p = W.heap.size) : ChV base (W.alloc (.cells (chC Cs.none (.slice none 0 0) 0 false).toArray t)) p (.slice none 0 0) [] Cs.none 0 false :=
  ⟨by omega, BoxC.newAt W _ t p hp, Own.nil _ _ _, rfl, fun x hx => by simp at hx, by simp [room]⟩
theorem new_any (base : Nat) (W : World) (hb : base ≤ W.heap.size) : Calls Try.prog 11 #[] W fun e w' => ∃ p, e = .returned (.pointer (some ⟨p, 0, none⟩)) ∧ p = W.heap.size ∧ ChV base w' p (.slice none 0 0) [] Cs.none 0 false ∧ Same W w' := by
  have hn := ChV.new W 79 base W.heap.size hb rfl
  have HN := Lib.hid hn
  clear hn
  have hbd : ∀ W, (Instr.build 79 #[]).run Try.prog W = .ok (.agg (chC Cs.none (.slice none 0 0) 0 false).toArray) W := fun W => run_build W _ _ _ (by kernel_rfl)
  simp only [chC, List.toArray, Cs.none] at hbd
  go_enter Try.func11, Try.ntmps11
  go_wp2_with fail
  go_ret
  exact ⟨_, rfl, rfl, HN.out, (Upd.refl _ W).alloc _⟩
section
variable {base : Nat} {W : World} {p : Nat} {vl : Value} {ls : List It} {c : Cs} {dn : Int} {sh : Bool}
theorem id_any (h : ChV base W p vl ls c dn sh) : Calls Try.prog 13 #[.pointer (some ⟨p, 0, none⟩)] W fun e w' => e = .returned (.int .i64 c.id) ∧ W = w' := by
  have c0 := h.2.1.1 0 _ rfl
  go_enter Try.func13, Try.ntmps13
  go_wp2_with fail
  go_ret
  exact ⟨rfl, rfl⟩
theorem cnt_any (h : ChV base W p vl ls c dn sh) : Calls Try.prog 30 #[.pointer (some ⟨p, 0, none⟩)] W fun e w' => e = .returned (.int .i64 (c.l.length : Nat)) ∧ W = w' := by
  obtain ⟨A, cap, rfl, -⟩ := h.len
  rw [← h.llen]
  have c2 := h.2.1.1 2 _ rfl
  go_enter Try.func30, Try.ntmps30
  go_wp2_with fail
  go_ret
  exact ⟨rfl, rfl⟩
theorem added_any (h : ChV base W p vl ls c dn sh) : Calls Try.prog 24 #[.pointer (some ⟨p, 0, none⟩)] W fun e w' => e = .returned (.int .i64 c.added) ∧ W = w' := by
  have c3 := h.2.1.1 3 _ rfl
  go_enter Try.func24, Try.ntmps24
  go_wp2_with fail
  refine (load_any _ _ _ c3).mono ?_
  rintro e w' ⟨rfl, rfl⟩
  go_wp2_with fail
  go_ret
  exact ⟨rfl, rfl⟩
end
end Go.Proofs.Ytccbkagmglddfaa
