/- Letters (chapter 17): what PduBack holds while it puts, feeds and reads. -/
import Derived.Test.YtfafepmghcobdaaPduJ
import Derived.Test.YtfafepmghcobdaaPduD
import Derived.Test.YtfafepmghcobdaaGa
namespace Go.Proofs.Ytfafepmghcobdaa
open Go.RowKit
set_option linter.unusedVariables false
set_option linter.unusedSimpArgs false
set_option maxRecDepth 20000
/-- A letter with its data's slice, as it came in. -/
def QOk (w : World) (o : Ag) (x : Pd × Value) : Prop := x.1.ok ∧ pduE x.1 o = 0 ∧ (∃ A n c, x.2 = .slice A n c) ∧ Bs w x.2 x.1.data
structure BS (w wr : World) (o : Ag) (b : Nat) (va vw : Value) (qs : List (Pd × Value)) (rest : List UInt8) (r : Rd1) : Prop where
  same : Same w wr
  opt : BoxC wr w.heap.size (agC o)
  rd : ∃ v, RdV (w.heap.size + 1) wr b v r ∧ ∀ k, rft b v k → ¬ room va = some k ∧ ¬ room vw = some k
  all : Fresh (w.heap.size + 1) wr va rest
  want : Own (w.heap.size + 1) wr vw 15 (qs.flatMap fun x => pdC x.1 x.2)
  ap : ∀ k, room va = some k → ¬ room vw = some k
  oks : ∀ x ∈ qs, QOk w o x
theorem BS.size {w wr : World} {o : Ag} {b : Nat} {va vw : Value} {qs : List (Pd × Value)} {rest : List UInt8} {r : Rd1} (h : BS w wr o b va vw qs rest r) : w.heap.size + 1 ≤ wr.heap.size := h.opt.lt (by simp [agC])
theorem BS.same' {w wr wk : World} {o : Ag} {b : Nat} {va vw : Value} {qs : List (Pd × Value)} {rest : List UInt8} {r : Rd1} (h : BS w wr o b va vw qs rest r) (hs : Same wr wk) : BS w wk o b va vw qs rest r := by
  obtain ⟨v, h1, h2⟩ := h.rd
  exact ⟨Same.trans h.same hs, h.opt.upd (by simp [agC]) hs id, ⟨v, h1.same hs, h2⟩, h.all.same hs, h.want.same hs, h.ap, h.oks⟩
theorem Own.ge15 {base : Nat} {w : World} {v : Value} {cs : List Value} (h : Own base w v 15 cs) : ∀ k, room v = some k → base ≤ k ∧ k < w.heap.size := h.ge (by decide)
/-- The bytes' row has grown. -/
theorem BS.app {w wr wk : World} {o : Ag} {b : Nat} {va va' vw : Value} {qs : List (Pd × Value)} {rest rest' : List UInt8} {r : Rd1} (h : BS w wr o b va vw qs rest r) (hf : Fresh (w.heap.size + 1) wk va' rest') (hu : Upd (fun k => room va = some k) wr wk) (hr : ∀ k, room va' = some k → room va = some k ∨ wr.heap.size ≤ k) : BS w wk o b va' vw qs rest' r := by
  obtain ⟨v, h1, h2⟩ := h.rd
  refine ⟨Same.into h.same hu (fun k hk => by have := (h.all.ge k hk).1; omega), h.opt.upd (by simp [agC]) hu (fun e => by have := (h.all.ge _ e).1; omega), ⟨v, h1.upd hu (fun k hk e => (h2 k hk).1 e), fun k hk => ⟨fun e => ?_, (h2 k hk).2⟩⟩, hf, h.want.upd hu (fun k hk e => h.ap k e hk), fun k hk e => ?_, h.oks⟩
  · rcases hr k e with e1 | e1
    · exact (h2 k hk).1 e1
    · have := (h1.foot k hk).2; omega
  · rcases hr k hk with e1 | e1
    · exact h.ap k e1 e
    · have := (h.want.ge15 k e).2; omega
/-- The letters' row has grown. -/
theorem BS.wapp {w wr wk : World} {o : Ag} {b : Nat} {va vw vw' : Value} {qs qs' : List (Pd × Value)} {rest : List UInt8} {r : Rd1} (h : BS w wr o b va vw qs rest r) (hf : Own (w.heap.size + 1) wk vw' 15 (qs'.flatMap fun x => pdC x.1 x.2)) (hu : Upd (fun k => room vw = some k) wr wk) (hr : ∀ k, room vw' = some k → room vw = some k ∨ wr.heap.size ≤ k) (ho : ∀ x ∈ qs', QOk w o x) : BS w wk o b va vw' qs' rest r := by
  obtain ⟨v, h1, h2⟩ := h.rd
  refine ⟨Same.into h.same hu (fun k hk => by have := (h.want.ge15 k hk).1; omega), h.opt.upd (by simp [agC]) hu (fun e => by have := (h.want.ge15 _ e).1; omega), ⟨v, h1.upd hu (fun k hk e => (h2 k hk).2 e), fun k hk => ⟨(h2 k hk).1, fun e => ?_⟩⟩, h.all.upd hu (fun k hk e => h.ap k hk e), hf, fun k hk e => ?_, ho⟩
  · rcases hr k e with e1 | e1
    · exact (h2 k hk).2 e1
    · have := (h1.foot k hk).2; omega
  · rcases hr k e with e1 | e1
    · exact h.ap k hk e1
    · have := (h.all.ge k hk).2; omega
/-- The bytes' row is cut at its front. -/
theorem BS.cut {w wr : World} {o : Ag} {b : Nat} {va va' vw : Value} {qs : List (Pd × Value)} {rest rest' : List UInt8} {r : Rd1} (h : BS w wr o b va vw qs rest r) (hf : Fresh (w.heap.size + 1) wr va' rest') (hr : ∀ k, room va' = some k → room va = some k) : BS w wr o b va' vw qs rest' r := by
  obtain ⟨v, h1, h2⟩ := h.rd
  exact ⟨h.same, h.opt, ⟨v, h1, fun k hk => ⟨fun e => (h2 k hk).1 (hr k e), (h2 k hk).2⟩⟩, hf, h.want, fun k hk => h.ap k (hr k hk), h.oks⟩
/-- The reader has done something. -/
theorem BS.act {w wr wk : World} {o : Ag} {b : Nat} {va vw v : Value} {qs : List (Pd × Value)} {rest : List UInt8} {r r' : Rd1} (h : BS w wr o b va vw qs rest r) (h1 : RdV (w.heap.size + 1) wr b v r) (h2 : ∀ k, rft b v k → ¬ room va = some k ∧ ¬ room vw = some k) (hg : RdG (w.heap.size + 1) wr b v wk r') : BS w wk o b va vw qs rest r' := by
  obtain ⟨v', g1, g2, g3⟩ := hg
  have hrf : ∀ k, rft b v' k → rft b v k ∨ wr.heap.size ≤ k := by
    rintro k (hk | hk)
    · exact .inl (.inl hk)
    · exact (g3 k hk).imp_left .inr
  refine ⟨Same.into h.same g2 (fun k hk => by have := (h1.foot k hk).1; omega), h.opt.upd (by simp [agC]) g2 (fun e => by have := (h1.foot _ e).1; omega), ⟨v', g1, fun k hk => ⟨fun e => ?_, fun e => ?_⟩⟩, h.all.upd g2 (fun k hk e => (h2 k e).1 hk), h.want.upd g2 (fun k hk e => (h2 k e).2 hk), h.ap, h.oks⟩
  · rcases hrf k hk with e1 | e1
    · exact (h2 k e1).1 e
    · have := (h.all.ge k e).2; omega
  · rcases hrf k hk with e1 | e1
    · exact (h2 k e1).2 e
    · have := (h.want.ge15 k e).2; omega
theorem BS.feed {w wr : World} {o : Ag} {b : Nat} {va vw : Value} {qs : List (Pd × Value)} {rest : List UInt8} {r : Rd1} (h : BS w wr o b va vw qs rest r) (hd : r.dead = false) {A : Option Addr} {n cap : Nat} {bs : List UInt8} (hb : Bs wr (.slice A n cap) bs) (hl : r.b.length + bs.length ≤ 131072) :
    Calls Try.prog 15 #[.pointer (some ⟨b, 0, none⟩), .slice A n cap] wr fun e w' => e = .returned (.int .i64 0) ∧ BS w w' o b va vw qs rest { r with b := r.b ++ bs } := by
  obtain ⟨v, h1, h2⟩ := h.rd
  refine (h1.feed20 h.size hd hl hb).mono ?_
  rintro e w' ⟨rfl, hg⟩
  exact ⟨rfl, h.act h1 h2 hg⟩
theorem BS.next {w wr : World} {o : Ag} {b : Nat} {va vw : Value} {qs : List (Pd × Value)} {rest : List UInt8} {r : Rd1} (h : BS w wr o b va vw qs rest r) (hl : r.b.length ≤ 131072) :
    Calls Try.prog 16 #[.pointer (some ⟨b, 0, none⟩)] wr fun e w' => ∃ A n cap, e = .returned (.tuple #[pdA r.next.1 (.slice A n cap), .int .i64 r.next.2.1, .bool r.next.2.2.1]) ∧ Bs w' (.slice A n cap) r.next.1.data ∧ BS w w' o b va vw qs rest r.next.2.2.2 := by
  obtain ⟨v, h1, h2⟩ := h.rd
  refine (next_any h1 h.size hl).mono ?_
  rintro e w' ⟨A, n, cap, rfl, hf, v', g1, g2, g3, g4⟩
  exact ⟨A, n, cap, rfl, hf.bs, h.act h1 h2 ⟨v', g1, g2, g3⟩⟩
theorem flat_pdC (qs : List (Pd × Value)) : (qs.flatMap fun x => pdC x.1 x.2).length = qs.length * 15 := by
  induction qs with
  | nil => rfl
  | cons x qs ih => rw [List.flatMap_cons, List.length_append, ih, List.length_cons]; simp [pdC]; omega
theorem flat_pdC_at (qs : List (Pd × Value)) (i : Nat) (x : Pd × Value) (hx : qs[i]? = some x) (j : Nat) (u : Value) (hj : (pdC x.1 x.2)[j]? = some u) : (qs.flatMap fun x => pdC x.1 x.2)[i * 15 + j]? = some u := by
  induction qs generalizing i with
  | nil => simp at hx
  | cons y qs ih =>
    have hl : (pdC y.1 y.2).length = 15 := rfl
    rw [List.flatMap_cons]
    cases i with
    | zero =>
      simp only [List.getElem?_cons_zero, Option.some.injEq] at hx
      subst hx
      have hlt : j < 15 := by have := (List.getElem?_eq_some_iff.1 hj).1; omega
      rw [Nat.zero_mul, Nat.zero_add, List.getElem?_append_left (by omega)]
      exact hj
    | succ i =>
      rw [List.getElem?_cons_succ] at hx
      rw [List.getElem?_append_right (by omega), show (i + 1) * 15 + j - (pdC y.1 y.2).length = i * 15 + j by omega]
      exact ih i hx
end Go.Proofs.Ytfafepmghcobdaa
