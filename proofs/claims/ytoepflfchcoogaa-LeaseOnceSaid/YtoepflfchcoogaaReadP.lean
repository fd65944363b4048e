/- The reads and the reference's, beside each other. -/
import Derived.Test.YtoepflfchcoogaaReadS
import Derived.Test.YtoepflfchcoogaaLeasePair
namespace Go.Proofs.Ytoepflfchcoogaa
open Go.RowKit
set_option linter.unusedVariables false
set_option linter.unusedSimpArgs false
/-- What may be answered; what waits on. -/
def outL (ls : List (Int × Int)) (ap : Int) : List Int := (ls.filter fun x : Int × Int => decide (x.2 ≤ ap)).map (·.1)
def leftL (ls : List (Int × Int)) (ap : Int) : List (Int × Int) := ls.filter fun x => !(decide (x.2 ≤ ap))
theorem leftL_len {ls : List (Int × Int)} (h : ls.length ≤ 100) (ap : Int) : (leftL ls ap).length ≤ 100 := Nat.le_trans (List.length_filter_le _ _) h
theorem outL_len (ls : List (Int × Int)) (ap : Int) : (outL ls ap).length ≤ ls.length := by
  unfold outL
  rw [List.length_map]
  exact List.length_filter_le _ _
section
variable {base : Nat} {F : Nat → Prop} {W : World} {p : Nat} {ls : List (Int × Int)}
theorem rdgrew_mk {w' : World} {v vl : Value} {left : List (Int × Int)} (hF : ∀ k, rdfoot p v k → F k) (hFt : Foot base F W) (hb : base ≤ W.heap.size) (h1 : RdV base w' p vl left) (h2 : ∀ k, rdfoot p vl k → rdfoot p v k ∨ W.heap.size ≤ k) (hu : Upd (rdfoot p v) W w') : RdGrew base F W p w' left :=
  RdGrew.of hF hFt hb ⟨rdfoot p vl, ⟨vl, h1, fun _ h => h, h1.foot⟩, hu, h2⟩
theorem rrdgrew_mk {w' : World} {v vl : Value} {left : List (Int × Int)} (hF : ∀ k, rrfoot p v k → F k) (hFt : Foot base F W) (hb : base ≤ W.heap.size) (h1 : RRdV base w' p vl left) (h2 : ∀ k, rrfoot p vl k → rrfoot p v k ∨ W.heap.size ≤ k) (hu : Upd (rrfoot p v) W w') : RRdGrew base F W p w' left :=
  RRdGrew.of hF hFt hb ⟨rrfoot p vl, ⟨vl, h1, fun _ h => h, h1.foot⟩, hu, h2⟩
theorem ready_o (ho : RdO base F W p ls) (hb : base ≤ W.heap.size) (hlen : ls.length ≤ 100) (ap : Int) : Calls Try.prog 23 #[.pointer (some ⟨p, 0, none⟩), .int .i64 ap] W fun e w' => ∃ vo, e = .returned vo ∧ Own W.heap.size w' vo 1 ((outL ls ap).map numC) ∧ RdGrew base F W p w' (leftL ls ap) := by
  obtain ⟨v, hv, hF, hFt⟩ := ho
  refine (readyLaw_any hv hb hlen ap).mono ?_
  rintro e w' ⟨vo, rfl, h1, ⟨vl, h2, h3, h4⟩, h5⟩
  exact ⟨vo, rfl, h1, rdgrew_mk hF hFt hb h2 h3 h5⟩
theorem drop_o (ho : RdO base F W p ls) (hb : base ≤ W.heap.size) (hlen : ls.length ≤ 100) : Calls Try.prog 25 #[.pointer (some ⟨p, 0, none⟩)] W fun e w' => ∃ vo, e = .returned vo ∧ Own W.heap.size w' vo 1 ((ls.map (·.1)).map numC) ∧ RdGrew base F W p w' [] := by
  obtain ⟨v, hv, hF, hFt⟩ := ho
  refine (drop_any hv hb hlen).mono ?_
  rintro e w' ⟨vo, rfl, h1, ⟨vl, h2, h3, h4⟩, h5⟩
  exact ⟨vo, rfl, h1, rdgrew_mk hF hFt hb h2 h3 h5⟩
theorem rask_o (ho : RRdO base F W p ls) (hb : base ≤ W.heap.size) (hlen : ls.length ≤ 100) (id ix : Int) : Calls Try.prog 21 #[.pointer (some ⟨p, 0, none⟩), .int .i64 id, .int .i64 ix] W fun e w' => e = .returned (.int .i64 (askL ls id ix).1) ∧ RRdGrew base F W p w' (askL ls id ix).2 := by
  obtain ⟨v, hv, hF, hFt⟩ := ho
  refine (rask_any hv hb hlen id ix).mono ?_
  rintro e w' ⟨rfl, hg⟩
  exact ⟨rfl, hg.of hF hFt hb⟩
theorem rready_o (ho : RRdO base F W p ls) (hb : base ≤ W.heap.size) (hlen : ls.length ≤ 100) (ap : Int) : Calls Try.prog 24 #[.pointer (some ⟨p, 0, none⟩), .int .i64 ap] W fun e w' => ∃ vo, e = .returned vo ∧ Own W.heap.size w' vo 1 ((outL ls ap).map numC) ∧ RRdGrew base F W p w' (leftL ls ap) := by
  obtain ⟨v, hv, hF, hFt⟩ := ho
  refine (rready_any hv hb hlen ap).mono ?_
  rintro e w' ⟨vo, rfl, h1, ⟨vl, h2, h3, h4⟩, h5⟩
  exact ⟨vo, rfl, h1, rrdgrew_mk hF hFt hb h2 h3 h5⟩
theorem rdrop_o (ho : RRdO base F W p ls) (hb : base ≤ W.heap.size) (hlen : ls.length ≤ 100) : Calls Try.prog 26 #[.pointer (some ⟨p, 0, none⟩)] W fun e w' => ∃ vo, e = .returned vo ∧ Own W.heap.size w' vo 1 ((ls.map (·.1)).map numC) ∧ RRdGrew base F W p w' [] := by
  obtain ⟨v, hv, hF, hFt⟩ := ho
  refine (rdrop_any hv hb hlen).mono ?_
  rintro e w' ⟨vo, rfl, h1, h2, h5⟩
  exact ⟨vo, rfl, h1, rrdgrew_mk hF hFt hb h2 (fun k hk => by
    rcases hk with e | e
    · exact .inl (.inl e)
    · simp [room] at e) h5⟩
theorem rdlen_o (ho : RdO base F W p ls) : Calls Try.prog 27 #[.pointer (some ⟨p, 0, none⟩)] W fun r w' => r = .returned (.int .i64 ls.length) ∧ w' = W := by
  obtain ⟨v, hv, -, -⟩ := ho
  exact rdlen_any hv
theorem RRdO.row (ho : RRdO base F W p ls) : ∃ A cap, W.cell? ⟨p, 0, none⟩ = some (.slice A ls.length cap) := by
  obtain ⟨v, hv, -, -⟩ := ho
  obtain ⟨A, m, cap, rfl, h1, h2, h3⟩ := hv.2.2.1.open_
  rw [sent_length] at h1
  obtain rfl : m = ls.length := by omega
  exact ⟨A, cap, hv.2.1.1⟩
theorem RdO.foot (ho : RdO base F W p ls) : Foot base F W := by obtain ⟨v, a1, a2, a3⟩ := ho; exact a3
theorem RRdO.foot (ho : RRdO base F W p ls) : Foot base F W := by obtain ⟨v, a1, a2, a3⟩ := ho; exact a3
end
def RPair (w0 W : World) (p q : Nat) (ls : List (Int × Int)) : Prop := ∃ F G, RdO w0.heap.size F W p ls ∧ RRdO w0.heap.size G W q ls ∧ (∀ k, F k → ¬ G k) ∧ ls.length ≤ 100 ∧ Same w0 W
theorem RPair.same {w0 W W' : World} {p q : Nat} {ls : List (Int × Int)} (h : RPair w0 W p q ls) (hs : Same W W') : RPair w0 W' p q ls := by
  obtain ⟨F, G, h1, h2, h3, h4, h5⟩ := h
  exact ⟨F, G, h1.same hs, h2.same hs, h3, h4, Same.trans h5 hs⟩
theorem RPair.both {w0 W W1 W2 : World} {p q : Nat} {ls ls' : List (Int × Int)} {F G : Nat → Prop} (h1 : RdO w0.heap.size F W p ls) (h2 : RRdO w0.heap.size G W q ls) (h3 : ∀ k, F k → ¬ G k) (h5 : Same w0 W) (hok : ls'.length ≤ 100)
    (g1 : RdGrew w0.heap.size F W p W1 ls') (g2 : RRdGrew w0.heap.size G W1 q W2 ls') : RPair w0 W2 p q ls' := by
  obtain ⟨F', a1, a2⟩ := g1
  obtain ⟨G', b1, b2⟩ := g2
  have hd1 := a2.apart h2.foot h3
  have hF1 : Foot w0.heap.size F' W1 := a1.foot
  have hG1 : Foot w0.heap.size G W1 := h2.foot.mono a2.1.size
  have hd2 : ∀ k, G' k → ¬ F' k := b2.apart hF1 fun k hk hf => hd1 k hf hk
  exact ⟨F', G', a1.upd b2.1 (fun k hk hg => hd1 k hk hg), b1, fun k hk hg => hd2 k hg hk, hok, b2.keeps (a2.keeps h5 h1.foot) hG1⟩
end Go.Proofs.Ytoepflfchcoogaa
