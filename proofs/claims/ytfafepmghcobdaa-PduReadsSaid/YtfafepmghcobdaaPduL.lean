/- Letters (chapter 17): the program's and the reference's reader side by side. -/
import Derived.Test.YtfafepmghcobdaaPduJ
import Derived.Test.YtfafepmghcobdaaPduF
import Derived.Test.YtfafepmghcobdaaPduI
namespace Go.Proofs.Ytfafepmghcobdaa
open Go.RowKit
set_option linter.unusedVariables false
set_option linter.unusedSimpArgs false
set_option maxRecDepth 20000
/-- Two readers that share no block; and blocks S that neither has. -/
def PP (base : Nat) (w : World) (b c : Nat) (r q : Rd1) (S : Nat → Prop) : Prop :=
  ∃ v u, RdV base w b v r ∧ RdV base w c u q ∧ (∀ k, rft b v k → ¬ rft c u k) ∧ ∀ k, S k → k < w.heap.size ∧ ¬ rft b v k ∧ ¬ rft c u k
theorem PP.same {base : Nat} {w w' : World} {b c : Nat} {r q : Rd1} {S : Nat → Prop} (h : PP base w b c r q S) (hs : Same w w') : PP base w' b c r q S := by
  obtain ⟨v, u, h1, h2, h3, h4⟩ := h
  exact ⟨v, u, h1.same hs, h2.same hs, h3, fun k hk => ⟨Nat.lt_of_lt_of_le (h4 k hk).1 hs.size, (h4 k hk).2⟩⟩
theorem PP.mono {base : Nat} {w : World} {b c : Nat} {r q : Rd1} {S T : Nat → Prop} (h : PP base w b c r q S) (hT : ∀ k, T k → S k) : PP base w b c r q T := by
  obtain ⟨v, u, h1, h2, h3, h4⟩ := h
  exact ⟨v, u, h1, h2, h3, fun k hk => h4 k (hT k hk)⟩
/-- Blocks that are new, or that were kept apart. -/
theorem PP.more {base : Nat} {w w' : World} {b c : Nat} {r q : Rd1} {S T : Nat → Prop} (h : PP base w b c r q S) (hs : Same w w') (hT : ∀ k, T k → S k ∨ (w.heap.size ≤ k ∧ k < w'.heap.size)) : PP base w' b c r q T := by
  obtain ⟨v, u, h1, h2, h3, h4⟩ := h
  refine ⟨v, u, h1.same hs, h2.same hs, h3, fun k hk => ?_⟩
  rcases hT k hk with e | ⟨e1, e2⟩
  · exact ⟨Nat.lt_of_lt_of_le (h4 k e).1 hs.size, (h4 k e).2⟩
  · exact ⟨e2, fun hr => by have := (h1.foot k hr).2; omega, fun hr => by have := (h2.foot k hr).2; omega⟩
/-- A write to blocks that were kept apart. -/
theorem PP.off {base : Nat} {w w' : World} {b c : Nat} {r q : Rd1} {S : Nat → Prop} (h : PP base w b c r q S) (hu : Upd S w w') : PP base w' b c r q S := by
  obtain ⟨v, u, h1, h2, h3, h4⟩ := h
  exact ⟨v, u, h1.upd hu (fun k hk hS => (h4 k hS).2.1 hk), h2.upd hu (fun k hk hS => (h4 k hS).2.2 hk), h3, fun k hk => ⟨Nat.lt_of_lt_of_le (h4 k hk).1 hu.size, (h4 k hk).2⟩⟩
/-- What is written lies at or above base, and not in S. -/
def Aside (base : Nat) (S : Nat → Prop) (w w' : World) : Prop := ∃ U, Upd U w w' ∧ (∀ k, U k → base ≤ k) ∧ ∀ k, S k → ¬ U k
theorem Aside.into {base : Nat} {S : Nat → Prop} {w w1 w2 : World} (hs : Same w w1) (hb : w.heap.size ≤ base) (h : Aside base S w1 w2) : Same w w2 := by
  obtain ⟨U, hu, hk, _⟩ := h
  exact Same.into hs hu (fun k hk2 => Nat.le_trans hb (hk k hk2))
theorem PP.fst {base : Nat} {w w' : World} {b c : Nat} {r r' q : Rd1} {S : Nat → Prop} {v u : Value} (h1 : RdV base w b v r) (h2 : RdV base w c u q) (h3 : ∀ k, rft b v k → ¬ rft c u k) (h4 : ∀ k, S k → k < w.heap.size ∧ ¬ rft b v k ∧ ¬ rft c u k) (hg : RdG base w b v w' r') : PP base w' b c r' q S ∧ Aside base S w w' := by
  obtain ⟨v', g1, g2, g3⟩ := hg
  have hrf : ∀ k, rft b v' k → rft b v k ∨ w.heap.size ≤ k := by
    rintro k (hk | hk)
    · exact .inl (.inl hk)
    · exact (g3 k hk).imp_left .inr
  refine ⟨⟨v', u, g1, h2.upd g2 (fun k hk e => h3 k e hk), fun k hk hc => ?_, fun k hk => ?_⟩, rft b v, g2, fun k hk => (h1.foot k hk).1, fun k hk => (h4 k hk).2.1⟩
  · rcases hrf k hk with e | e
    · exact h3 k e hc
    · have := (h2.foot k hc).2; omega
  · obtain ⟨s1, s2, s3⟩ := h4 k hk
    exact ⟨Nat.lt_of_lt_of_le s1 g2.size, fun hr => (hrf k hr).elim s2 (fun e => by omega), s3⟩
theorem PP.snd {base : Nat} {w w' : World} {b c : Nat} {r q q' : Rd1} {S : Nat → Prop} {v u : Value} (h1 : RdV base w b v r) (h2 : RdV base w c u q) (h3 : ∀ k, rft b v k → ¬ rft c u k) (h4 : ∀ k, S k → k < w.heap.size ∧ ¬ rft b v k ∧ ¬ rft c u k) (hg : RdG base w c u w' q') : PP base w' b c r q' S ∧ Aside base S w w' := by
  obtain ⟨u', g1, g2, g3⟩ := hg
  have hrf : ∀ k, rft c u' k → rft c u k ∨ w.heap.size ≤ k := by
    rintro k (hk | hk)
    · exact .inl (.inl hk)
    · exact (g3 k hk).imp_left .inr
  refine ⟨⟨v, u', h1.upd g2 (fun k hk e => h3 k hk e), g1, fun k hk hc => ?_, fun k hk => ?_⟩, rft c u, g2, fun k hk => (h2.foot k hk).1, fun k hk => (h4 k hk).2.2⟩
  · rcases hrf k hc with e | e
    · exact h3 k hk e
    · have := (h1.foot k hk).2; omega
  · obtain ⟨s1, s2, s3⟩ := h4 k hk
    exact ⟨Nat.lt_of_lt_of_le s1 g2.size, s2, fun hr => (hrf k hr).elim s3 (fun e => by omega)⟩
theorem PP.feed {base : Nat} {w : World} {b c : Nat} {r q : Rd1} {S : Nat → Prop} (h : PP base w b c r q S) (hb : base ≤ w.heap.size) (hr : r.b.length ≤ 131072) (A : Option Addr) (n cap : Nat) (bs : List UInt8) (hbs : Bs w (.slice A n cap) bs) (hl : bs.length ≤ 200000000000000) :
    Calls Try.prog 15 #[.pointer (some ⟨b, 0, none⟩), .slice A n cap] w fun e w' => e = .returned (.int .i64 (r.feedE bs.length)) ∧ PP base w' b c (r.feed bs) q S ∧ Aside base S w w' := by
  obtain ⟨v, u, h1, h2, h3, h4⟩ := h
  refine (feed_any h1 hb hr A n cap bs hbs hl).mono ?_
  rintro e w' ⟨rfl, hg⟩
  exact ⟨rfl, PP.fst h1 h2 h3 h4 hg⟩
theorem PP.rfeed {base : Nat} {w : World} {b c : Nat} {r q : Rd1} {S : Nat → Prop} (h : PP base w b c r q S) (hb : base ≤ w.heap.size) (hr : q.b.length ≤ 131072) (A : Option Addr) (n cap : Nat) (bs : List UInt8) (hbs : Bs w (.slice A n cap) bs) (hl : bs.length ≤ 200000000000000) :
    Calls Try.prog 24 #[.pointer (some ⟨c, 0, none⟩), .slice A n cap] w fun e w' => e = .returned (.int .i64 (q.feedE bs.length)) ∧ PP base w' b c r (q.feed bs) S ∧ Aside base S w w' := by
  obtain ⟨v, u, h1, h2, h3, h4⟩ := h
  refine (rfeed_any h2 hb hr A n cap bs hbs hl).mono ?_
  rintro e w' ⟨rfl, hg⟩
  exact ⟨rfl, PP.snd h1 h2 h3 h4 hg⟩
theorem PP.set {base : Nat} {w : World} {b c : Nat} {r q : Rd1} {S : Nat → Prop} (h : PP base w b c r q S) (o : Ag) :
    Calls Try.prog 28 #[.pointer (some ⟨b, 0, none⟩), agA o] w fun e w' => e = .returned (.int .i64 (if r.dead then 21 else if o.right then 0 else 1)) ∧ PP base w' b c (if r.dead then r else if o.right then { r with o := o } else r) q S ∧ Aside base S w w' := by
  obtain ⟨v, u, h1, h2, h3, h4⟩ := h
  refine (set_any h1 o).mono ?_
  rintro e w' ⟨rfl, hg⟩
  exact ⟨rfl, PP.fst h1 h2 h3 h4 hg⟩
/-- Next of the one; what is told lies apart. -/
theorem PP.next {base : Nat} {w : World} {b c : Nat} {r q : Rd1} {S : Nat → Prop} (h : PP base w b c r q S) (hb : base ≤ w.heap.size) (hr : r.b.length ≤ 131072) :
    Calls Try.prog 16 #[.pointer (some ⟨b, 0, none⟩)] w fun e w' => ∃ A n cap, e = .returned (.tuple #[pdA r.next.1 (.slice A n cap), .int .i64 r.next.2.1, .bool r.next.2.2.1]) ∧ Fresh w.heap.size w' (.slice A n cap) r.next.1.data ∧ PP base w' b c r.next.2.2.2 q (fun k => S k ∨ room (.slice A n cap) = some k) ∧ Aside base S w w' := by
  obtain ⟨v, u, h1, h2, h3, h4⟩ := h
  refine (next_any h1 hb hr).mono ?_
  rintro e w' ⟨A, n, cap, rfl, hf, v', g1, g2, g3, g4⟩
  obtain ⟨⟨v'', u', p1, p2, p3, p4⟩, hl⟩ := PP.fst h1 h2 h3 h4 (⟨v', g1, g2, g3⟩ : RdG base w b v w' r.next.2.2.2)
  have hrf : ∀ k, rft b v' k → rft b v k ∨ w.heap.size ≤ k := by
    rintro k (hk | hk)
    · exact .inl (.inl hk)
    · exact (g3 k hk).imp_left .inr
  refine ⟨A, n, cap, rfl, hf, ⟨v', u, g1, h2.upd g2 (fun k hk e => h3 k e hk), fun k hk hc => ?_, fun k hk => ?_⟩, hl⟩
  · rcases hrf k hk with e | e
    · exact h3 k e hc
    · have := (h2.foot k hc).2; omega
  · rcases hk with hk | hk
    · obtain ⟨s1, s2, s3⟩ := h4 k hk
      exact ⟨Nat.lt_of_lt_of_le s1 g2.size, fun hr => (hrf k hr).elim s2 (fun e => by omega), s3⟩
    · have h5 := hf.ge k hk
      exact ⟨h5.2, g4 k hk, fun hr => by have := (h2.foot k hr).2; omega⟩
theorem PP.rnext {base : Nat} {w : World} {b c : Nat} {r q : Rd1} {S : Nat → Prop} (h : PP base w b c r q S) (hb : base ≤ w.heap.size) (hr : q.b.length ≤ 131072) :
    Calls Try.prog 27 #[.pointer (some ⟨c, 0, none⟩)] w fun e w' => ∃ A n cap, e = .returned (.tuple #[pdA q.next.1 (.slice A n cap), .int .i64 q.next.2.1, .bool q.next.2.2.1]) ∧ Fresh w.heap.size w' (.slice A n cap) q.next.1.data ∧ PP base w' b c r q.next.2.2.2 S ∧ Aside base S w w' := by
  obtain ⟨v, u, h1, h2, h3, h4⟩ := h
  refine (rnext_any h2 hb hr).mono ?_
  rintro e w' ⟨A, n, cap, rfl, hf, v', g1, g2, g3, g4⟩
  obtain ⟨hp, hl⟩ := PP.snd h1 h2 h3 h4 (⟨v', g1, g2, g3⟩ : RdG base w c u w' q.next.2.2.2)
  exact ⟨A, n, cap, rfl, hf, hp, hl⟩
/-- The reference's reader takes what is agreed on anew. -/
theorem PP.setq {base : Nat} {w : World} {b c : Nat} {r q : Rd1} {S : Nat → Prop} (h : PP base w b c r q S) (o : Ag) : PP base (((w.setCell ⟨c, 0, none⟩ (.bool o.hs)).setCell ⟨c, 1, none⟩ (.bool o.ds)).setCell ⟨c, 2, none⟩ (.int .i64 o.most)) b c r { q with o := o } S ∧ Aside base S w (((w.setCell ⟨c, 0, none⟩ (.bool o.hs)).setCell ⟨c, 1, none⟩ (.bool o.ds)).setCell ⟨c, 2, none⟩ (.int .i64 o.most)) := by
  obtain ⟨v, u, h1, h2, h3, h4⟩ := h
  have hu : Upd (fun k => k = c) w (((w.setCell ⟨c, 0, none⟩ (.bool o.hs)).setCell ⟨c, 1, none⟩ (.bool o.ds)).setCell ⟨c, 2, none⟩ (.int .i64 o.most)) := (((Upd.refl (fun k => k = c) w).setCell (p := ⟨c, 0, none⟩) (fun _ => rfl) _).setCell (p := ⟨c, 1, none⟩) (fun _ => rfl) _).setCell (p := ⟨c, 2, none⟩) (fun _ => rfl) _
  refine PP.snd h1 h2 h3 h4 ⟨u, ⟨h2.1, h2.2.1.setO o, h2.2.2.1.set.set.set, h2.2.2.2.1.upd hu (fun k hk e => h2.2.2.2.2 (by rw [hk, e])), h2.2.2.2.2⟩, hu.mono fun k _ hk => .inl hk, fun k hk => .inl hk⟩
/-- The reference's new reader. -/
theorem PP.start {base : Nat} {w : World} {b : Nat} {r : Rd1} {v : Value} (h : RdV base w b v r) (hb : base ≤ w.heap.size) (o : Ag) (t : TypeId) : PP base (w.alloc (.cells #[.bool o.hs, .bool o.ds, .int .i64 o.most, .slice none 0 0, .bool false] t)) b w.heap.size r ⟨o, [], false⟩ (fun _ => False) := by
  have hs : Same w (w.alloc (.cells #[.bool o.hs, .bool o.ds, .int .i64 o.most, .slice none 0 0, .bool false] t)) := (Upd.refl _ w).alloc _
  refine ⟨v, .slice none 0 0, h.same hs, ⟨hb, fun j u hj => ?_, FzAt.newAt w _ t _ rfl, Fresh.nil _ _, by simp [room]⟩, fun k hk hc => ?_, fun k hk => hk.elim⟩
  · rw [cell_of_row _ _ j _ _ (0, 0) (heap_alloc_new w _)]
    simpa [RdC] using hj
  · rcases hc with hc | hc
    · have := (h.foot k hk).2; omega
    · simp [room] at hc
theorem feed_len (r : Rd1) (bs : List UInt8) (h : r.b.length ≤ 131072) : (r.feed bs).b.length ≤ 131072 := by
  unfold Rd1.feed
  split
  · exact h
  · split
    · simp [Rd1.die]
    · rename_i h2; simp only [List.length_append]; omega
theorem next_len (r : Rd1) (h : r.b.length ≤ 131072) : r.next.2.2.2.b.length ≤ 131072 := by
  unfold Rd1.next
  repeat' split
  all_goals first
    | exact h
    | (simp [Rd1.die]; done)
    | (simp only [Rd1.rest, List.length_drop]; omega)
end Go.Proofs.Ytfafepmghcobdaa
