/- Two objects beside each other; rows of fields that came in. -/
import Derived.Test.YtgfdadbgbdcehaaRReaderC
namespace Go.Proofs.Ytgfdadbgbdcehaa
open Go.RowKit
set_option linter.unusedVariables false
set_option linter.unusedSimpArgs false

/-- Two objects of the call's own, apart; what was there when the call began is as it was. -/
def Two (w0 : World) (W : World) (p : Nat) (v : Value) (bs : List UInt8) (e : Int) (q : Nat) (u : Value) (cs : List UInt8) (f : Int) : Prop :=
  WObj w0.heap.size W p v bs e ∧ WObj w0.heap.size W q u cs f ∧ (∀ k, foot p v k → ¬ foot q u k) ∧ Same w0 W
theorem Two.swap {w0 W : World} {p q : Nat} {v u : Value} {bs cs : List UInt8} {e f : Int} (h : Two w0 W p v bs e q u cs f) : Two w0 W q u cs f p v bs e := ⟨h.2.1, h.1, fun k h1 h2 => h.2.2.1 k h2 h1, h.2.2.2⟩
theorem Two.base {w0 W : World} {p q : Nat} {v u : Value} {bs cs : List UInt8} {e f : Int} (h : Two w0 W p v bs e q u cs f) : w0.heap.size ≤ W.heap.size := h.2.2.2.size
/-- The first one's doings. -/
theorem Two.p {w0 W W' : World} {p q : Nat} {v u : Value} {bs cs bs' : List UInt8} {e f e' : Int} (h : Two w0 W p v bs e q u cs f) (hg : Grew w0.heap.size W p v W' bs' e') :
    ∃ v', Two w0 W' p v' bs' e' q u cs f ∧ Upd (foot p v) W W' ∧ (∀ k, room v' = some k → room v = some k ∨ W.heap.size ≤ k) := by
  obtain ⟨v', ho, hu, hr⟩ := hg
  refine ⟨v', ⟨ho, h.2.1.upd hu fun k h1 h2 => h.2.2.1 k h2 h1, ?_, Same.into h.2.2.2 hu fun k hk => (h.1.foot k hk).1⟩, hu, hr⟩
  rintro k (rfl | e) h2
  · exact h.2.2.1 _ (.inl rfl) h2
  · rcases hr k e with e | e
    · exact h.2.2.1 _ (.inr e) h2
    · have := (h.2.1.foot k h2).2
      omega
theorem Two.q {w0 W W' : World} {p q : Nat} {v u : Value} {bs cs cs' : List UInt8} {e f f' : Int} (h : Two w0 W p v bs e q u cs f) (hg : Grew w0.heap.size W q u W' cs' f') :
    ∃ u', Two w0 W' p v bs e q u' cs' f' ∧ Upd (foot q u) W W' ∧ (∀ k, room u' = some k → room u = some k ∨ W.heap.size ≤ k) := by
  obtain ⟨u', h1, h2, h3⟩ := h.swap.p hg
  exact ⟨u', h1.swap, h2, h3⟩
/-- A reader's doings. -/
theorem Two.rd {w0 W W' : World} {p q : Nat} {v u : Value} {bs cs bs' : List UInt8} {e f e' : Int} (h : Two w0 W p v bs e q u cs f) (hg : Rd w0.heap.size W p v W' bs' e') :
    ∃ v', Two w0 W' p v' bs' e' q u cs f ∧ Upd (fun k => k = p) W W' ∧ (∀ k, room v' = some k → room v = some k) := by
  obtain ⟨v', ho, hu, hr⟩ := hg
  refine ⟨v', ⟨ho, h.2.1.upd hu fun k h1 h2 => h.2.2.1 k (.inl h2) h1, ?_, Same.into h.2.2.2 hu fun k hk => by rw [hk]; exact h.1.1⟩, hu, hr⟩
  rintro k (rfl | e) h2
  · exact h.2.2.1 _ (.inl rfl) h2
  · exact h.2.2.1 _ (.inr (hr k e)) h2
theorem Two.rdq {w0 W W' : World} {p q : Nat} {v u : Value} {bs cs cs' : List UInt8} {e f f' : Int} (h : Two w0 W p v bs e q u cs f) (hg : Rd w0.heap.size W q u W' cs' f') :
    ∃ u', Two w0 W' p v bs e q u' cs' f' ∧ Upd (fun k => k = q) W W' ∧ (∀ k, room u' = some k → room u = some k) := by
  obtain ⟨u', h1, h2, h3⟩ := h.swap.rd hg
  exact ⟨u', h1.swap, h2, h3⟩
/-- What touches neither. -/
theorem Two.upd {w0 W W' : World} {S : Nat → Prop} {p q : Nat} {v u : Value} {bs cs : List UInt8} {e f : Int} (h : Two w0 W p v bs e q u cs f) (hu : Upd S W W') (h1 : ∀ k, foot p v k → ¬ S k) (h2 : ∀ k, foot q u k → ¬ S k) (h3 : ∀ k, S k → w0.heap.size ≤ k) : Two w0 W' p v bs e q u cs f :=
  ⟨h.1.upd hu h1, h.2.1.upd hu h2, h.2.2.1, Same.into h.2.2.2 hu h3⟩
theorem Two.same {w0 W W' : World} {p q : Nat} {v u : Value} {bs cs : List UInt8} {e f : Int} (h : Two w0 W p v bs e q u cs f) (hu : Same W W') : Two w0 W' p v bs e q u cs f :=
  h.upd hu (fun _ _ h => h) (fun _ _ h => h) (fun _ h => h.elim)
/-- A field: its kind, its size, its number, its bytes. -/
structure OpD where
  kind : Int
  size : Int
  n : Int
  v : Value
  ps : List UInt8
/-- A row of fields that came in. -/
def OpsAt (w : World) (v : Value) (os : List OpD) : Prop :=
  ∃ A cap, v = .slice A os.length cap ∧ os.length ≤ cap ∧ cap ≤ 9223372036854775807 ∧
    ∀ i (h : i < os.length), ∃ b off, A = some ⟨b, off, none⟩ ∧ w.cell? ⟨b, off + i * 4, none⟩ = some (.int .i64 (os[i]'h).kind) ∧ w.cell? ⟨b, off + i * 4 + 1, none⟩ = some (.int .i64 (os[i]'h).size) ∧
      w.cell? ⟨b, off + i * 4 + 2, none⟩ = some (.int .i64 (os[i]'h).n) ∧ w.cell? ⟨b, off + i * 4 + 3, none⟩ = some (os[i]'h).v ∧ Bs w (os[i]'h).v (os[i]'h).ps ∧ (os[i]'h).ps.length ≤ 140737488351232 ∧
      (-9223372036854775808 ≤ (os[i]'h).kind ∧ (os[i]'h).kind ≤ 9223372036854775807) ∧ (-9223372036854775808 ≤ (os[i]'h).size ∧ (os[i]'h).size ≤ 9223372036854775807) ∧ (-9223372036854775808 ≤ (os[i]'h).n ∧ (os[i]'h).n ≤ 9223372036854775807)
theorem OpsAt.same {w w' : World} {v : Value} {os : List OpD} (h : OpsAt w v os) (hs : Same w w') : OpsAt w' v os := by
  obtain ⟨A, cap, rfl, h1, h2, h3⟩ := h
  refine ⟨A, cap, rfl, h1, h2, fun i hi => ?_⟩
  obtain ⟨b, off, e, c0, c1, c2, c3, hb, hr⟩ := h3 i hi
  exact ⟨b, off, e, hs.cell c0 id, hs.cell c1 id, hs.cell c2 id, hs.cell c3 id, hb.same hs, hr⟩
end Go.Proofs.Ytgfdadbgbdcehaa
