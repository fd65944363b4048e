/- A writer of the call's own: numbers and bytes one behind the other. -/
import Derived.Test.YtccbkagmglddfaaGb
import Derived.Test.YtccbkagmglddfaaChkA
namespace Go.Proofs.Ytccbkagmglddfaa
open Go.RowKit
set_option linter.unusedVariables false
set_option linter.unusedSimpArgs false
set_option maxRecDepth 20000
set_option maxHeartbeats 4000000
/-- A writer at block p holds bs; since w nothing of what was there has turned, nor anything below B. -/
def WP (w wr : World) (B p : Nat) (bs : List UInt8) : Prop := (∃ v, WObj B wr p v bs 0) ∧ Same w wr ∧ w.heap.size ≤ B ∧ B ≤ wr.heap.size
/-- What a step leaves of what lies below B. -/
def LowK (B : Nat) (wr w' : World) : Prop := Upd (fun k => B ≤ k) wr w'
theorem LowK.trans {B : Nat} {a b c : World} (h : LowK B a b) (k : LowK B b c) : LowK B a c := Upd.trans h k fun _ _ e => e
theorem LowK.of {B : Nat} {a b : World} (h : Same a b) : LowK B a b := h.mono fun _ _ e => e.elim
theorem wrE_fits {size : Nat} {n : Int} (h1 : 1 ≤ size) (h8 : size ≤ 8) (h : size = 8 ∨ (0 ≤ n ∧ n < 256 ^ size)) : wrE 0 size n = 0 := by
  unfold wrE
  rw [if_neg (by decide), if_neg (by omega), if_neg]
  rintro ⟨hs, hn⟩
  have e : (2 : Int) ^ (8 * (size : Int)).toNat = 256 ^ size := by
    rw [show (8 * (size : Int)).toNat = 8 * size by omega, Int.pow_mul]; rfl
  have hp : (0 : Int) ≤ 2 ^ (8 * (size : Int) - 1).toNat := Int.pow_nonneg (by decide)
  rcases h with h | h
  · omega
  · rw [e] at hn
    rcases hn with hn | hn <;> omega
section
variable {w wr : World} {B p : Nat} {bs : List UInt8}
theorem WP.new (w wr : World) (B : Nat) (hs : Same w wr) (hw : w.heap.size ≤ B) (hB : B ≤ wr.heap.size) :
    Calls Try.prog 32 #[] wr fun r w' => ∃ p, r = .returned (.pointer (some ⟨p, 0, none⟩)) ∧ WP w w' B p [] ∧ Same wr w' := by
  refine (newWriter_any wr).mono ?_
  rintro r w' ⟨rfl, ho, hs'⟩
  exact ⟨_, rfl, ⟨⟨_, Nat.le_trans hB ho.1, ho.2.1, Fresh.mono ho.2.2.1 hB, ho.2.2.2⟩, Same.trans hs hs', hw, Nat.le_trans hB hs'.size⟩, hs'⟩
theorem WP.grown {w' : World} {v : Value} {bs' : List UInt8} (h : WP w wr B p bs) (ho : WObj B wr p v bs 0) (hg : Grew B wr p v w' bs' 0) : WP w w' B p bs' ∧ LowK B wr w' := by
  obtain ⟨-, hs, hw, hB⟩ := h
  obtain ⟨v', ho', hu, hroom⟩ := hg
  exact ⟨⟨⟨v', ho'⟩, Same.into hs hu (fun k hk => Nat.le_trans hw (ho.foot k hk).1), hw, Nat.le_trans hB hu.size⟩, hu.mono (fun k _ hk => (ho.foot k hk).1)⟩
theorem WP.num (h : WP w wr B p bs) (size : Nat) (n : Int) (hl : bs.length ≤ 100000) (h1 : 1 ≤ size) (h8 : size ≤ 8) (hn : -9223372036854775808 ≤ n ∧ n ≤ 9223372036854775807) (hfit : size = 8 ∨ (0 ≤ n ∧ n < 256 ^ size)) :
    Calls Try.prog 33 #[.pointer (some ⟨p, 0, none⟩), .int .i64 (size : Int), .int .i64 n] wr fun r w' => r = .returned (.tuple #[]) ∧ WP w w' B p (bs ++ numB n size) ∧ LowK B wr w' := by
  obtain ⟨v, ho⟩ := h.1
  refine (wnum_any p v bs 0 (size : Int) n wr ho h.2.2.2 (by omega) hn.1 hn.2).mono ?_
  rintro r w' ⟨rfl, hg⟩
  have hf := wrE_fits h1 h8 hfit
  have hL : wrL bs 0 (size : Int) n = bs ++ numB n size := by unfold wrL; rw [hf, if_pos rfl, Int.toNat_natCast]
  rw [hf, hL] at hg
  exact ⟨rfl, h.grown ho hg⟩
theorem WP.rnum (h : WP w wr B p bs) (size : Nat) (n : Int) (hl : bs.length ≤ 100000) (h1 : 1 ≤ size) (h8 : size ≤ 8) (hn : -9223372036854775808 ≤ n ∧ n ≤ 9223372036854775807) (hfit : size = 8 ∨ (0 ≤ n ∧ n < 256 ^ size)) :
    Calls Try.prog 63 #[.pointer (some ⟨p, 0, none⟩), .int .i64 (size : Int), .int .i64 n] wr fun r w' => r = .returned (.tuple #[]) ∧ WP w w' B p (bs ++ numB n size) ∧ LowK B wr w' := by
  obtain ⟨v, ho⟩ := h.1
  refine (rwnum_any p v bs 0 (size : Int) n wr ho h.2.2.2 (by omega) hn.1 hn.2).mono ?_
  rintro r w' ⟨rfl, hg⟩
  have hf := wrE_fits h1 h8 hfit
  have hL : wrL bs 0 (size : Int) n = bs ++ numB n size := by unfold wrL; rw [hf, if_pos rfl, Int.toNat_natCast]
  rw [hf, hL] at hg
  exact ⟨rfl, h.grown ho hg⟩
theorem wn2 (h : WP w wr B p bs) (n : Int) (hl : bs.length ≤ 100000) (hn : 0 ≤ n ∧ n ≤ 65535) :
    Calls Try.prog 33 #[.pointer (some ⟨p, 0, none⟩), .int .i64 2, .int .i64 n] wr fun r w' => r = .returned (.tuple #[]) ∧ WP w w' B p (bs ++ numB n 2) ∧ LowK B wr w' :=
  h.num 2 n hl (by decide) (by decide) (by omega) (.inr ⟨hn.1, by rw [p256_2]; omega⟩)
theorem wn4 (h : WP w wr B p bs) (n : Int) (hl : bs.length ≤ 100000) (hn : 0 ≤ n ∧ n ≤ 4294967295) :
    Calls Try.prog 33 #[.pointer (some ⟨p, 0, none⟩), .int .i64 4, .int .i64 n] wr fun r w' => r = .returned (.tuple #[]) ∧ WP w w' B p (bs ++ numB n 4) ∧ LowK B wr w' :=
  h.num 4 n hl (by decide) (by decide) (by omega) (.inr ⟨hn.1, by rw [p256_4]; omega⟩)
theorem wn8 (h : WP w wr B p bs) (n : Int) (hl : bs.length ≤ 100000) (hn : -9223372036854775808 ≤ n ∧ n ≤ 9223372036854775807) :
    Calls Try.prog 33 #[.pointer (some ⟨p, 0, none⟩), .int .i64 8, .int .i64 n] wr fun r w' => r = .returned (.tuple #[]) ∧ WP w w' B p (bs ++ numB n 8) ∧ LowK B wr w' :=
  h.num 8 n hl (by decide) (by decide) hn (.inl rfl)
theorem rwn2 (h : WP w wr B p bs) (n : Int) (hl : bs.length ≤ 100000) (hn : 0 ≤ n ∧ n ≤ 65535) :
    Calls Try.prog 63 #[.pointer (some ⟨p, 0, none⟩), .int .i64 2, .int .i64 n] wr fun r w' => r = .returned (.tuple #[]) ∧ WP w w' B p (bs ++ numB n 2) ∧ LowK B wr w' :=
  h.rnum 2 n hl (by decide) (by decide) (by omega) (.inr ⟨hn.1, by rw [p256_2]; omega⟩)
theorem rwn4 (h : WP w wr B p bs) (n : Int) (hl : bs.length ≤ 100000) (hn : 0 ≤ n ∧ n ≤ 4294967295) :
    Calls Try.prog 63 #[.pointer (some ⟨p, 0, none⟩), .int .i64 4, .int .i64 n] wr fun r w' => r = .returned (.tuple #[]) ∧ WP w w' B p (bs ++ numB n 4) ∧ LowK B wr w' :=
  h.rnum 4 n hl (by decide) (by decide) (by omega) (.inr ⟨hn.1, by rw [p256_4]; omega⟩)
theorem rwn8 (h : WP w wr B p bs) (n : Int) (hl : bs.length ≤ 100000) (hn : -9223372036854775808 ≤ n ∧ n ≤ 9223372036854775807) :
    Calls Try.prog 63 #[.pointer (some ⟨p, 0, none⟩), .int .i64 8, .int .i64 n] wr fun r w' => r = .returned (.tuple #[]) ∧ WP w w' B p (bs ++ numB n 8) ∧ LowK B wr w' :=
  h.rnum 8 n hl (by decide) (by decide) hn (.inl rfl)
theorem wb_fits {m : Nat} (hm : m ≤ 65535) : addE 2 m = 0 := by
  have hr : rightB 2 = true := by decide
  have ho : addOk 2 m = true := by
    unfold addOk fitsB
    simp only [Bool.and_eq_true, decide_eq_true_eq]
    exact ⟨by omega, by rw [show (2 : Int).toNat = 2 from rfl, p256_2]; omega⟩
  unfold addE
  rw [hr, ho]
  rfl
theorem wbL2 {ps : List UInt8} (hm : ps.length ≤ 65535) : wbL bs 0 2 ps = bs ++ (numB ps.length 2 ++ ps) ∧ wbE 0 2 ps.length = 0 := by
  have h := wb_fits hm
  have hr : rightB 2 = true := by decide
  refine ⟨?_, by unfold wbE; rw [if_neg (by decide)]; exact h⟩
  unfold wbL
  rw [if_pos ⟨rfl, h⟩]
  unfold addL
  unfold addE at h
  rw [hr] at h ⊢
  simp only [if_true] at h ⊢
  split at h
  · rename_i h2
    rw [if_pos h2, List.append_assoc]
    rfl
  · exact absurd h (by decide)
theorem wb2 (h : WP w wr B p bs) (u : Value) (ps : List UInt8) (hu : Bs wr u ps) (hl : bs.length ≤ 100000) (hl2 : ps.length ≤ 65535) :
    Calls Try.prog 34 #[.pointer (some ⟨p, 0, none⟩), .int .i64 2, u] wr fun r w' => r = .returned (.tuple #[]) ∧ WP w w' B p (bs ++ (numB ps.length 2 ++ ps)) ∧ LowK B wr w' := by
  obtain ⟨v, ho⟩ := h.1
  refine (wbytes_any p v u bs ps 0 2 wr ho hu h.2.2.2 (by omega) (by omega)).mono ?_
  rintro r w' ⟨rfl, hg⟩
  rw [(wbL2 hl2).1, (wbL2 (bs := bs) hl2).2] at hg
  exact ⟨rfl, h.grown ho hg⟩
theorem rwb2 (h : WP w wr B p bs) (u : Value) (ps : List UInt8) (hu : Bs wr u ps) (hl : bs.length ≤ 100000) (hl2 : ps.length ≤ 65535) :
    Calls Try.prog 64 #[.pointer (some ⟨p, 0, none⟩), .int .i64 2, u] wr fun r w' => r = .returned (.tuple #[]) ∧ WP w w' B p (bs ++ (numB ps.length 2 ++ ps)) ∧ LowK B wr w' := by
  obtain ⟨v, ho⟩ := h.1
  refine (rwbytes_any p v u bs ps 0 2 wr ho hu h.2.2.2 (by omega) (by omega)).mono ?_
  rintro r w' ⟨rfl, hg⟩
  rw [(wbL2 hl2).1, (wbL2 (bs := bs) hl2).2] at hg
  exact ⟨rfl, h.grown ho hg⟩
theorem wend (h : WP w wr B p bs) (hl : bs.length ≤ 200000) :
    Calls Try.prog 35 #[.pointer (some ⟨p, 0, none⟩)] wr fun r w' => ∃ A n c, r = .returned (.tuple #[.slice A n c, .int .i64 0]) ∧ Fresh wr.heap.size w' (.slice A n c) bs ∧ Same wr w' ∧ WP w w' B p bs := by
  obtain ⟨v, ho⟩ := h.1
  refine (wend_any p v bs 0 wr ho h.2.2.2 (by omega)).mono ?_
  rintro r w' ⟨v', rfl, hf, hs⟩
  rw [if_pos rfl] at hf
  obtain ⟨A, n, c, rfl⟩ := Fresh.shape hf
  exact ⟨A, n, c, rfl, hf, hs, ⟨v, ho.upd hs (fun _ _ e => e)⟩, Same.trans h.2.1 hs, h.2.2.1, Nat.le_trans h.2.2.2 hs.size⟩
theorem rwend (h : WP w wr B p bs) (hl : bs.length ≤ 200000) :
    Calls Try.prog 65 #[.pointer (some ⟨p, 0, none⟩)] wr fun r w' => ∃ A n c, r = .returned (.tuple #[.slice A n c, .int .i64 0]) ∧ Fresh wr.heap.size w' (.slice A n c) bs ∧ Same wr w' ∧ WP w w' B p bs := by
  obtain ⟨v, ho⟩ := h.1
  refine (rwend_any p v bs 0 wr ho h.2.2.2 (by omega)).mono ?_
  rintro r w' ⟨v', rfl, hf, hs⟩
  rw [if_pos rfl] at hf
  obtain ⟨A, n, c, rfl⟩ := Fresh.shape hf
  exact ⟨A, n, c, rfl, hf, hs, ⟨v, ho.upd hs (fun _ _ e => e)⟩, Same.trans h.2.1 hs, h.2.2.1, Nat.le_trans h.2.2.2 hs.size⟩
end
/-- Rows of bytes of the call's own, each in memory of its own. -/
def PcsV (base : Nat) (w : World) (v : Value) (ss : List (Value × List UInt8)) : Prop :=
  Own base w v 1 (ss.map (·.1)) ∧ ∀ x ∈ ss, Fresh base w x.1 x.2 ∧ ∀ k, room x.1 = some k → ¬ room v = some k
def PcsAt (base : Nat) (w : World) (v : Value) (ls : List (List UInt8)) : Prop := ∃ ss : List (Value × List UInt8), ss.map (·.2) = ls ∧ PcsV base w v ss
theorem PcsV.same {base : Nat} {w w' : World} {v : Value} {ss : List (Value × List UInt8)} (h : PcsV base w v ss) (hs : Same w w') : PcsV base w' v ss :=
  ⟨h.1.same hs, fun x hx => ⟨(h.2 x hx).1.same hs, (h.2 x hx).2⟩⟩
theorem PcsV.low {base : Nat} {B : Nat} {w w' : World} {v : Value} {ss : List (Value × List UInt8)} (h : PcsV base w v ss) (hB : w.heap.size ≤ B) (hs : LowK B w w') : PcsV base w' v ss :=
  ⟨h.1.upd hs (fun k hk e => by have := (h.1.ge (by decide) k hk).2; omega), fun x hx => ⟨(h.2 x hx).1.upd hs (fun k hk e => by have := ((h.2 x hx).1.ge k hk).2; omega), (h.2 x hx).2⟩⟩
theorem PcsV.mono {base b2 : Nat} {w : World} {v : Value} {ss : List (Value × List UInt8)} (h : PcsV base w v ss) (hb : b2 ≤ base) : PcsV b2 w v ss :=
  ⟨h.1.mono hb, fun x hx => ⟨(h.2 x hx).1.mono hb, (h.2 x hx).2⟩⟩
theorem PcsV.nil (base : Nat) (w : World) : PcsV base w (.slice none 0 0) [] := ⟨Own.nil _ _ _, fun x hx => by simp at hx⟩
theorem PcsV.rows {base : Nat} {w : World} {v : Value} {ss : List (Value × List UInt8)} (h : PcsV base w v ss) : RowsAt w v ss := ⟨h.1.rdr, fun x hx => (h.2 x hx).1.bs⟩
/-- One more, in new memory. -/
theorem PcsV.snoc {base : Nat} {w0 w w' : World} {v v' u : Value} {ss : List (Value × List UInt8)} {bs : List UInt8} (h : PcsV base w v ss) (hw0 : w0.heap.size ≤ w.heap.size) (hold : ∀ k, room v = some k → k < w0.heap.size) (hb0 : base ≤ w0.heap.size)
    (hu : Fresh w0.heap.size w u bs) (hown : Own base w' v' 1 ((ss ++ [(u, bs)]).map (·.1))) (hup : Upd (fun k => room v = some k) w w') (hroom : ∀ k, room v' = some k → room v = some k ∨ w.heap.size ≤ k) : PcsV base w' v' (ss ++ [(u, bs)]) := by
  have hur : ∀ k, room u = some k → ¬ room v = some k := fun k hk e => by have := (hu.ge k hk).1; have := hold k e; omega
  refine ⟨hown, fun x hx => ?_⟩
  rcases List.mem_append.1 hx with hx | hx
  · refine ⟨(h.2 x hx).1.upd hup (h.2 x hx).2, fun k hk e => ?_⟩
    rcases hroom k e with e | e
    · exact (h.2 x hx).2 k hk e
    · have := ((h.2 x hx).1.ge k hk).2; omega
  · obtain rfl := List.mem_singleton.1 hx
    refine ⟨(Fresh.mono hu hb0).upd hup hur, fun k hk e => ?_⟩
    rcases hroom k e with e | e
    · exact hur k hk e
    · have := (hu.ge k hk).2; omega
end Go.Proofs.Ytccbkagmglddfaa
