/- The reader of pieces as the laws hold it; the law's same. -/
import Derived.Test.YtccbkagmglddfaaChkM
import Derived.Test.YtccbkagmglddfaaChkD
namespace Go.Proofs.Ytccbkagmglddfaa
open Go.RowKit
set_option linter.unusedVariables false
set_option linter.unusedSimpArgs false
set_option maxRecDepth 100000
set_option maxHeartbeats 4000000
def Cs.fine (c : Cs) : Prop := c.l.length ≤ 256 ∧ (∀ o ∈ c.l, (o.getD []).length ≤ 4096) ∧ 0 ≤ c.added ∧ 0 ≤ c.s ∧ c.s ≤ 4294967295
theorem Cs.none_fine : Cs.none.fine := ⟨by decide, fun o ho => by simp [Cs.none] at ho, by decide, by decide, by decide⟩
theorem Cs.fine.add {c : Cs} (h : c.fine) (p : List UInt8) : (c.add p).fine := by
  unfold Cs.add
  split
  · rename_i he
    have h0 : readE p = 0 := by
      unfold Cs.addE at he
      split at he
      · rename_i h1; exact absurd he h1
      · rename_i h1; exact Classical.not_not.1 h1
    have hb := (readE_own h0).2.2
    unfold badP at hb
    have hn := n_range p
    have hs := s_range p
    have ht : (c.to p).fine := by
      unfold Cs.to
      split
      · refine ⟨by simp; omega, fun o ho => ?_, h.2.2.1, by simpa using hs.1, by simp; omega⟩
        obtain rfl := (List.mem_replicate.1 ho).2
        simp
      · exact h
    obtain ⟨t1, t2, t3, t4, t5⟩ := ht
    refine ⟨?_, fun o ho => ?_, ?_, t4, t5⟩
    · simp only
      unfold putAt
      split
      · rw [List.length_set]; exact t1
      · exact t1
    · simp only at ho
      unfold putAt at ho
      split at ho
      · rcases List.mem_or_eq_of_mem_set ho with ho | rfl
        · exact t2 o ho
        · simp; omega
      · exact t2 o ho
    · have := h.2.2.1
      simp only
      omega
  · exact h
theorem allB_le {l : List (Option (List UInt8))} (h : ∀ o ∈ l, (o.getD []).length ≤ 4096) : (allB l).length ≤ l.length * 4096 := by
  unfold allB
  induction l with
  | nil => simp
  | cons o l ih =>
    rw [List.flatMap_cons, List.length_append, List.length_cons]
    have h1 := h o (by simp)
    have h2 := ih (fun x hx => h x (by simp [hx]))
    omega
theorem add_count (c : Cs) (p : List UInt8) : (c.add p).added ≤ c.added + 1 := by
  unfold Cs.add
  split
  · exact Int.le_refl _
  · omega
/-- The reader at block p, made in world wN: since then nothing below has turned. -/
def Rdy (wN W : World) (p : Nat) (c : Cs) : Prop := (∃ vl ls, ChV wN.heap.size W p vl ls c 0 false) ∧ LowK wN.heap.size wN W ∧ c.fine
section
variable {wN W W' : World} {p : Nat} {c : Cs}
theorem Rdy.new (wN : World) : Calls Try.prog 11 #[] wN fun e w' => ∃ p, e = .returned (.pointer (some ⟨p, 0, none⟩)) ∧ Rdy wN w' p Cs.none := by
  refine (new_any wN.heap.size wN (Nat.le_refl _)).mono ?_
  rintro e w' ⟨p, rfl, hp, hv, hs⟩
  exact ⟨p, rfl, ⟨_, _, hv⟩, LowK.of hs, Cs.none_fine⟩
theorem Rdy.same (h : Rdy wN W p c) (hs : Same W W') : Rdy wN W' p c := by
  obtain ⟨⟨vl, ls, hv⟩, hl, hf⟩ := h
  exact ⟨⟨vl, ls, hv.same hs⟩, hl.trans (LowK.of hs), hf⟩
theorem Rdy.add (h : Rdy wN W p c) (hadd : c.added ≤ 1000000) (A : Option Addr) (cap : Nat) (pb : List UInt8) (hp : Bs W (.slice A pb.length cap) pb) (hl : pb.length ≤ 140737488351232) :
    Calls Try.prog 12 #[.pointer (some ⟨p, 0, none⟩), .slice A pb.length cap] W fun e w' => e = .returned (.int .i64 (c.addE pb)) ∧ Rdy wN w' p (c.add pb) := by
  obtain ⟨⟨vl, ls, hv⟩, hlo, hf⟩ := h
  refine (chadd_any hv hlo.size hf.1 ⟨hf.2.2.1, hadd⟩ A cap pb hp hl).mono ?_
  rintro e w' ⟨rfl, vl', ls', h1, h2, h3⟩
  refine ⟨rfl, ⟨vl', ls', h1⟩, hlo.trans (h2.mono (fun k _ hk => ?_)), hf.add pb⟩
  rcases hk with rfl | hk
  · exact hv.1
  · exact (hv.foot k (.inr (.inl hk))).1
/-- The same, its blocks all below T. -/
def RdyB (wN W : World) (T p : Nat) (c : Cs) : Prop := (∃ vl ls, ChV wN.heap.size W p vl ls c 0 false ∧ ∀ k, cfoot p vl ls k → k < T) ∧ LowK wN.heap.size wN W ∧ c.fine
theorem Rdy.low (h : Rdy wN W p c) : RdyB wN W W.heap.size p c := by
  obtain ⟨⟨vl, ls, hv⟩, hl, hf⟩ := h
  exact ⟨⟨vl, ls, hv, fun k hk => (hv.foot k hk).2⟩, hl, hf⟩
theorem RdyB.rdy {T : Nat} (h : RdyB wN W T p c) : Rdy wN W p c := by
  obtain ⟨⟨vl, ls, hv, -⟩, hl, hf⟩ := h
  exact ⟨⟨vl, ls, hv⟩, hl, hf⟩
theorem RdyB.same {T : Nat} (h : RdyB wN W T p c) (hs : Same W W') : RdyB wN W' T p c := by
  obtain ⟨⟨vl, ls, hv, ht⟩, hl, hf⟩ := h
  exact ⟨⟨vl, ls, hv.same hs, ht⟩, hl.trans (LowK.of hs), hf⟩
theorem RdyB.off {T : Nat} {S : Nat → Prop} (h : RdyB wN W T p c) (hu : Upd S W W') (hS : ∀ k, S k → T ≤ k) (hN : wN.heap.size ≤ T) : RdyB wN W' T p c := by
  obtain ⟨⟨vl, ls, hv, ht⟩, hl, hf⟩ := h
  exact ⟨⟨vl, ls, hv.upd hu (fun k hk e => by have := ht k hk; have := hS k e; omega), ht⟩, hl.trans (hu.mono (fun k _ hk => by have := hS k hk; omega)), hf⟩
theorem RdyB.add {T : Nat} (h : RdyB wN W T p c) (hadd : c.added ≤ 1000000) (A : Option Addr) (cap : Nat) (pb : List UInt8) (hp : Bs W (.slice A pb.length cap) pb) (hl : pb.length ≤ 140737488351232) :
    Calls Try.prog 12 #[.pointer (some ⟨p, 0, none⟩), .slice A pb.length cap] W fun e w' => e = .returned (.int .i64 (c.addE pb)) ∧ Rdy wN w' p (c.add pb) ∧ Upd (fun k => wN.heap.size ≤ k ∧ k < T) W w' := by
  obtain ⟨⟨vl, ls, hv, ht⟩, hlo, hf⟩ := h
  refine (chadd_any hv hlo.size hf.1 ⟨hf.2.2.1, hadd⟩ A cap pb hp hl).mono ?_
  rintro e w' ⟨rfl, vl', ls', h1, h2, h3⟩
  have h4 : Upd (fun k => wN.heap.size ≤ k ∧ k < T) W w' := h2.mono (fun k _ hk => by
    rcases hk with rfl | hk
    · exact ⟨hv.1, ht _ (.inl rfl)⟩
    · exact ⟨(hv.foot k (.inr (.inl hk))).1, ht _ (.inr (.inl hk))⟩)
  exact ⟨rfl, ⟨⟨vl', ls', h1⟩, hlo.trans (h4.mono (fun k _ hk => hk.1)), hf.add pb⟩, h4⟩
theorem Rdy.whole (h : Rdy wN W p c) : Calls Try.prog 14 #[.pointer (some ⟨p, 0, none⟩)] W fun e w' => ∃ A n cap, e = .returned (.tuple #[.slice A n cap, .bool c.whole.isSome]) ∧ Fresh W.heap.size w' (.slice A n cap) (c.whole.getD []) ∧ Same W w' ∧ Rdy wN w' p c := by
  have hR := h
  obtain ⟨⟨vl, ls, hv⟩, hlo, hf⟩ := h
  have hal := allB_le hf.2.1
  have := hf.1
  refine (chwhole_any hv hf.1 (by omega) ⟨hf.2.2.2.1, hf.2.2.2.2⟩).mono ?_
  rintro e w' ⟨A, n, cap, rfl, h1, h2⟩
  exact ⟨A, n, cap, rfl, h1, h2, hR.same h2⟩
theorem Rdy.id (h : Rdy wN W p c) : Calls Try.prog 13 #[.pointer (some ⟨p, 0, none⟩)] W fun e w' => e = .returned (.int .i64 c.id) ∧ W = w' := by
  obtain ⟨⟨vl, ls, hv⟩, hlo, hf⟩ := h
  exact id_any hv
theorem Rdy.count (h : Rdy wN W p c) : Calls Try.prog 30 #[.pointer (some ⟨p, 0, none⟩)] W fun e w' => e = .returned (.int .i64 (c.l.length : Nat)) ∧ W = w' := by
  obtain ⟨⟨vl, ls, hv⟩, hlo, hf⟩ := h
  exact cnt_any hv
theorem Rdy.added (h : Rdy wN W p c) : Calls Try.prog 24 #[.pointer (some ⟨p, 0, none⟩)] W fun e w' => e = .returned (.int .i64 c.added) ∧ W = w' := by
  obtain ⟨⟨vl, ls, hv⟩, hlo, hf⟩ := h
  exact added_any hv
theorem Rdy.miss (h : Rdy wN W p c) : Calls Try.prog 23 #[.pointer (some ⟨p, 0, none⟩)] W fun e w' => ∃ A cap, e = .returned (.slice A (missL c.l).length cap) ∧ Own W.heap.size w' (.slice A (missL c.l).length cap) 1 ((missL c.l).map numC) ∧ Same W w' ∧ Rdy wN w' p c := by
  have hR := h
  obtain ⟨⟨vl, ls, hv⟩, hlo, hf⟩ := h
  refine (missOf_any hv hf.1).mono ?_
  rintro e w' ⟨A, cap, rfl, h1, h2⟩
  exact ⟨A, cap, rfl, h1, h2, hR.same h2⟩
/-- Pieces that were there when the reader was made. -/
theorem Rdy.pcs {base : Nat} {v : Value} {ss : List (Value × List UInt8)} (h : Rdy wN W p c) (hp : PcsV base wN v ss) : PcsV base W v ss := hp.low (Nat.le_refl _) h.2.1
end
/-- Piece k of a row of pieces. -/
theorem PcsV.at_ {base : Nat} {w : World} {A : Option Addr} {n cap : Nat} {ss : List (Value × List UInt8)} (h : PcsV base w (.slice A n cap) ss) {k : Nat} {bs : List UInt8} (hk : (ss.map (·.2))[k]? = some bs) :
    ∃ b off B c, A = some ⟨b, off, none⟩ ∧ w.cell? ⟨b, off + k, none⟩ = some (.slice B bs.length c) ∧ Bs w (.slice B bs.length c) bs := by
  rw [List.getElem?_map] at hk
  obtain ⟨x, hx, rfl⟩ := Option.map_eq_some_iff.1 hk
  have hlt : k < (ss.map (·.1)).length := by rw [List.length_map]; exact (List.getElem?_eq_some_iff.1 hx).1
  obtain ⟨b, off, rfl, hc⟩ := h.1.rdr.at_ k hlt
  have hf := (h.2 x (List.mem_of_getElem? hx)).1
  have hb := hf.bs
  obtain ⟨B, c, e, h1⟩ := id hb
  rw [e] at hb
  refine ⟨b, off, B, c, rfl, ?_, hb⟩
  rw [hc, List.getElem_map]
  obtain ⟨_, e2⟩ := List.getElem?_eq_some_iff.1 hx
  rw [e2, e]
theorem PcsV.len {base : Nat} {w : World} {A : Option Addr} {n cap : Nat} {ss : List (Value × List UInt8)} (h : PcsV base w (.slice A n cap) ss) : n = ss.length ∧ n ≤ cap ∧ cap ≤ 9223372036854775807 := by
  obtain ⟨_, _, _, e, h1, h2, h3⟩ := h.1.open_
  injection e with e1 e2 e3
  subst e2 e3
  exact ⟨by simpa using h1.symm, h2, h3⟩
theorem Rdr.numAt {w : World} {A : Option Addr} {n cap : Nat} {xs : List Int} (h : Rdr w (.slice A n cap) 1 (xs.map numC)) (k : Nat) (hk : k < xs.length) : ∃ b off, A = some (⟨b, off, none⟩ : Addr) ∧ w.cell? ⟨b, off + k, none⟩ = some (.int .i64 (xs.getD k 0)) := RowNums.of h k hk
theorem same_eq (A B : Option Addr) (ca cb : Nat) (xs : List Int) (W : World) (ha : Rdr W (.slice A xs.length ca) 1 (xs.map numC)) (hb : Rdr W (.slice B xs.length cb) 1 (xs.map numC)) (hl : xs.length ≤ 1000) :
    Calls Try.prog 28 #[.slice A xs.length ca, .slice B xs.length cb] W fun e w' => e = .returned (.bool true) ∧ Same W w' := by
  have HA := Lib.hid (fun k hk W' (hs : Same W W') => (ha.same hs).numAt k hk)
  have HB := Lib.hid (fun k hk W' (hs : Same W W') => (hb.same hs).numAt k hk)
  obtain ⟨N, hN⟩ : ∃ N, N = xs.length := ⟨_, rfl⟩
  have hca : N ≤ ca := by obtain ⟨_, _, _, e, _, h2, _⟩ := ha; injection e with _ e2 e3; omega
  have hcb : N ≤ cb := by obtain ⟨_, _, _, e, _, h2, _⟩ := hb; injection e with _ e2 e3; omega
  rw [← hN] at hl ⊢
  have HN := Lib.hid hN
  clear ha hb hN
  go_enter Try.func28, Try.ntmps28
  go_wp2_with fail
  go_loopw [5] (fun v5 wr => ∃ k : Nat, k ≤ N ∧ v5 = .int .i64 k ∧ Same W wr) (fun v5 _ => N - (intOf v5).toNat)
  case atStart => exact ⟨0, by omega, rfl, Upd.refl _ _⟩
  case round =>
    obtain ⟨k, hk, rfl, hs⟩ := hrel
    by_cases hlt : k < N
    · obtain ⟨b1, o1, rfl, x1⟩ := HA.out k (by have := HN.out; omega) wr hs
      obtain ⟨b2, o2, rfl, x2⟩ := HB.out k (by have := HN.out; omega) wr hs
      have g1 : (k : Int) < (N : Int) := by omega
      generalize xs.getD k 0 = y at x1 x2
      have hyy : (y != y) = false := by simp
      have HS := Lib.hid hs
      clear hs
      go_upto_region 6 with (fail)
      go_quiet (fail)
      go_wp2_with fail
      go_roundw
      case rel => exact ⟨k + 1, by omega, by go_num, HS.out.drewN _⟩
      case measure => simp [intOf]; omega
    · obtain rfl : k = N := by omega
      have HS := Lib.hid hs
      clear hs
      go_wp2_with fail
      go_ret
      exact ⟨rfl, HS.out⟩
end Go.Proofs.Ytccbkagmglddfaa
