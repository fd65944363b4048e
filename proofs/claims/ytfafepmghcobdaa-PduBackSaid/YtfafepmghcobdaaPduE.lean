/- Letters (chapter 17): what PduBack holds while letters are fed and read. -/
import Derived.Test.YtfafepmghcobdaaPduS
namespace Go.Proofs.Ytfafepmghcobdaa
open Go.RowKit
set_option linter.unusedVariables false
set_option linter.unusedSimpArgs false
set_option maxRecDepth 20000
theorem encL_drop (o : Ag) (ls : List Pd) (n : Nat) : (encL o (ls.drop n)).length ≤ (encL o ls).length := by
  have h : encL o ls = encL o (ls.take n) ++ encL o (ls.drop n) := by unfold encL; rw [← List.flatMap_append, List.take_append_drop]
  rw [h, List.length_append]; omega
/-- n letters are told; b waits in the reader, rest is to be fed. -/
structure BR (w wr : World) (o : Ag) (bp : Nat) (va vw : Value) (qs : List (Pd × Value)) (n : Nat) (b rest : List UInt8) : Prop where
  bs : BS w wr o bp va vw qs rest ⟨o, b, false⟩
  cat : b ++ rest = encL o ((qs.map (·.1)).drop n)
  nle : n ≤ qs.length
  small : (encL o (qs.map (·.1))).length ≤ 131072
  few : qs.length ≤ 8
def BDone (qs : List (Pd × Value)) (n : Nat) (b rest : List UInt8) : Prop := rest = [] → n = qs.length ∧ b = []
section
variable {w wr wk : World} {o : Ag} {bp : Nat} {va vw : Value} {qs : List (Pd × Value)} {n : Nat} {b rest : List UInt8}
theorem BR.len (h : BR w wr o bp va vw qs n b rest) : b.length + rest.length ≤ 131072 := by
  have h1 := encL_drop o (qs.map (·.1)) n
  rw [← h.cat, List.length_append] at h1
  have := h.small
  omega
theorem BR.oks (h : BR w wr o bp va vw qs n b rest) : allOk o ((qs.map (·.1)).drop n) := fun p hp => by
  have h1 := List.mem_of_mem_drop hp
  obtain ⟨x, hx, rfl⟩ := List.mem_map.1 h1
  exact ⟨(h.bs.oks x hx).1, (h.bs.oks x hx).2.1⟩
theorem BR.same' (h : BR w wr o bp va vw qs n b rest) (hs : Same wr wk) : BR w wk o bp va vw qs n b rest := ⟨h.bs.same' hs, h.cat, h.nle, h.small, h.few⟩
theorem BR.start (h : BS w wr o bp va vw qs (encL o (qs.map (·.1))) ⟨o, [], false⟩) (h1 : (encL o (qs.map (·.1))).length ≤ 131072) (h2 : qs.length ≤ 8) :
    BR w wr o bp va vw qs 0 [] (encL o (qs.map (·.1))) ∧ BDone qs 0 [] (encL o (qs.map (·.1))) := by
  refine ⟨⟨h, rfl, Nat.zero_le _, h1, h2⟩, fun he => ⟨?_, rfl⟩⟩
  match qs, h, he with
  | [], h, he => rfl
  | x :: qs, h, he =>
    exfalso
    have h3 := rawL_pos o (h.oks x (by simp)).1
    have h4 : encL o ((x :: qs).map (·.1)) = rawL x.1 o ++ encL o (qs.map (·.1)) := by unfold encL; rw [List.map_cons, List.flatMap_cons]
    rw [h4] at he
    have h5 := (List.append_eq_nil_iff.1 he).1
    rw [h5] at h3
    simp at h3
/-- A piece is fed. -/
theorem BR.feed {A : Option Addr} {na ca : Nat} (h : BR w wr o bp (.slice A na ca) vw qs n b rest) (k : Nat) (hk : k ≤ na) :
    Calls Try.prog 15 #[.pointer (some ⟨bp, 0, none⟩), .slice A k ca] wr fun e w' => e = .returned (.int .i64 0) ∧ BS w w' o bp (.slice A na ca) vw qs rest ⟨o, b ++ rest.take k, false⟩ := by
  refine h.bs.feed rfl (h.bs.all.bs.take k hk) ?_
  have := h.len
  have h2 : (rest.take k).length ≤ rest.length := by rw [List.length_take]; omega
  show b.length + _ ≤ _
  omega
/-- The row is cut where the piece ends. -/
theorem BR.cut {va' : Value} (h : BR w wr o bp va vw qs n b rest) (k : Nat) (hk : BS w wk o bp va vw qs rest ⟨o, b ++ rest.take k, false⟩) (hf : Fresh (w.heap.size + 1) wk va' (rest.drop k)) (hr : ∀ k, room va' = some k → room va = some k) :
    BR w wk o bp va' vw qs n (b ++ rest.take k) (rest.drop k) :=
  ⟨hk.cut hf hr, by rw [List.append_assoc, List.take_append_drop]; exact h.cat, h.nle, h.small, h.few⟩
/-- A letter is told, or none is whole. -/
theorem BR.next (h : BR w wr o bp va vw qs n b rest) :
    Calls Try.prog 16 #[.pointer (some ⟨bp, 0, none⟩)] wr fun e w' =>
      (∃ A m cap, e = .returned (.tuple #[pdA noP (.slice A m cap), .int .i64 0, .bool false]) ∧ BR w w' o bp va vw qs n b rest ∧ BDone qs n b rest) ∨
      (∃ p A' m' cap' A m cap b', qs[n]? = some (p, .slice A' m' cap') ∧ e = .returned (.tuple #[pdA p (.slice A m cap), .int .i64 0, .bool true]) ∧ Bs w' (.slice A m cap) p.data ∧ BR w w' o bp va vw qs (n + 1) b' rest) := by
  refine (h.bs.next (by have := h.len; show b.length ≤ _; omega)).mono ?_
  rintro e w' ⟨A, m, cap, rfl, hb, hs⟩
  rcases next_enc h.oks h.cat with ⟨hn, hd⟩ | ⟨p, ls', b', hl, hc, hn⟩
  · rw [hn] at hs ⊢
    refine .inl ⟨A, m, cap, rfl, ⟨hs, h.cat, h.nle, h.small, h.few⟩, fun hr => ?_⟩
    obtain ⟨h1, h2⟩ := hd hr
    have h3 := congrArg List.length h1
    rw [List.length_drop, List.length_map] at h3
    have := h.nle
    exact ⟨by simp at h3; omega, h2⟩
  · rw [hn] at hb hs ⊢
    have hg : (qs.map (·.1))[n]? = some p := by
      have h4 := congrArg (fun l => l[0]?) hl
      simpa [List.getElem?_drop] using h4
    rw [List.getElem?_map] at hg
    obtain ⟨x, hx, rfl⟩ := Option.map_eq_some_iff.1 hg
    have hlt : n < qs.length := (List.getElem?_eq_some_iff.1 hx).1
    obtain ⟨hok, he, ⟨A', m', cap', hv⟩, hbx⟩ := h.bs.oks x (List.mem_of_getElem? hx)
    obtain ⟨p, v⟩ := x
    dsimp only at hv hb hs hn hl
    subst hv
    have hl' : (qs.map (·.1)).drop (n + 1) = ls' := by
      have h5 := congrArg List.tail hl
      simpa using h5
    exact .inr ⟨p, A', m', cap', A, m, cap, b', hx, rfl, hb, ⟨hs, by rw [hl']; exact hc, hlt, h.small, h.few⟩⟩
/-- Where the cells of letter n lie. -/
theorem BR.at_ {Aw : Option Addr} {nw cw : Nat} {m : Nat} {p : Pd} {v : Value} (h : BR w wr o bp va (.slice Aw nw cw) qs n b rest) (hx : qs[m]? = some (p, v)) :
    ∃ bw ow, Aw = some ⟨bw, ow, none⟩ ∧ ∀ j u, (pdC p v)[j]? = some u → wr.cell? ⟨bw, ow + m * 15 + j, none⟩ = some u := by
  have hlt : m < qs.length := (List.getElem?_eq_some_iff.1 hx).1
  obtain ⟨bw, ow, rfl, hc⟩ := h.bs.want.at_ (by rw [flat_pdC]; omega)
  refine ⟨bw, ow, rfl, fun j u hj => ?_⟩
  rw [Nat.add_assoc]
  exact hc _ _ (flat_pdC_at qs m (p, v) hx j u hj)
end
/-- The cells that are read while a letter is looked at. -/
def NS3 (W : World) (B5 : Nat) (p : Pd) (v5 : Value) (bw ow : Nat) (v6 : Value) (bo : Nat) (o : Ag) : Prop :=
  BoxAt W B5 p v5 ∧ (∀ j u, (pdC p v6)[j]? = some u → W.cell? ⟨bw, ow + j, none⟩ = some u) ∧ (∀ j u, (agC o)[j]? = some u → W.cell? ⟨bo, j, none⟩ = some u)
theorem NS3.same {W W' : World} {B5 : Nat} {p : Pd} {v5 : Value} {bw ow : Nat} {v6 : Value} {bo : Nat} {o : Ag} (h : NS3 W B5 p v5 bw ow v6 bo o) (hs : Same W W') : NS3 W' B5 p v5 bw ow v6 bo o :=
  ⟨h.1.same hs, fun j u hj => hs.cell (h.2.1 j u hj) id, fun j u hj => hs.cell (h.2.2 j u hj) id⟩
theorem pdC_one (p : Pd) (A : Option Addr) (n c : Nat) : ∀ y ∈ pdC p (.slice A n c), y.oneCell' = true := by
  intro y hy
  simp only [pdC, List.mem_cons, List.not_mem_nil, or_false] at hy
  rcases hy with rfl | rfl | rfl | rfl | rfl | rfl | rfl | rfl | rfl | rfl | rfl | rfl | rfl | rfl | rfl <;> rfl
end Go.Proofs.Ytfafepmghcobdaa
