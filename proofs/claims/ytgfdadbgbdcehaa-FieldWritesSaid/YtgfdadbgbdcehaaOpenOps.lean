/- From the reading of a row of fields to what a walk is told of it. -/
import Derived.Test.YtgfdadbgbdcehaaTwo
import Derived.Test.YtgfdadbgbdcehaaLawKit
import Derived.Deep.Slices
import Derived.ChangeArms
namespace Go.Proofs.Ytgfdadbgbdcehaa
open Go.ChangeShapes Go.WideShapes Go.ChangeAt Go.RowKit
set_option linter.unusedVariables false
set_option linter.unusedSimpArgs false

section
variable {H : Type} {enc : TypeId × Value → H} {W : World}
theorem mem_weightsAll {P : Program} {e : TypeId} {n : Nat} : ∀ {ds : List (DataW H)} {d : DataW H}, d ∈ ds → n ∈ d.weights P e → n ∈ DataW.weightsAll P e ds
  | x :: r, d, hd, hn => by
    unfold DataW.weightsAll
    rcases List.mem_cons.1 hd with rfl | hd
    · exact List.mem_append.2 (.inl hn)
    · exact List.mem_append.2 (.inr (mem_weightsAll hd hn))
/-- A row of structs: v is a slice; each element's cells are there and read by the struct's type; no datum in it is longer than the row's own reach. -/
theorem open_structs {P : Program} {t e : TypeId} {fs : Array Field} {sz : Nat} (ht : P.underlying t = some (.slice e)) (he : P.underlying e = some (.struct fs)) (hc : P.cellsOf e = sz) (h0 : 0 < sz)
    {v : Value} {d : DataW H} {p : List MemPlace} (hok : ∃ a len cap, v = .slice a len cap) (h : DataW.Trod enc P W 0 (fun _ => true) true t v d p) (hz : ∀ n ∈ d.weights P t, n ≤ 140737488351232) :
    ∃ A len cap, v = .slice A len cap ∧ len ≤ cap ∧ cap ≤ 9223372036854775807 ∧
      ∀ i, i < len → ∃ (b off : Nat) (cs : List Value) (k : Nat) (xs : List (DataW H × List MemPlace)), A = some ⟨b, off, none⟩ ∧ cs.length = sz ∧ (∀ j, j < sz → W.cell? ⟨b, off + i * sz + j, none⟩ = cs[j]?) ∧
        (∀ (j : Nat) (f : Field), fs[j]? = some f → ∃ y : DataW H × List MemPlace, xs[j]? = some y ∧ DataW.trod enc P W 0 (fun _ => true) true k f.type ((cs.drop f.offset).take (P.cellsOf f.type)) = some y) ∧
        (∀ n ∈ DataW.weightsEach P (fs.toList.map (·.type)) (xs.map (·.1)), n ≤ 140737488351232) := by
  obtain ⟨a, len, cap, rfl⟩ := hok
  obtain ⟨fuel, hf⟩ := h
  rcases Go.Deep.open_slice ht hf with ⟨hcs, _⟩ | ⟨a', l, c, m, n, D, Pl, hcs, _, hlc, hm, hmm, hx, hel⟩
  · simp [Value.cells] at hcs
    obtain ⟨rfl, rfl, rfl⟩ := hcs
    exact ⟨none, 0, 0, rfl, Nat.le_refl _, by omega, fun i hi => by omega⟩
  · simp [Value.cells] at hcs
    obtain ⟨rfl, rfl, rfl⟩ := hcs
    have hmc : m = cap := by simpa using hmm
    refine ⟨_, _, _, rfl, hlc, by simpa [maxLen] using hm, fun i hi => ?_⟩
    obtain ⟨b, off, rfl⟩ : ∃ b off, a' = ⟨b, off, none⟩ := by
      obtain ⟨b, off, spot⟩ := a'
      obtain ⟨cs0, h1, _⟩ := hel 0 (by omega)
      rw [hc] at h1
      obtain ⟨_, hlen, hcell⟩ := World.cells?_some h1
      have hc0 := hcell 0 h0
      rw [List.getElem?_eq_getElem (by omega)] at hc0
      have hspot : spot = none := by simpa [Addr.add] using World.cell?_spot hc0
      exact ⟨b, off, by rw [hspot]⟩
    obtain ⟨cs', h1, h2⟩ := hel i (by omega)
    rw [hc] at h1
    obtain ⟨_, hlen, hcell⟩ := World.cells?_some h1
    obtain ⟨xs, k, hk, hxy, _, hxl, hff⟩ := DataW.trod_struct he h2
    refine ⟨b, off, cs', k, xs, rfl, hlen, fun j hj => ?_, fun j f hj => ?_, fun q hq => ?_⟩
    · have := hcell j hj
      rwa [Addr.add_lit, Addr.add_lit] at this
    · have hj' : j < xs.length := by have := (Array.getElem?_eq_some_iff.1 hj).1; omega
      exact ⟨_, List.getElem?_eq_getElem hj', by rw [hff j f hj, List.getElem?_eq_getElem hj']⟩
    · have hd : d = .slice ((List.range len).map D) ((List.range (m - len)).map fun j => D (len + j)) := by
        have := congrArg Prod.fst hx
        simpa using this
      have hDi : D i = .agg (xs.map (·.1)) := by
        have := congrArg Prod.fst hxy
        simpa using this
      subst hd
      refine hz q ?_
      unfold DataW.weights
      rw [ht]
      refine List.mem_cons.2 (.inr (List.mem_append.2 (.inl (mem_weightsAll (List.mem_map.2 ⟨i, List.mem_range.2 hi, rfl⟩) ?_))))
      rw [hDi]
      unfold DataW.weights
      rw [he]
      exact hq
end
theorem choose_list {α : Type} {Q : Nat → α → Prop} : ∀ (n : Nat), (∀ i, i < n → ∃ x, Q i x) → ∃ xs : List α, xs.length = n ∧ ∀ i (h : i < xs.length), Q i (xs[i]'h)
  | 0, _ => ⟨[], rfl, fun i h => by simp at h⟩
  | n + 1, h => by
    obtain ⟨xs, hl, hx⟩ := choose_list n fun i hi => h i (by omega)
    obtain ⟨x, hq⟩ := h n (by omega)
    refine ⟨xs ++ [x], by simp [hl], fun i hi => ?_⟩
    by_cases hin : i < xs.length
    · rw [List.getElem_append_left hin]
      exact hx i hin
    · have : i = n := by simp at hi; omega
      subst this
      rw [List.getElem_append_right (by omega)]
      simpa [hl] using hq
section
variable {H : Type} {enc : TypeId × Value → H} {W : World}
theorem one_cell {cs : List Value} {sz j : Nat} (h : cs.length = sz) (hj : j < sz) : ∃ u, cs[j]? = some u ∧ (cs.drop j).take 1 = [u] := by
  refine ⟨cs[j], List.getElem?_eq_getElem (by omega), ?_⟩
  rw [List.drop_eq_getElem_cons (by omega)]
  rfl
theorem openOps {base : Nat} {v : Value} {d : DataW H} {p : List MemPlace} (hv : Value.okWide Try.prog W .any base 48 v) (h : DataW.Trod enc Try.prog W 0 (fun _ => true) true 48 v d p) (hz : ∀ n ∈ d.weights Try.prog 48, n ≤ 140737488351232) : ∃ os, OpsAt W v os := by
  obtain ⟨A, len, cap, rfl, hl, hc, hel⟩ := open_structs (sz := 4) Try.underlying48 Try.underlying55 (by kernel_rfl) (by decide) (okWide_slice Try.underlying48 hv) h hz
  have hch : ∀ i, i < len → ∃ o : OpD, ∃ b off, A = some ⟨b, off, none⟩ ∧ W.cell? ⟨b, off + i * 4, none⟩ = some (.int .i64 o.kind) ∧ W.cell? ⟨b, off + i * 4 + 1, none⟩ = some (.int .i64 o.size) ∧
      W.cell? ⟨b, off + i * 4 + 2, none⟩ = some (.int .i64 o.n) ∧ W.cell? ⟨b, off + i * 4 + 3, none⟩ = some o.v ∧ Bs W o.v o.ps ∧ o.ps.length ≤ 140737488351232 ∧
      (-9223372036854775808 ≤ o.kind ∧ o.kind ≤ 9223372036854775807) ∧ (-9223372036854775808 ≤ o.size ∧ o.size ≤ 9223372036854775807) ∧ (-9223372036854775808 ≤ o.n ∧ o.n ≤ 9223372036854775807) := by
    intro i hi
    obtain ⟨b, off, cs, k, xs, rfl, hcl, hcell, hf, hw⟩ := hel i hi
    obtain ⟨y0, e0, f0⟩ := hf 0 _ rfl
    obtain ⟨y1, e1, f1⟩ := hf 1 _ rfl
    obtain ⟨y2, e2, f2⟩ := hf 2 _ rfl
    obtain ⟨y3, e3, f3⟩ := hf 3 _ rfl
    obtain ⟨u0, g0, t0⟩ := one_cell hcl (j := 0) (by decide)
    obtain ⟨u1, g1, t1⟩ := one_cell hcl (j := 1) (by decide)
    obtain ⟨u2, g2, t2⟩ := one_cell hcl (j := 2) (by decide)
    obtain ⟨u3, g3, t3⟩ := one_cell hcl (j := 3) (by decide)
    have z3 : Try.prog.cellsOf 3 = 1 := by kernel_rfl
    have z2 : Try.prog.cellsOf 2 = 1 := by kernel_rfl
    have zb : Try.prog.cellsOf 28 = 1 := by kernel_rfl
    replace f0 : DataW.trod enc Try.prog W 0 (fun _ => true) true k 3 [u0] = some y0 := by rw [← t0, ← z3]; exact f0
    replace f1 : DataW.trod enc Try.prog W 0 (fun _ => true) true k 3 [u1] = some y1 := by rw [← t1, ← z3]; exact f1
    replace f2 : DataW.trod enc Try.prog W 0 (fun _ => true) true k 2 [u2] = some y2 := by rw [← t2, ← z2]; exact f2
    replace f3 : DataW.trod enc Try.prog W 0 (fun _ => true) true k 28 [u3] = some y3 := by rw [← t3, ← zb]; exact f3
    obtain ⟨n0, a0, x0, w0⟩ := DataW.trod_int Try.underlying3 f0
    obtain ⟨n1, a1, x1, w1⟩ := DataW.trod_int Try.underlying3 f1
    obtain ⟨n2, a2, x2, w2⟩ := DataW.trod_int Try.underlying2 f2
    have hs3 : ∃ a l c, u3 = .slice a l c := by
      rcases Go.Deep.open_slice Try.underlying28 f3 with ⟨h3, _⟩ | ⟨a', l, c, m, n, D, Pl, h3, _⟩
      · exact ⟨none, 0, 0, by simpa using h3⟩
      · exact ⟨_, _, _, by simpa using h3⟩
    have hT3 : DataW.Trod enc Try.prog W 0 (fun _ => true) true 28 u3 y3.1 y3.2 := by
      obtain ⟨a, l, c, rfl⟩ := hs3
      exact ⟨k, by simpa [Value.cells] using f3⟩
    obtain ⟨ps, hb, hpl⟩ := open_bytes Try.underlying28 Try.underlying5 (by kernel_rfl) (by kernel_rfl) hs3 hT3 (fun n hn => by
      refine hw n ?_
      match xs, e0, e1, e2, e3 with
      | [b0, b1, b2, b3], e0, e1, e2, e3 =>
        simp at e0 e1 e2 e3
        subst e0 e1 e2 e3
        simp [DataW.weightsEach, hn]
      | b0 :: b1 :: b2 :: b3 :: b4 :: r, e0, e1, e2, e3 =>
        simp at e0 e1 e2 e3
        subst e0 e1 e2 e3
        simp [DataW.weightsEach, hn])
    simp at a0 a1 a2
    subst a0 a1 a2
    refine ⟨⟨n0, n1, n2, u3, ps⟩, b, off, rfl, ?_, ?_, ?_, ?_, hb, hpl, bounds_i64 w0, bounds_i64 w1, bounds_i64 w2⟩
    · have := hcell 0 (by decide)
      rw [g0] at this
      exact this
    · have := hcell 1 (by decide)
      rw [g1] at this
      exact this
    · have := hcell 2 (by decide)
      rw [g2] at this
      exact this
    · have := hcell 3 (by decide)
      rw [g3] at this
      exact this
  obtain ⟨os, hos, hq⟩ := choose_list len hch
  refine ⟨os, A, cap, by rw [hos], by omega, hc, fun i hi => hq i hi⟩
end
end Go.Proofs.Ytgfdadbgbdcehaa
