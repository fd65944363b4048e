/- From the reading of a row of caisson/caissonlaw08.Op to what a walk is told of it. -/
import Derived.Test.YtppphelihimidaaOpenK
import Derived.Test.YtppphelihimidaaMem
namespace Go.Proofs.Ytppphelihimidaa
open Go.ChangeShapes Go.WideShapes Go.ChangeAt Go.RowKit
set_option linter.unusedVariables false
set_option linter.unusedSimpArgs false
set_option maxRecDepth 20000

structure WOps where
  kind : Int
  from_ : Int
  n : Int
  b : Value
  bB : List UInt8
/-- A row that came in. -/
def WOpsAt (w : World) (v : Value) (os : List WOps) : Prop :=
  ∃ A cap, v = .slice A os.length cap ∧ os.length ≤ cap ∧ cap ≤ 9223372036854775807 ∧ ∀ i (h : i < os.length), ∃ b off, A = some ⟨b, off, none⟩ ∧ w.cell? ⟨b, off + i * 4, none⟩ = some (.int .i64 (os[i]'h).kind) ∧ w.cell? ⟨b, off + i * 4 + 1, none⟩ = some (.int .i64 (os[i]'h).from_) ∧ w.cell? ⟨b, off + i * 4 + 2, none⟩ = some (.int .i64 (os[i]'h).n) ∧ w.cell? ⟨b, off + i * 4 + 3, none⟩ = some (os[i]'h).b ∧ (-9223372036854775808 ≤ (os[i]'h).kind ∧ (os[i]'h).kind ≤ 9223372036854775807) ∧ (-9223372036854775808 ≤ (os[i]'h).from_ ∧ (os[i]'h).from_ ≤ 9223372036854775807) ∧ (-9223372036854775808 ≤ (os[i]'h).n ∧ (os[i]'h).n ≤ 9223372036854775807) ∧ Bs w (os[i]'h).b (os[i]'h).bB ∧ (os[i]'h).bB.length ≤ 140737488351232
theorem WOpsAt.same {w w' : World} {v : Value} {os : List WOps} (h : WOpsAt w v os) (hs : Same w w') : WOpsAt w' v os := by
  obtain ⟨A, cap, rfl, h1, h2, h3⟩ := h
  refine ⟨A, cap, rfl, h1, h2, fun i hi => ?_⟩
  obtain ⟨b, off, e, c0, c1, c2, c3, rkind, rfrom_, rn, mb, lb⟩ := h3 i hi
  exact ⟨b, off, e, hs.cell c0 id, hs.cell c1 id, hs.cell c2 id, hs.cell c3 id, rkind, rfrom_, rn, mb.same hs, lb⟩
section
variable {H : Type} {enc : TypeId × Value → H} {W : World}
theorem openWOps {base : Nat} {v : Value} {d : DataW H} {p : List MemPlace} (hv : Value.okWide Try.prog W .any base 34 v) (h : DataW.Trod enc Try.prog W 0 (fun _ => true) true 34 v d p) (hz : ∀ n ∈ d.weights Try.prog 34, n ≤ 140737488351232) : ∃ os, WOpsAt W v os := by
  obtain ⟨A, len, cap, rfl, hl, hc, hel⟩ := open_structs (sz := 4) Try.underlying34 Try.underlying37 (by kernel_rfl) (by decide) (okWide_slice Try.underlying34 hv) h hz
  have hch : ∀ i, i < len → ∃ o : WOps, ∃ b off, A = some ⟨b, off, none⟩ ∧ W.cell? ⟨b, off + i * 4, none⟩ = some (.int .i64 o.kind) ∧ W.cell? ⟨b, off + i * 4 + 1, none⟩ = some (.int .i64 o.from_) ∧ W.cell? ⟨b, off + i * 4 + 2, none⟩ = some (.int .i64 o.n) ∧ W.cell? ⟨b, off + i * 4 + 3, none⟩ = some o.b ∧ (-9223372036854775808 ≤ o.kind ∧ o.kind ≤ 9223372036854775807) ∧ (-9223372036854775808 ≤ o.from_ ∧ o.from_ ≤ 9223372036854775807) ∧ (-9223372036854775808 ≤ o.n ∧ o.n ≤ 9223372036854775807) ∧ Bs W o.b o.bB ∧ o.bB.length ≤ 140737488351232 := by
    intro i hi
    obtain ⟨b, off, cs, k, xs, rfl, hcl, hcell, hf, hw⟩ := hel i hi
    obtain ⟨y0, e0, f0⟩ := hf 0 _ rfl
    obtain ⟨y1, e1, f1⟩ := hf 1 _ rfl
    obtain ⟨y2, e2, f2⟩ := hf 2 _ rfl
    obtain ⟨y3, e3, f3⟩ := hf 3 _ rfl
    obtain ⟨u0, g0, t0⟩ := one_cell hcl (j := 0) (by decide)
    obtain ⟨u1, g1, t1⟩ := one_cell hcl (j := 1) (by decide)
    obtain ⟨u2, g2, t2⟩ := one_cell hcl (j := 2) (by decide)
    obtain ⟨u3, g3, t3⟩ := one_cell hcl (j := 3) (by decide)
    have z0 : Try.prog.cellsOf 3 = 1 := by kernel_rfl
    replace f0 : DataW.trod enc Try.prog W 0 (fun _ => true) true k 3 [u0] = some y0 := by rw [← t0, ← z0]; exact f0
    have z1 : Try.prog.cellsOf 3 = 1 := by kernel_rfl
    replace f1 : DataW.trod enc Try.prog W 0 (fun _ => true) true k 3 [u1] = some y1 := by rw [← t1, ← z1]; exact f1
    have z2 : Try.prog.cellsOf 3 = 1 := by kernel_rfl
    replace f2 : DataW.trod enc Try.prog W 0 (fun _ => true) true k 3 [u2] = some y2 := by rw [← t2, ← z2]; exact f2
    have z3 : Try.prog.cellsOf 35 = 1 := by kernel_rfl
    replace f3 : DataW.trod enc Try.prog W 0 (fun _ => true) true k 35 [u3] = some y3 := by rw [← t3, ← z3]; exact f3
    obtain ⟨n0, a0, x0, w0⟩ := DataW.trod_int Try.underlying3 f0
    simp at a0
    subst a0
    obtain ⟨n1, a1, x1, w1⟩ := DataW.trod_int Try.underlying3 f1
    simp at a1
    subst a1
    obtain ⟨n2, a2, x2, w2⟩ := DataW.trod_int Try.underlying3 f2
    simp at a2
    subst a2
    have hs3 : ∃ a l c, u3 = .slice a l c := by
      rcases Go.Deep.open_slice Try.underlying35 f3 with ⟨h3, _⟩ | ⟨a', l, c, m, n, D, Pl, h3, _⟩
      · exact ⟨none, 0, 0, by simpa using h3⟩
      · exact ⟨_, _, _, by simpa using h3⟩
    have hT3 : DataW.Trod enc Try.prog W 0 (fun _ => true) true 35 u3 y3.1 y3.2 := by
      obtain ⟨a, l, c, rfl⟩ := hs3
      exact ⟨k, by simpa [Value.cells] using f3⟩
    obtain ⟨ps3, hb3, hpl3⟩ := open_bytes Try.underlying35 Try.underlying5 (by kernel_rfl) (by kernel_rfl) hs3 hT3 (fun n hn => by
      refine hw n ?_
      match xs, e0, e1, e2, e3 with
      | [b0, b1, b2, b3], e0, e1, e2, e3 =>
        simp at e0 e1 e2 e3
        subst e0 e1 e2 e3
        simp [DataW.weightsEach, hn]
      | b0 :: b1 :: b2 :: b3 :: bx :: r, e0, e1, e2, e3 =>
        simp at e0 e1 e2 e3
        subst e0 e1 e2 e3
        simp [DataW.weightsEach, hn])
    refine ⟨⟨n0, n1, n2, u3, ps3⟩, b, off, rfl, ?_, ?_, ?_, ?_, bounds_i64 w0, bounds_i64 w1, bounds_i64 w2, hb3, hpl3⟩
    · have := hcell 0 (by decide)
      rw [g0] at this
      exact this
    · have := hcell 1 (by decide)
      rw [g1] at this
      exact this
    · have := hcell 2 (by decide)
      rw [g2] at this
      exact this
    · have := hcell 3 (by decide)
      rw [g3] at this
      exact this
  obtain ⟨os, hos, hq⟩ := choose_list len hch
  refine ⟨os, A, cap, by rw [hos], by omega, hc, fun i hi => hq i hi⟩
end
end Go.Proofs.Ytppphelihimidaa
