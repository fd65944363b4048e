/- From the reading of a caisson/caissonlaw08.Op that comes by value to what a walk is told of it. -/
import Derived.Test.YtppphelihimidaaOpenV
import Derived.Test.YtppphelihimidaaMem
namespace Go.Proofs.Ytppphelihimidaa
open Go.ChangeShapes Go.WideShapes Go.ChangeAt Go.RowKit
set_option linter.unusedVariables false
set_option linter.unusedSimpArgs false
set_option maxRecDepth 20000
structure WOp where
  kind : Int
  from_ : Int
  n : Int
  b : Value
  bB : List UInt8
def WOpIn (w : World) (v : Value) (o : WOp) : Prop := v = .agg #[.int .i64 o.kind, .int .i64 o.from_, .int .i64 o.n, o.b] ∧ (-9223372036854775808 ≤ o.kind ∧ o.kind ≤ 9223372036854775807) ∧ (-9223372036854775808 ≤ o.from_ ∧ o.from_ ≤ 9223372036854775807) ∧ (-9223372036854775808 ≤ o.n ∧ o.n ≤ 9223372036854775807) ∧ Bs w o.b o.bB ∧ o.bB.length ≤ 140737488351232
section
variable {H : Type} {enc : TypeId × Value → H} {W : World}
theorem openWOp {base : Nat} {v : Value} {d : DataW H} {p : List MemPlace} (hv : Value.okWide Try.prog W .any base 37 v) (h : DataW.Trod enc Try.prog W 0 (fun _ => true) true 37 v d p) (hz : ∀ n ∈ d.weights Try.prog 37, n ≤ 140737488351232) : ∃ o, WOpIn W v o := by
  obtain ⟨cs, k, xs, rfl, hcl, hf, hw⟩ := open_structv (sz := 4) Try.underlying37 (by kernel_rfl) hv h hz
  obtain ⟨y0, e0, f0⟩ := hf 0 _ rfl
  obtain ⟨y1, e1, f1⟩ := hf 1 _ rfl
  obtain ⟨y2, e2, f2⟩ := hf 2 _ rfl
  obtain ⟨y3, e3, f3⟩ := hf 3 _ rfl
  obtain ⟨u0, g0, t0⟩ := one_cell hcl (j := 0) (by decide)
  obtain ⟨u1, g1, t1⟩ := one_cell hcl (j := 1) (by decide)
  obtain ⟨u2, g2, t2⟩ := one_cell hcl (j := 2) (by decide)
  obtain ⟨u3, g3, t3⟩ := one_cell hcl (j := 3) (by decide)
  obtain rfl : cs = [u0, u1, u2, u3] := by
    refine List.ext_getElem (by simpa using hcl) fun i h1 h2 => ?_
    rw [hcl] at h1
    rcases (show i = 0 ∨ i = 1 ∨ i = 2 ∨ i = 3 by omega) with rfl | rfl | rfl | rfl
    · have := (List.getElem?_eq_some_iff.1 g0).2; simpa using this
    · have := (List.getElem?_eq_some_iff.1 g1).2; simpa using this
    · have := (List.getElem?_eq_some_iff.1 g2).2; simpa using this
    · have := (List.getElem?_eq_some_iff.1 g3).2; simpa using this
  have z0 : Try.prog.cellsOf 3 = 1 := by kernel_rfl
  replace f0 : DataW.trod enc Try.prog W 0 (fun _ => true) true k 3 [u0] = some y0 := by rw [← t0, ← z0]; exact f0
  have z1 : Try.prog.cellsOf 3 = 1 := by kernel_rfl
  replace f1 : DataW.trod enc Try.prog W 0 (fun _ => true) true k 3 [u1] = some y1 := by rw [← t1, ← z1]; exact f1
  have z2 : Try.prog.cellsOf 3 = 1 := by kernel_rfl
  replace f2 : DataW.trod enc Try.prog W 0 (fun _ => true) true k 3 [u2] = some y2 := by rw [← t2, ← z2]; exact f2
  have z3 : Try.prog.cellsOf 35 = 1 := by kernel_rfl
  replace f3 : DataW.trod enc Try.prog W 0 (fun _ => true) true k 35 [u3] = some y3 := by rw [← t3, ← z3]; exact f3
  obtain ⟨n0, a0, x0, w0⟩ := DataW.trod_int Try.underlying3 f0
  simp at a0
  subst a0
  obtain ⟨n1, a1, x1, w1⟩ := DataW.trod_int Try.underlying3 f1
  simp at a1
  subst a1
  obtain ⟨n2, a2, x2, w2⟩ := DataW.trod_int Try.underlying3 f2
  simp at a2
  subst a2
  have hs3 : ∃ a l c, u3 = .slice a l c := by
    rcases Go.Deep.open_slice Try.underlying35 f3 with ⟨h3, _⟩ | ⟨a', l, c, m, n, D, Pl, h3, _⟩
    · exact ⟨none, 0, 0, by simpa using h3⟩
    · exact ⟨_, _, _, by simpa using h3⟩
  have hT3 : DataW.Trod enc Try.prog W 0 (fun _ => true) true 35 u3 y3.1 y3.2 := by
    obtain ⟨a, l, c, rfl⟩ := hs3
    exact ⟨k, by simpa [Value.cells] using f3⟩
  obtain ⟨ps3, hb3, hpl3⟩ := open_bytes Try.underlying35 Try.underlying5 (by kernel_rfl) (by kernel_rfl) hs3 hT3 (fun n hn => by
    refine hw n ?_
    match xs, e0, e1, e2, e3 with
    | [b0, b1, b2, b3], e0, e1, e2, e3 =>
      simp at e0 e1 e2 e3
      subst e0 e1 e2 e3
      simp [DataW.weightsEach, hn]
    | b0 :: b1 :: b2 :: b3 :: bx :: r, e0, e1, e2, e3 =>
      simp at e0 e1 e2 e3
      subst e0 e1 e2 e3
      simp [DataW.weightsEach, hn])
  exact ⟨⟨n0, n1, n2, u3, ps3⟩, by simp, bounds_i64 w0, bounds_i64 w1, bounds_i64 w2, hb3, hpl3⟩
end
end Go.Proofs.Ytppphelihimidaa
