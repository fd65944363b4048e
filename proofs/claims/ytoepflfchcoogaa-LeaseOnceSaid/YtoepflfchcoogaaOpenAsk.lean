/- From the reading of a row of caisson/caissonlaw11.Ask to what a walk is told of it. -/
import Derived.Test.YtoepflfchcoogaaOpenK
import Derived.Test.YtoepflfchcoogaaMem
namespace Go.Proofs.Ytoepflfchcoogaa
open Go.ChangeShapes Go.WideShapes Go.ChangeAt Go.RowKit
set_option linter.unusedVariables false
set_option linter.unusedSimpArgs false
set_option maxRecDepth 20000

structure LAsk where
  kind : Int
  a : Int
  b : Int
/-- A row that came in. -/
def LAskAt (w : World) (v : Value) (os : List LAsk) : Prop :=
  ∃ A cap, v = .slice A os.length cap ∧ os.length ≤ cap ∧ cap ≤ 9223372036854775807 ∧ ∀ i (h : i < os.length), ∃ b off, A = some ⟨b, off, none⟩ ∧ w.cell? ⟨b, off + i * 3, none⟩ = some (.int .i64 (os[i]'h).kind) ∧ w.cell? ⟨b, off + i * 3 + 1, none⟩ = some (.int .i64 (os[i]'h).a) ∧ w.cell? ⟨b, off + i * 3 + 2, none⟩ = some (.int .i64 (os[i]'h).b) ∧ (-9223372036854775808 ≤ (os[i]'h).kind ∧ (os[i]'h).kind ≤ 9223372036854775807) ∧ (-9223372036854775808 ≤ (os[i]'h).a ∧ (os[i]'h).a ≤ 9223372036854775807) ∧ (-9223372036854775808 ≤ (os[i]'h).b ∧ (os[i]'h).b ≤ 9223372036854775807)
theorem LAskAt.same {w w' : World} {v : Value} {os : List LAsk} (h : LAskAt w v os) (hs : Same w w') : LAskAt w' v os := by
  obtain ⟨A, cap, rfl, h1, h2, h3⟩ := h
  refine ⟨A, cap, rfl, h1, h2, fun i hi => ?_⟩
  obtain ⟨b, off, e, c0, c1, c2, rkind, ra, rb⟩ := h3 i hi
  exact ⟨b, off, e, hs.cell c0 id, hs.cell c1 id, hs.cell c2 id, rkind, ra, rb⟩
section
variable {H : Type} {enc : TypeId × Value → H} {W : World}
theorem openLAsk {base : Nat} {v : Value} {d : DataW H} {p : List MemPlace} (hv : Value.okWide Try.prog W .any base 42 v) (h : DataW.Trod enc Try.prog W 0 (fun _ => true) true 42 v d p) (hz : ∀ n ∈ d.weights Try.prog 42, n ≤ 140737488351232) : ∃ os, LAskAt W v os := by
  obtain ⟨A, len, cap, rfl, hl, hc, hel⟩ := open_structs (sz := 3) Try.underlying42 Try.underlying49 (by kernel_rfl) (by decide) (okWide_slice Try.underlying42 hv) h hz
  have hch : ∀ i, i < len → ∃ o : LAsk, ∃ b off, A = some ⟨b, off, none⟩ ∧ W.cell? ⟨b, off + i * 3, none⟩ = some (.int .i64 o.kind) ∧ W.cell? ⟨b, off + i * 3 + 1, none⟩ = some (.int .i64 o.a) ∧ W.cell? ⟨b, off + i * 3 + 2, none⟩ = some (.int .i64 o.b) ∧ (-9223372036854775808 ≤ o.kind ∧ o.kind ≤ 9223372036854775807) ∧ (-9223372036854775808 ≤ o.a ∧ o.a ≤ 9223372036854775807) ∧ (-9223372036854775808 ≤ o.b ∧ o.b ≤ 9223372036854775807) := by
    intro i hi
    obtain ⟨b, off, cs, k, xs, rfl, hcl, hcell, hf, hw⟩ := hel i hi
    obtain ⟨y0, e0, f0⟩ := hf 0 _ rfl
    obtain ⟨y1, e1, f1⟩ := hf 1 _ rfl
    obtain ⟨y2, e2, f2⟩ := hf 2 _ rfl
    obtain ⟨u0, g0, t0⟩ := one_cell hcl (j := 0) (by decide)
    obtain ⟨u1, g1, t1⟩ := one_cell hcl (j := 1) (by decide)
    obtain ⟨u2, g2, t2⟩ := one_cell hcl (j := 2) (by decide)
    have z0 : Try.prog.cellsOf 3 = 1 := by kernel_rfl
    replace f0 : DataW.trod enc Try.prog W 0 (fun _ => true) true k 3 [u0] = some y0 := by rw [← t0, ← z0]; exact f0
    have z1 : Try.prog.cellsOf 2 = 1 := by kernel_rfl
    replace f1 : DataW.trod enc Try.prog W 0 (fun _ => true) true k 2 [u1] = some y1 := by rw [← t1, ← z1]; exact f1
    have z2 : Try.prog.cellsOf 2 = 1 := by kernel_rfl
    replace f2 : DataW.trod enc Try.prog W 0 (fun _ => true) true k 2 [u2] = some y2 := by rw [← t2, ← z2]; exact f2
    obtain ⟨n0, a0, x0, w0⟩ := DataW.trod_int Try.underlying3 f0
    simp at a0
    subst a0
    obtain ⟨n1, a1, x1, w1⟩ := DataW.trod_int Try.underlying2 f1
    simp at a1
    subst a1
    obtain ⟨n2, a2, x2, w2⟩ := DataW.trod_int Try.underlying2 f2
    simp at a2
    subst a2
    refine ⟨⟨n0, n1, n2⟩, b, off, rfl, ?_, ?_, ?_, bounds_i64 w0, bounds_i64 w1, bounds_i64 w2⟩
    · have := hcell 0 (by decide)
      rw [g0] at this
      exact this
    · have := hcell 1 (by decide)
      rw [g1] at this
      exact this
    · have := hcell 2 (by decide)
      rw [g2] at this
      exact this
  obtain ⟨os, hos, hq⟩ := choose_list len hch
  refine ⟨os, A, cap, by rw [hos], by omega, hc, fun i hi => hq i hi⟩
end
end Go.Proofs.Ytoepflfchcoogaa
