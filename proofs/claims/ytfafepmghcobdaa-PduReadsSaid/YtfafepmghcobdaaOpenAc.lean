/- From the reading of a row of a Reader's calls to what a walk is told of it. -/
import Derived.Test.YtfafepmghcobdaaOpenPd
import Derived.Test.YtfafepmghcobdaaGa
namespace Go.Proofs.Ytfafepmghcobdaa
open Go.ChangeShapes Go.WideShapes Go.ChangeAt Go.RowKit
set_option linter.unusedVariables false
set_option linter.unusedSimpArgs false
set_option maxRecDepth 100000
structure Ac where
  kind : Int
  b : Value
  bB : List UInt8
  o : Ag
def AcLies (w : World) (b off : Nat) (a : Ac) : Prop := w.cell? ⟨b, off, none⟩ = some (.int .i64 a.kind) ∧ w.cell? ⟨b, off + 1, none⟩ = some a.b ∧ w.cell? ⟨b, off + 2, none⟩ = some (.bool a.o.hs) ∧ w.cell? ⟨b, off + 3, none⟩ = some (.bool a.o.ds) ∧ w.cell? ⟨b, off + 4, none⟩ = some (.int .i64 a.o.most) ∧ Bs w a.b a.bB ∧ a.bB.length ≤ 140737488351232 ∧ (-9223372036854775808 ≤ a.kind ∧ a.kind ≤ 9223372036854775807)
def AcsAt (w : World) (v : Value) (as_ : List Ac) : Prop :=
  ∃ A cap, v = .slice A as_.length cap ∧ as_.length ≤ cap ∧ cap ≤ 9223372036854775807 ∧ ∀ i (h : i < as_.length), ∃ b off, A = some ⟨b, off, none⟩ ∧ AcLies w b (off + i * 5) (as_[i]'h)
theorem AcLies.same {w w' : World} {b off : Nat} {a : Ac} (h : AcLies w b off a) (hs : Same w w') : AcLies w' b off a := by
  obtain ⟨h0, h1, h2, h3, h4, h5, h6⟩ := h
  exact ⟨hs.cell h0 id, hs.cell h1 id, hs.cell h2 id, hs.cell h3 id, hs.cell h4 id, h5.same hs, h6⟩
section
variable {H : Type} {enc : TypeId × Value → H} {W : World}
theorem openAcs {base : Nat} {v : Value} {d : DataW H} {p : List MemPlace} (hv : Value.okWide Try.prog W .any base 55 v) (h : DataW.Trod enc Try.prog W 0 (fun _ => true) true 55 v d p) (hz : ∀ n ∈ d.weights Try.prog 55, n ≤ 140737488351232) : ∃ ps, AcsAt W v ps := by
  obtain ⟨A, len, cap, rfl, hl, hc, hel⟩ := open_structs (sz := 5) Try.underlying55 Try.underlying61 (by kernel_rfl) (by decide) (okWide_slice Try.underlying55 hv) h hz
  have hch : ∀ i, i < len → ∃ q : Ac, ∃ b off, A = some ⟨b, off, none⟩ ∧ AcLies W b (off + i * 5) q := by
    intro i hi
    obtain ⟨b, off, cs, k, xs, rfl, hcl, hcell, hf, hw⟩ := hel i hi
    obtain ⟨y0, e0, f0⟩ := hf 0 _ rfl
    obtain ⟨y1, e1, f1⟩ := hf 1 _ rfl
    obtain ⟨y2, e2, f2⟩ := hf 2 _ rfl
    have hcs : ∃ u0 u1 u2 u3 u4, cs = [u0, u1, u2, u3, u4] := by
      match cs, hcl with
      | [u0, u1, u2, u3, u4], _ => exact ⟨u0, u1, u2, u3, u4, rfl⟩
    obtain ⟨u0, u1, u2, u3, u4, rfl⟩ := hcs
    clear hf
    have z0 : Try.prog.cellsOf 3 = 1 := by kernel_rfl
    replace f0 : DataW.trod enc Try.prog W 0 (fun _ => true) true k 3 (List.take (Try.prog.cellsOf 3) (List.drop 0 [u0, u1, u2, u3, u4])) = some y0 := f0
    rw [z0] at f0
    replace f0 : DataW.trod enc Try.prog W 0 (fun _ => true) true k 3 [u0] = some y0 := f0
    have z1 : Try.prog.cellsOf 33 = 1 := by kernel_rfl
    replace f1 : DataW.trod enc Try.prog W 0 (fun _ => true) true k 33 (List.take (Try.prog.cellsOf 33) (List.drop 1 [u0, u1, u2, u3, u4])) = some y1 := f1
    rw [z1] at f1
    replace f1 : DataW.trod enc Try.prog W 0 (fun _ => true) true k 33 [u1] = some y1 := f1
    have z2 : Try.prog.cellsOf 24 = 3 := by kernel_rfl
    replace f2 : DataW.trod enc Try.prog W 0 (fun _ => true) true k 24 (List.take (Try.prog.cellsOf 24) (List.drop 2 [u0, u1, u2, u3, u4])) = some y2 := f2
    rw [z2] at f2
    replace f2 : DataW.trod enc Try.prog W 0 (fun _ => true) true k 24 [u2, u3, u4] = some y2 := f2
    obtain ⟨n0, a0, x0, w0⟩ := DataW.trod_int Try.underlying3 f0
    simp at a0
    subst a0
    obtain ⟨ys, m, hk, ex, -, hl2, hf2⟩ := Go.DataW.trod_struct Try.underlying24 f2
    have hys : ∃ b0 b1 b2, ys = [b0, b1, b2] := by
      match ys, hl2 with
      | [b0, b1, b2], _ => exact ⟨b0, b1, b2, rfl⟩
    obtain ⟨b0, b1, b2, rfl⟩ := hys
    have g0 := hf2 0 _ rfl
    have g1 := hf2 1 _ rfl
    have g2 := hf2 2 _ rfl
    have zb : Try.prog.cellsOf 4 = 1 := by kernel_rfl
    replace g0 : DataW.trod enc Try.prog W 0 (fun _ => true) true m 4 (List.take (Try.prog.cellsOf 4) (List.drop 0 [u2, u3, u4])) = some b0 := g0
    rw [zb] at g0
    replace g0 : DataW.trod enc Try.prog W 0 (fun _ => true) true m 4 [u2] = some b0 := g0
    replace g1 : DataW.trod enc Try.prog W 0 (fun _ => true) true m 4 (List.take (Try.prog.cellsOf 4) (List.drop 1 [u2, u3, u4])) = some b1 := g1
    rw [zb] at g1
    replace g1 : DataW.trod enc Try.prog W 0 (fun _ => true) true m 4 [u3] = some b1 := g1
    replace g2 : DataW.trod enc Try.prog W 0 (fun _ => true) true m 3 (List.take (Try.prog.cellsOf 3) (List.drop 2 [u2, u3, u4])) = some b2 := g2
    rw [z0] at g2
    replace g2 : DataW.trod enc Try.prog W 0 (fun _ => true) true m 3 [u4] = some b2 := g2
    obtain ⟨m0, c0, -⟩ := DataW.trod_bool Try.underlying4 g0
    simp at c0
    subst c0
    obtain ⟨m1, c1, -⟩ := DataW.trod_bool Try.underlying4 g1
    simp at c1
    subst c1
    obtain ⟨m2, c2, -, -⟩ := DataW.trod_int Try.underlying3 g2
    simp at c2
    subst c2
    have hs8 : ∃ a l c, u1 = .slice a l c := by
      rcases Go.Deep.open_slice Try.underlying33 f1 with ⟨h3, _⟩ | ⟨a', l, c, m, n, D, Pl, h3, _⟩
      · exact ⟨none, 0, 0, by simpa using h3⟩
      · exact ⟨_, _, _, by simpa using h3⟩
    have hT8 : DataW.Trod enc Try.prog W 0 (fun _ => true) true 33 u1 y1.1 y1.2 := by
      obtain ⟨a, l, c, rfl⟩ := hs8
      exact ⟨k, by simpa [Value.cells] using f1⟩
    obtain ⟨ps8, hb8, hpl8⟩ := open_bytes Try.underlying33 Try.underlying5 (by kernel_rfl) (by kernel_rfl) hs8 hT8 (fun n hn => by
      refine hw n ?_
      clear hw f0 f1 f2
      match xs, e0, e1, e2 with
      | [g0, g1, g2], e0, e1, e2 =>
        simp at e0 e1 e2
        subst e0 e1 e2
        simp [DataW.weightsEach, hn]
      | g0 :: g1 :: g2 :: bx :: r, e0, e1, e2 =>
        simp at e0 e1 e2
        subst e0 e1 e2
        simp [DataW.weightsEach, hn])
    refine ⟨⟨n0, u1, ps8, ⟨m0, m1, m2⟩⟩, b, off, rfl, ?_, ?_, ?_, ?_, ?_, hb8, hpl8, bounds_i64 w0⟩
    · exact hcell 0 (by decide)
    · exact hcell 1 (by decide)
    · exact hcell 2 (by decide)
    · exact hcell 3 (by decide)
    · exact hcell 4 (by decide)
  obtain ⟨os, hos, hq⟩ := choose_list len hch
  refine ⟨os, A, cap, by rw [hos], by omega, hc, fun i hi => hq i hi⟩
end
end Go.Proofs.Ytfafepmghcobdaa
