/- From the reading of a letter, and of what is agreed on, that come by value to what a walk is told of them. -/
import Derived.Test.YtfafepmghcobdaaGa
import Derived.Test.YtfafepmghcobdaaGb
import Derived.OpenShut
namespace Go.Proofs.Ytfafepmghcobdaa
open Go.ChangeShapes Go.WideShapes Go.ChangeAt Go.RowKit
set_option linter.unusedVariables false
set_option linter.unusedSimpArgs false
set_option maxRecDepth 100000
section
variable {H : Type} {enc : TypeId × Value → H} {W : World}
def PdIn (w : World) (v : Value) (p : Pd) : Prop := ∃ A n cap, v = pdA p (.slice A n cap) ∧ p.ok ∧ Bs w (.slice A n cap) p.data ∧ p.data.length ≤ 140737488351232
theorem openPd {base : Nat} {v : Value} {d : DataW H} {p : List MemPlace} (hv : Value.okWide Try.prog W .any base 42 v) (h : DataW.Trod enc Try.prog W 0 (fun _ => true) true 42 v d p) (hz : ∀ n ∈ d.weights Try.prog 42, n ≤ 140737488351232) : ∃ q, PdIn W v q := by
  obtain ⟨cs, k, xs, rfl, hcl, hf, hw⟩ := open_structv (sz := 15) Try.underlying42 (by kernel_rfl) hv h hz
  obtain ⟨y0, e0, f0⟩ := hf 0 _ rfl
  obtain ⟨y1, e1, f1⟩ := hf 1 _ rfl
  obtain ⟨y2, e2, f2⟩ := hf 2 _ rfl
  obtain ⟨y3, e3, f3⟩ := hf 3 _ rfl
  obtain ⟨y4, e4, f4⟩ := hf 4 _ rfl
  obtain ⟨y5, e5, f5⟩ := hf 5 _ rfl
  obtain ⟨y6, e6, f6⟩ := hf 6 _ rfl
  obtain ⟨y7, e7, f7⟩ := hf 7 _ rfl
  obtain ⟨y8, e8, f8⟩ := hf 8 _ rfl
  have hcs : ∃ u0 u1 u2 u3 u4 u5 u6 u7 u8 u9 u10 u11 u12 u13 u14, cs = [u0, u1, u2, u3, u4, u5, u6, u7, u8, u9, u10, u11, u12, u13, u14] := by
    match cs, hcl with
    | [u0, u1, u2, u3, u4, u5, u6, u7, u8, u9, u10, u11, u12, u13, u14], _ => exact ⟨u0, u1, u2, u3, u4, u5, u6, u7, u8, u9, u10, u11, u12, u13, u14, rfl⟩
  obtain ⟨u0, u1, u2, u3, u4, u5, u6, u7, u8, u9, u10, u11, u12, u13, u14, rfl⟩ := hcs
  clear hcl hf hv
  have z0 : Try.prog.cellsOf 3 = 1 := by kernel_rfl
  replace f0 : DataW.trod enc Try.prog W 0 (fun _ => true) true k 3 (List.take (Try.prog.cellsOf 3) (List.drop 0 [u0, u1, u2, u3, u4, u5, u6, u7, u8, u9, u10, u11, u12, u13, u14])) = some y0 := f0
  rw [z0] at f0
  replace f0 : DataW.trod enc Try.prog W 0 (fun _ => true) true k 3 [u0] = some y0 := f0
  have z1 : Try.prog.cellsOf 4 = 1 := by kernel_rfl
  replace f1 : DataW.trod enc Try.prog W 0 (fun _ => true) true k 4 (List.take (Try.prog.cellsOf 4) (List.drop 1 [u0, u1, u2, u3, u4, u5, u6, u7, u8, u9, u10, u11, u12, u13, u14])) = some y1 := f1
  rw [z1] at f1
  replace f1 : DataW.trod enc Try.prog W 0 (fun _ => true) true k 4 [u1] = some y1 := f1
  have z2 : Try.prog.cellsOf 3 = 1 := by kernel_rfl
  replace f2 : DataW.trod enc Try.prog W 0 (fun _ => true) true k 3 (List.take (Try.prog.cellsOf 3) (List.drop 2 [u0, u1, u2, u3, u4, u5, u6, u7, u8, u9, u10, u11, u12, u13, u14])) = some y2 := f2
  rw [z2] at f2
  replace f2 : DataW.trod enc Try.prog W 0 (fun _ => true) true k 3 [u2] = some y2 := f2
  have z3 : Try.prog.cellsOf 3 = 1 := by kernel_rfl
  replace f3 : DataW.trod enc Try.prog W 0 (fun _ => true) true k 3 (List.take (Try.prog.cellsOf 3) (List.drop 3 [u0, u1, u2, u3, u4, u5, u6, u7, u8, u9, u10, u11, u12, u13, u14])) = some y3 := f3
  rw [z3] at f3
  replace f3 : DataW.trod enc Try.prog W 0 (fun _ => true) true k 3 [u3] = some y3 := f3
  have z4 : Try.prog.cellsOf 3 = 1 := by kernel_rfl
  replace f4 : DataW.trod enc Try.prog W 0 (fun _ => true) true k 3 (List.take (Try.prog.cellsOf 3) (List.drop 4 [u0, u1, u2, u3, u4, u5, u6, u7, u8, u9, u10, u11, u12, u13, u14])) = some y4 := f4
  rw [z4] at f4
  replace f4 : DataW.trod enc Try.prog W 0 (fun _ => true) true k 3 [u4] = some y4 := f4
  have z5 : Try.prog.cellsOf 36 = 1 := by kernel_rfl
  replace f5 : DataW.trod enc Try.prog W 0 (fun _ => true) true k 36 (List.take (Try.prog.cellsOf 36) (List.drop 5 [u0, u1, u2, u3, u4, u5, u6, u7, u8, u9, u10, u11, u12, u13, u14])) = some y5 := f5
  rw [z5] at f5
  replace f5 : DataW.trod enc Try.prog W 0 (fun _ => true) true k 36 [u5] = some y5 := f5
  have z6 : Try.prog.cellsOf 37 = 1 := by kernel_rfl
  replace f6 : DataW.trod enc Try.prog W 0 (fun _ => true) true k 37 (List.take (Try.prog.cellsOf 37) (List.drop 6 [u0, u1, u2, u3, u4, u5, u6, u7, u8, u9, u10, u11, u12, u13, u14])) = some y6 := f6
  rw [z6] at f6
  replace f6 : DataW.trod enc Try.prog W 0 (fun _ => true) true k 37 [u6] = some y6 := f6
  have z7 : Try.prog.cellsOf 38 = 7 := by kernel_rfl
  replace f7 : DataW.trod enc Try.prog W 0 (fun _ => true) true k 38 (List.take (Try.prog.cellsOf 38) (List.drop 7 [u0, u1, u2, u3, u4, u5, u6, u7, u8, u9, u10, u11, u12, u13, u14])) = some y7 := f7
  rw [z7] at f7
  replace f7 : DataW.trod enc Try.prog W 0 (fun _ => true) true k 38 [u7, u8, u9, u10, u11, u12, u13] = some y7 := f7
  have z8 : Try.prog.cellsOf 33 = 1 := by kernel_rfl
  replace f8 : DataW.trod enc Try.prog W 0 (fun _ => true) true k 33 (List.take (Try.prog.cellsOf 33) (List.drop 14 [u0, u1, u2, u3, u4, u5, u6, u7, u8, u9, u10, u11, u12, u13, u14])) = some y8 := f8
  rw [z8] at f8
  replace f8 : DataW.trod enc Try.prog W 0 (fun _ => true) true k 33 [u14] = some y8 := f8
  obtain ⟨n0, a0, x0, w0⟩ := DataW.trod_int Try.underlying3 f0
  simp at a0
  subst a0
  obtain ⟨n2, a2, x2, w2⟩ := DataW.trod_int Try.underlying3 f2
  simp at a2
  subst a2
  obtain ⟨n3, a3, x3, w3⟩ := DataW.trod_int Try.underlying3 f3
  simp at a3
  subst a3
  obtain ⟨n4, a4, x4, w4⟩ := DataW.trod_int Try.underlying3 f4
  simp at a4
  subst a4
  obtain ⟨n5, a5, x5, w5⟩ := DataW.trod_int Try.underlying36 f5
  simp at a5
  subst a5
  obtain ⟨n6, a6, x6, w6⟩ := DataW.trod_int Try.underlying37 f6
  simp at a6
  subst a6
  obtain ⟨n1, a1, x1⟩ := DataW.trod_bool Try.underlying4 f1
  simp at a1
  subst a1
  obtain ⟨xs7, m7, hk7, ex7, -, hl7, hel⟩ := DataW.trod_array Try.underlying38 f7
  have hxs : ∃ b0 b1 b2 b3 b4 b5 b6, xs7 = [b0, b1, b2, b3, b4, b5, b6] := by
    match xs7, hl7 with
    | [b0, b1, b2, b3, b4, b5, b6], _ => exact ⟨b0, b1, b2, b3, b4, b5, b6, rfl⟩
  obtain ⟨b0, b1, b2, b3, b4, b5, b6, rfl⟩ := hxs
  have zu : Try.prog.cellsOf 37 = 1 := by kernel_rfl
  have h70 : DataW.trod enc Try.prog W 0 (fun _ => true) true m7 37 [u7] = some b0 := by have h := hel 0 (by omega); rw [zu] at h; exact h
  obtain ⟨m10, c0, -, v0⟩ := DataW.trod_int Try.underlying37 h70
  simp at c0
  subst c0
  have h71 : DataW.trod enc Try.prog W 0 (fun _ => true) true m7 37 [u8] = some b1 := by have h := hel 1 (by omega); rw [zu] at h; exact h
  obtain ⟨m11, c1, -, v1⟩ := DataW.trod_int Try.underlying37 h71
  simp at c1
  subst c1
  have h72 : DataW.trod enc Try.prog W 0 (fun _ => true) true m7 37 [u9] = some b2 := by have h := hel 2 (by omega); rw [zu] at h; exact h
  obtain ⟨m12, c2, -, v2⟩ := DataW.trod_int Try.underlying37 h72
  simp at c2
  subst c2
  have h73 : DataW.trod enc Try.prog W 0 (fun _ => true) true m7 37 [u10] = some b3 := by have h := hel 3 (by omega); rw [zu] at h; exact h
  obtain ⟨m13, c3, -, v3⟩ := DataW.trod_int Try.underlying37 h73
  simp at c3
  subst c3
  have h74 : DataW.trod enc Try.prog W 0 (fun _ => true) true m7 37 [u11] = some b4 := by have h := hel 4 (by omega); rw [zu] at h; exact h
  obtain ⟨m14, c4, -, v4⟩ := DataW.trod_int Try.underlying37 h74
  simp at c4
  subst c4
  have h75 : DataW.trod enc Try.prog W 0 (fun _ => true) true m7 37 [u12] = some b5 := by have h := hel 5 (by omega); rw [zu] at h; exact h
  obtain ⟨m15, c5, -, v5⟩ := DataW.trod_int Try.underlying37 h75
  simp at c5
  subst c5
  have h76 : DataW.trod enc Try.prog W 0 (fun _ => true) true m7 37 [u13] = some b6 := by have h := hel 6 (by omega); rw [zu] at h; exact h
  obtain ⟨m16, c6, -, v6⟩ := DataW.trod_int Try.underlying37 h76
  simp at c6
  subst c6
  have hs8 : ∃ a l c, u14 = .slice a l c := by
    rcases Go.Deep.open_slice Try.underlying33 f8 with ⟨h3, _⟩ | ⟨a', l, c, m, n, D, Pl, h3, _⟩
    · exact ⟨none, 0, 0, by simpa using h3⟩
    · exact ⟨_, _, _, by simpa using h3⟩
  have hT8 : DataW.Trod enc Try.prog W 0 (fun _ => true) true 33 u14 y8.1 y8.2 := by
    obtain ⟨a, l, c, rfl⟩ := hs8
    exact ⟨k, by simpa [Value.cells] using f8⟩
  obtain ⟨ps8, hb8, hpl8⟩ := open_bytes Try.underlying33 Try.underlying5 (by kernel_rfl) (by kernel_rfl) hs8 hT8 (fun n hn => by
    refine hw n ?_
    clear hw hel f0 f1 f2 f3 f4 f5 f6 f7 f8
    match xs, e0, e1, e2, e3, e4, e5, e6, e7, e8 with
    | [g0, g1, g2, g3, g4, g5, g6, g7, g8], e0, e1, e2, e3, e4, e5, e6, e7, e8 =>
      simp at e0 e1 e2 e3 e4 e5 e6 e7 e8
      subst e0 e1 e2 e3 e4 e5 e6 e7 e8
      simp [DataW.weightsEach, hn]
    | g0 :: g1 :: g2 :: g3 :: g4 :: g5 :: g6 :: g7 :: g8 :: bx :: r, e0, e1, e2, e3, e4, e5, e6, e7, e8 =>
      simp at e0 e1 e2 e3 e4 e5 e6 e7 e8
      subst e0 e1 e2 e3 e4 e5 e6 e7 e8
      simp [DataW.weightsEach, hn])
  obtain ⟨a14, l14, c14, rfl⟩ := hs8
  have i5 := bounds_u64 w5
  have i6 := bounds_u32 w6
  have j0 := bounds_u32 v0
  have j1 := bounds_u32 v1
  have j2 := bounds_u32 v2
  have j3 := bounds_u32 v3
  have j4 := bounds_u32 v4
  have j5 := bounds_u32 v5
  have j6 := bounds_u32 v6
  refine ⟨⟨n0, n1, n2, n3, n4, n5, n6, [m10, m11, m12, m13, m14, m15, m16], ps8⟩, a14, l14, c14, rfl, ⟨i5, i6, rfl, ?_⟩, hb8, hpl8⟩
  intro n hn
  simp only [List.mem_cons, List.not_mem_nil, or_false] at hn
  rcases hn with rfl | rfl | rfl | rfl | rfl | rfl | rfl <;> assumption
theorem openAg {base : Nat} {v : Value} {d : DataW H} {p : List MemPlace} (hv : Value.okWide Try.prog W .any base 24 v) (h : DataW.Trod enc Try.prog W 0 (fun _ => true) true 24 v d p) (hz : ∀ n ∈ d.weights Try.prog 24, n ≤ 140737488351232) : ∃ q : Ag, v = agA q ∧ True := by
  obtain ⟨cs, k, xs, rfl, hcl, hf, hw⟩ := open_structv (sz := 3) Try.underlying24 (by kernel_rfl) hv h hz
  obtain ⟨y0, e0, f0⟩ := hf 0 _ rfl
  obtain ⟨y1, e1, f1⟩ := hf 1 _ rfl
  obtain ⟨y2, e2, f2⟩ := hf 2 _ rfl
  have hcs : ∃ u0 u1 u2, cs = [u0, u1, u2] := by
    match cs, hcl with
    | [u0, u1, u2], _ => exact ⟨u0, u1, u2, rfl⟩
  obtain ⟨u0, u1, u2, rfl⟩ := hcs
  clear hcl hf hv
  have z0 : Try.prog.cellsOf 4 = 1 := by kernel_rfl
  replace f0 : DataW.trod enc Try.prog W 0 (fun _ => true) true k 4 (List.take (Try.prog.cellsOf 4) (List.drop 0 [u0, u1, u2])) = some y0 := f0
  rw [z0] at f0
  replace f0 : DataW.trod enc Try.prog W 0 (fun _ => true) true k 4 [u0] = some y0 := f0
  have z1 : Try.prog.cellsOf 4 = 1 := by kernel_rfl
  replace f1 : DataW.trod enc Try.prog W 0 (fun _ => true) true k 4 (List.take (Try.prog.cellsOf 4) (List.drop 1 [u0, u1, u2])) = some y1 := f1
  rw [z1] at f1
  replace f1 : DataW.trod enc Try.prog W 0 (fun _ => true) true k 4 [u1] = some y1 := f1
  have z2 : Try.prog.cellsOf 3 = 1 := by kernel_rfl
  replace f2 : DataW.trod enc Try.prog W 0 (fun _ => true) true k 3 (List.take (Try.prog.cellsOf 3) (List.drop 2 [u0, u1, u2])) = some y2 := f2
  rw [z2] at f2
  replace f2 : DataW.trod enc Try.prog W 0 (fun _ => true) true k 3 [u2] = some y2 := f2
  obtain ⟨n0, a0, -⟩ := DataW.trod_bool Try.underlying4 f0
  simp at a0
  subst a0
  obtain ⟨n1, a1, -⟩ := DataW.trod_bool Try.underlying4 f1
  simp at a1
  subst a1
  obtain ⟨n2, a2, -, -⟩ := DataW.trod_int Try.underlying3 f2
  simp at a2
  subst a2
  exact ⟨⟨n0, n1, n2⟩, rfl, trivial⟩
end
end Go.Proofs.Ytfafepmghcobdaa
