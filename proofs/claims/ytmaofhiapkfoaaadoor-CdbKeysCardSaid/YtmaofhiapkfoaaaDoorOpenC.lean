/- From the reading of a caisson/caissonref15.Cdb that comes by value to what a walk is told of it. -/
import Derived.Test.YtmaofhiapkfoaaaDoorOpenV
import Derived.Test.YtmaofhiapkfoaaaDoorMem
import Derived.Test.YtmaofhiapkfoaaaDoorCdbA
namespace Go.Proofs.YtmaofhiapkfoaaaDoor
open Go.ChangeShapes Go.WideShapes Go.ChangeAt Go.RowKit
set_option linter.unusedVariables false
set_option linter.unusedSimpArgs false
set_option maxRecDepth 20000
structure RCdb where
  op : Int
  service : Int
  page : Int
  vital : Bool
  typ : Int
  lba : Int
  len : Int
def RCdbIn (w : World) (v : Value) (o : RCdb) : Prop := v = .agg #[.int .i64 o.op, .int .i64 o.service, .int .i64 o.page, .bool o.vital, .int .i64 o.typ, .int .u64 o.lba, .int .i64 o.len] ∧ (-9223372036854775808 ≤ o.op ∧ o.op ≤ 9223372036854775807) ∧ (-9223372036854775808 ≤ o.service ∧ o.service ≤ 9223372036854775807) ∧ (-9223372036854775808 ≤ o.page ∧ o.page ≤ 9223372036854775807) ∧ (-9223372036854775808 ≤ o.typ ∧ o.typ ≤ 9223372036854775807) ∧ (0 ≤ o.lba ∧ o.lba ≤ 18446744073709551615) ∧ (-9223372036854775808 ≤ o.len ∧ o.len ≤ 9223372036854775807)
section
variable {H : Type} {enc : TypeId × Value → H} {W : World}
theorem openRCdb {base : Nat} {v : Value} {d : DataW H} {p : List MemPlace} (hv : Value.okWide Tryd.prog W .any base 24 v) (h : DataW.Trod enc Tryd.prog W 0 (fun _ => true) true 24 v d p) (hz : ∀ n ∈ d.weights Tryd.prog 24, n ≤ 140737488351232) : ∃ o, RCdbIn W v o := by
  obtain ⟨cs, k, xs, rfl, hcl, hf, hw⟩ := open_structv (sz := 7) Tryd.underlying24 (by kernel_rfl) hv h hz
  obtain ⟨y0, e0, f0⟩ := hf 0 _ rfl
  obtain ⟨y1, e1, f1⟩ := hf 1 _ rfl
  obtain ⟨y2, e2, f2⟩ := hf 2 _ rfl
  obtain ⟨y3, e3, f3⟩ := hf 3 _ rfl
  obtain ⟨y4, e4, f4⟩ := hf 4 _ rfl
  obtain ⟨y5, e5, f5⟩ := hf 5 _ rfl
  obtain ⟨y6, e6, f6⟩ := hf 6 _ rfl
  obtain ⟨u0, g0, t0⟩ := one_cell hcl (j := 0) (by decide)
  obtain ⟨u1, g1, t1⟩ := one_cell hcl (j := 1) (by decide)
  obtain ⟨u2, g2, t2⟩ := one_cell hcl (j := 2) (by decide)
  obtain ⟨u3, g3, t3⟩ := one_cell hcl (j := 3) (by decide)
  obtain ⟨u4, g4, t4⟩ := one_cell hcl (j := 4) (by decide)
  obtain ⟨u5, g5, t5⟩ := one_cell hcl (j := 5) (by decide)
  obtain ⟨u6, g6, t6⟩ := one_cell hcl (j := 6) (by decide)
  obtain rfl : cs = [u0, u1, u2, u3, u4, u5, u6] := by
    refine List.ext_getElem (by simpa using hcl) fun i h1 h2 => ?_
    rw [hcl] at h1
    rcases (show i = 0 ∨ i = 1 ∨ i = 2 ∨ i = 3 ∨ i = 4 ∨ i = 5 ∨ i = 6 by omega) with rfl | rfl | rfl | rfl | rfl | rfl | rfl
    · have := (List.getElem?_eq_some_iff.1 g0).2; simpa using this
    · have := (List.getElem?_eq_some_iff.1 g1).2; simpa using this
    · have := (List.getElem?_eq_some_iff.1 g2).2; simpa using this
    · have := (List.getElem?_eq_some_iff.1 g3).2; simpa using this
    · have := (List.getElem?_eq_some_iff.1 g4).2; simpa using this
    · have := (List.getElem?_eq_some_iff.1 g5).2; simpa using this
    · have := (List.getElem?_eq_some_iff.1 g6).2; simpa using this
  have z0 : Tryd.prog.cellsOf 3 = 1 := by kernel_rfl
  replace f0 : DataW.trod enc Tryd.prog W 0 (fun _ => true) true k 3 [u0] = some y0 := by rw [← t0, ← z0]; exact f0
  have z1 : Tryd.prog.cellsOf 3 = 1 := by kernel_rfl
  replace f1 : DataW.trod enc Tryd.prog W 0 (fun _ => true) true k 3 [u1] = some y1 := by rw [← t1, ← z1]; exact f1
  have z2 : Tryd.prog.cellsOf 3 = 1 := by kernel_rfl
  replace f2 : DataW.trod enc Tryd.prog W 0 (fun _ => true) true k 3 [u2] = some y2 := by rw [← t2, ← z2]; exact f2
  have z3 : Tryd.prog.cellsOf 4 = 1 := by kernel_rfl
  replace f3 : DataW.trod enc Tryd.prog W 0 (fun _ => true) true k 4 [u3] = some y3 := by rw [← t3, ← z3]; exact f3
  have z4 : Tryd.prog.cellsOf 3 = 1 := by kernel_rfl
  replace f4 : DataW.trod enc Tryd.prog W 0 (fun _ => true) true k 3 [u4] = some y4 := by rw [← t4, ← z4]; exact f4
  have z5 : Tryd.prog.cellsOf 22 = 1 := by kernel_rfl
  replace f5 : DataW.trod enc Tryd.prog W 0 (fun _ => true) true k 22 [u5] = some y5 := by rw [← t5, ← z5]; exact f5
  have z6 : Tryd.prog.cellsOf 3 = 1 := by kernel_rfl
  replace f6 : DataW.trod enc Tryd.prog W 0 (fun _ => true) true k 3 [u6] = some y6 := by rw [← t6, ← z6]; exact f6
  obtain ⟨n0, a0, x0, w0⟩ := DataW.trod_int Tryd.underlying3 f0
  simp at a0
  subst a0
  obtain ⟨n1, a1, x1, w1⟩ := DataW.trod_int Tryd.underlying3 f1
  simp at a1
  subst a1
  obtain ⟨n2, a2, x2, w2⟩ := DataW.trod_int Tryd.underlying3 f2
  simp at a2
  subst a2
  obtain ⟨n3, a3, x3⟩ := DataW.trod_bool Tryd.underlying4 f3
  simp at a3
  subst a3
  obtain ⟨n4, a4, x4, w4⟩ := DataW.trod_int Tryd.underlying3 f4
  simp at a4
  subst a4
  obtain ⟨n5, a5, x5, w5⟩ := DataW.trod_int Tryd.underlying22 f5
  simp at a5
  subst a5
  obtain ⟨n6, a6, x6, w6⟩ := DataW.trod_int Tryd.underlying3 f6
  simp at a6
  subst a6
  exact ⟨⟨n0, n1, n2, n3, n4, n5, n6⟩, by simp, bounds_i64 w0, bounds_i64 w1, bounds_i64 w2, bounds_i64 w4, bounds_u64 w5, bounds_i64 w6⟩
/-- v is the command c. -/
def CmdIn (w : World) (v : Value) (c : Cmd) : Prop := v = .agg c.cells ∧ c.ok
theorem openCmd {base : Nat} {v : Value} {d : DataW H} {p : List MemPlace} (hv : Value.okWide Tryd.prog W .any base 24 v) (h : DataW.Trod enc Tryd.prog W 0 (fun _ => true) true 24 v d p) (hz : ∀ n ∈ d.weights Tryd.prog 24, n ≤ 140737488351232) : ∃ c, CmdIn W v c := by
  obtain ⟨o, he, h0, h1, h2, h3, h4, h5⟩ := openRCdb hv h hz
  exact ⟨⟨o.op, o.service, o.page, o.vital, o.typ, o.lba, o.len⟩, he, h0, h1, h2, h3, h4, h5⟩
end
end Go.Proofs.YtmaofhiapkfoaaaDoor
