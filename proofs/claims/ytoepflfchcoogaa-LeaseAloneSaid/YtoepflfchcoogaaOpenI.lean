/- A row of ints that came in. -/
import Derived.Test.YtoepflfchcoogaaOpenN
namespace Go.Proofs.Ytoepflfchcoogaa
open Go.ChangeShapes Go.WideShapes Go.ChangeAt Go.RowKit
set_option linter.unusedVariables false
section
variable {H : Type} {enc : TypeId × Value → H} {W : World}
set_option maxRecDepth 100000 in
theorem openInts {base : Nat} {v : Value} {d : DataW H} {p : List MemPlace} (hv : Value.okWide Try.prog W .any base 56 v) (h : DataW.Trod enc Try.prog W 0 (fun _ => true) true 56 v d p) (hz : ∀ n ∈ d.weights Try.prog 56, n ≤ 140737488351232) : ∃ zs, NumsAt W v zs :=
  open_nums (P := Try.prog) (e := 3) Try.underlying56 Try.underlying3 (show Try.prog.cellsOf 3 = 1 by kernel_rfl) (okWide_slice Try.underlying56 hv) h
end
end Go.Proofs.Ytoepflfchcoogaa
