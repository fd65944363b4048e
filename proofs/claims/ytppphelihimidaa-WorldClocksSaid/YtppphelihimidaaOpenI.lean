/- A row of ints that came in. -/
import Derived.Test.YtppphelihimidaaOpenN
namespace Go.Proofs.Ytppphelihimidaa
open Go.ChangeShapes Go.WideShapes Go.ChangeAt Go.RowKit
set_option linter.unusedVariables false
section
variable {H : Type} {enc : TypeId × Value → H} {W : World}
set_option maxRecDepth 100000 in
theorem openInts {base : Nat} {v : Value} {d : DataW H} {p : List MemPlace} (hv : Value.okWide Try.prog W .any base 22 v) (h : DataW.Trod enc Try.prog W 0 (fun _ => true) true 22 v d p) (hz : ∀ n ∈ d.weights Try.prog 22, n ≤ 140737488351232) : ∃ zs, NumsAt W v zs :=
  open_nums (P := Try.prog) (e := 3) Try.underlying22 Try.underlying3 (show Try.prog.cellsOf 3 = 1 by kernel_rfl) (okWide_slice Try.underlying22 hv) h
end
end Go.Proofs.Ytppphelihimidaa
