/-
  No cell of these rows narrows 'for every input' (looked for: loops, veiled, ifaces, maps, wideKeys, modest, calm, conditions, laid).
  DERIVED. THE GIVEN ROWS OF THIS SEAT. 6 by the template 'for every input the law returns true; each argument reads behind the call as it read before'; 0 by the template 'total and deterministic' (their statements: YthchmjehcdjpgaaTotals.lean).
  GIVEN WITH THE SEED: the statements are not yours to turn. If you find one false, say at which input.
  Laid BY PROGRAM, IN A SANDBOX (cutbox-rows.mjs): the forced cells as the released guide's own fill.sh prints them over the translation a225dbebf48023db… (all of the seat's roots in one cut). By AI agents, Wed Nov 11 2026. No macro, syntax, notation, axiom, sorry.
-/
import Derived.Test.YthchmjehcdjpgaaChecked
import GoSem.Claim
import GoSem.ClaimJoined
import GoSem.ClaimMapViews
import Derived.JoinedTies
import Derived.KernelRfl
namespace Go.Proofs.Ythchmjehcdjpgaa
/- THE CELL 'sum', in the pinned program and in every row, IS THE sha256 OF THE DUMP (.gsa) THAT YthchmjehcdjpgaaProg.lean LOADS. Nothing in Lean hashes anything: it is a label: what it is worth is what the hold of that sum in a sandbox is worth. -/
noncomputable def Try.pinned : Pinned := { name := "ythchmjehcdjpgaa", sum := "a225dbebf48023dbae4f4f1a9415542a014621b094d648d0aec28482ce2a8d5d", checked := Try.checked }
namespace Rows
def none {H : Type} : Left H := { results := [], args := [] }

/-- 'caissonlaw01.SumsClose': WHATEVER THE INPUT: true; the input reads as it did. -/
def sumsCloseSpec : ChangeSpec := { name := "sumsClose", fn := fun _ => fun
  | [d] => { results := [.lit (.bool true)], args := [d] }
  | _ => none }
def sumsCloseRow : OpenClaim := { program := "ythchmjehcdjpgaa", sum := "a225dbebf48023dbae4f4f1a9415542a014621b094d648d0aec28482ce2a8d5d", func := "caisson/caissonlaw01.SumsClose", spec := "sumsClose", apart := false }
def SumsCloseSaid : Prop := sumsCloseRow.holds Try.pinned (OpenSpec.ofChange sumsCloseSpec)

/-- ITS FALSE NEIGHBOUR: 'it returns false'. Refute it at one input. -/
def sumsCloseWrong : ChangeSpec := { name := "sumsClose", fn := fun _ => fun
  | [d] => { results := [.lit (.bool false)], args := [d] }
  | _ => none }
def SumsCloseWrongFalsely : Prop := sumsCloseRow.holds Try.pinned (OpenSpec.ofChange sumsCloseWrong)

/-- 'caissonlaw01.SumsAdd': WHATEVER THE INPUT: true; the input reads as it did. -/
def sumsAddSpec : ChangeSpec := { name := "sumsAdd", fn := fun _ => fun
  | [d1, d2, d3] => { results := [.lit (.bool true)], args := [d1, d2, d3] }
  | _ => none }
def sumsAddRow : OpenClaim := { program := "ythchmjehcdjpgaa", sum := "a225dbebf48023dbae4f4f1a9415542a014621b094d648d0aec28482ce2a8d5d", func := "caisson/caissonlaw01.SumsAdd", spec := "sumsAdd", apart := false }
def SumsAddSaid : Prop := sumsAddRow.holds Try.pinned (OpenSpec.ofChange sumsAddSpec)

/-- ITS FALSE NEIGHBOUR: 'it returns false'. Refute it at one input. -/
def sumsAddWrong : ChangeSpec := { name := "sumsAdd", fn := fun _ => fun
  | [d1, d2, d3] => { results := [.lit (.bool false)], args := [d1, d2, d3] }
  | _ => none }
def SumsAddWrongFalsely : Prop := sumsAddRow.holds Try.pinned (OpenSpec.ofChange sumsAddWrong)

/-- 'caissonlaw01.SumsPads': WHATEVER THE INPUT: true; the input reads as it did. -/
def sumsPadsSpec : ChangeSpec := { name := "sumsPads", fn := fun _ => fun
  | [d] => { results := [.lit (.bool true)], args := [d] }
  | _ => none }
def sumsPadsRow : OpenClaim := { program := "ythchmjehcdjpgaa", sum := "a225dbebf48023dbae4f4f1a9415542a014621b094d648d0aec28482ce2a8d5d", func := "caisson/caissonlaw01.SumsPads", spec := "sumsPads", apart := false }
def SumsPadsSaid : Prop := sumsPadsRow.holds Try.pinned (OpenSpec.ofChange sumsPadsSpec)

/-- ITS FALSE NEIGHBOUR: 'it returns false'. Refute it at one input. -/
def sumsPadsWrong : ChangeSpec := { name := "sumsPads", fn := fun _ => fun
  | [d] => { results := [.lit (.bool false)], args := [d] }
  | _ => none }
def SumsPadsWrongFalsely : Prop := sumsPadsRow.holds Try.pinned (OpenSpec.ofChange sumsPadsWrong)

/-- 'caissonlaw01.SumsPieces': WHATEVER THE INPUT: true; the input reads as it did. -/
def sumsPiecesSpec : ChangeSpec := { name := "sumsPieces", fn := fun _ => fun
  | [d1, d2] => { results := [.lit (.bool true)], args := [d1, d2] }
  | _ => none }
def sumsPiecesRow : OpenClaim := { program := "ythchmjehcdjpgaa", sum := "a225dbebf48023dbae4f4f1a9415542a014621b094d648d0aec28482ce2a8d5d", func := "caisson/caissonlaw01.SumsPieces", spec := "sumsPieces", apart := false }
def SumsPiecesSaid : Prop := sumsPiecesRow.holds Try.pinned (OpenSpec.ofChange sumsPiecesSpec)

/-- ITS FALSE NEIGHBOUR: 'it returns false'. Refute it at one input. -/
def sumsPiecesWrong : ChangeSpec := { name := "sumsPieces", fn := fun _ => fun
  | [d1, d2] => { results := [.lit (.bool false)], args := [d1, d2] }
  | _ => none }
def SumsPiecesWrongFalsely : Prop := sumsPiecesRow.holds Try.pinned (OpenSpec.ofChange sumsPiecesWrong)

/-- 'caissonlaw01.SumsTurned': WHATEVER THE INPUT: true; the input reads as it did. -/
def sumsTurnedSpec : ChangeSpec := { name := "sumsTurned", fn := fun _ => fun
  | [d1, d2, d3] => { results := [.lit (.bool true)], args := [d1, d2, d3] }
  | _ => none }
def sumsTurnedRow : OpenClaim := { program := "ythchmjehcdjpgaa", sum := "a225dbebf48023dbae4f4f1a9415542a014621b094d648d0aec28482ce2a8d5d", func := "caisson/caissonlaw01.SumsTurned", spec := "sumsTurned", apart := false }
def SumsTurnedSaid : Prop := sumsTurnedRow.holds Try.pinned (OpenSpec.ofChange sumsTurnedSpec)

/-- ITS FALSE NEIGHBOUR: 'it returns false'. Refute it at one input. -/
def sumsTurnedWrong : ChangeSpec := { name := "sumsTurned", fn := fun _ => fun
  | [d1, d2, d3] => { results := [.lit (.bool false)], args := [d1, d2, d3] }
  | _ => none }
def SumsTurnedWrongFalsely : Prop := sumsTurnedRow.holds Try.pinned (OpenSpec.ofChange sumsTurnedWrong)

/-- 'caissonlaw01.SumsTwice': WHATEVER THE INPUT: true; the input reads as it did. -/
def sumsTwiceSpec : ChangeSpec := { name := "sumsTwice", fn := fun _ => fun
  | [d1, d2] => { results := [.lit (.bool true)], args := [d1, d2] }
  | _ => none }
def sumsTwiceRow : OpenClaim := { program := "ythchmjehcdjpgaa", sum := "a225dbebf48023dbae4f4f1a9415542a014621b094d648d0aec28482ce2a8d5d", func := "caisson/caissonlaw01.SumsTwice", spec := "sumsTwice", apart := false }
def SumsTwiceSaid : Prop := sumsTwiceRow.holds Try.pinned (OpenSpec.ofChange sumsTwiceSpec)

/-- ITS FALSE NEIGHBOUR: 'it returns false'. Refute it at one input. -/
def sumsTwiceWrong : ChangeSpec := { name := "sumsTwice", fn := fun _ => fun
  | [d1, d2] => { results := [.lit (.bool false)], args := [d1, d2] }
  | _ => none }
def SumsTwiceWrongFalsely : Prop := sumsTwiceRow.holds Try.pinned (OpenSpec.ofChange sumsTwiceWrong)

/- THE SECOND FORM. 'bulk': how many values and letters a reading holds, each counted each time it is reached (what is shared counts as often as it is met; a slice's spare places count too). A statement '..UptoSaid' is the law's where the arguments, and the package variables that the reading takes, are together of bulk at most 1048576: NARROWER than '..Said'. Prove '..Said' where nothing that the law and all that it calls make is longer than what came in: it says more and counts as full. Else prove '..UptoSaid'. A law counts once. -/
mutual
def uptoBulk {H : Type} : DataW H → Nat
  | .lit (.string bytes) => bytes.length + 1
  | .lit _ => 1
  | .nil => 1
  | .ptr d => uptoBulk d + 1
  | .slice elems spare => uptoBulkAll elems + uptoBulkAll spare + 1
  | .agg parts => uptoBulkAll parts + 1
  | .iface _ d => uptoBulk d + 1
  | .map entries => uptoBulkEntries entries + 1
  | .held _ => 1
def uptoBulkAll {H : Type} : List (DataW H) → Nat
  | [] => 0
  | d :: r => uptoBulk d + uptoBulkAll r
def uptoBulkEntries {H : Type} : List (Lit × DataW H) → Nat
  | [] => 0
  | x :: r => uptoBulkEntry x + uptoBulkEntries r
def uptoBulkEntry {H : Type} : Lit × DataW H → Nat
  | (.string bytes, d) => bytes.length + uptoBulk d + 1
  | (_, d) => uptoBulk d + 1
 end
def uptoSmall : (H : Type) → List (DataW H) → Bool := fun _ ds => decide (uptoBulkAll ds ≤ 1048576)
def OpenSpec.upto (s : _root_.Go.ChangeSpec) : _root_.Go.OpenSpec := { _root_.Go.OpenSpec.ofChange s with cond := some uptoSmall }

/-- 'caissonlaw01.SumsClose', WHERE WHAT IT READS IS OF BULK AT MOST 1048576: true; the input reads as it did. -/
def sumsCloseUptoRow : OpenClaim := { program := "ythchmjehcdjpgaa", sum := "a225dbebf48023dbae4f4f1a9415542a014621b094d648d0aec28482ce2a8d5d", func := "caisson/caissonlaw01.SumsClose", spec := "sumsClose", apart := false, narrowed := true }
def SumsCloseUptoSaid : Prop := sumsCloseUptoRow.holds Try.pinned (OpenSpec.upto sumsCloseSpec)

/-- 'caissonlaw01.SumsAdd', WHERE WHAT IT READS IS OF BULK AT MOST 1048576: true; the input reads as it did. -/
def sumsAddUptoRow : OpenClaim := { program := "ythchmjehcdjpgaa", sum := "a225dbebf48023dbae4f4f1a9415542a014621b094d648d0aec28482ce2a8d5d", func := "caisson/caissonlaw01.SumsAdd", spec := "sumsAdd", apart := false, narrowed := true }
def SumsAddUptoSaid : Prop := sumsAddUptoRow.holds Try.pinned (OpenSpec.upto sumsAddSpec)

/-- 'caissonlaw01.SumsPads', WHERE WHAT IT READS IS OF BULK AT MOST 1048576: true; the input reads as it did. -/
def sumsPadsUptoRow : OpenClaim := { program := "ythchmjehcdjpgaa", sum := "a225dbebf48023dbae4f4f1a9415542a014621b094d648d0aec28482ce2a8d5d", func := "caisson/caissonlaw01.SumsPads", spec := "sumsPads", apart := false, narrowed := true }
def SumsPadsUptoSaid : Prop := sumsPadsUptoRow.holds Try.pinned (OpenSpec.upto sumsPadsSpec)

/-- 'caissonlaw01.SumsPieces', WHERE WHAT IT READS IS OF BULK AT MOST 1048576: true; the input reads as it did. -/
def sumsPiecesUptoRow : OpenClaim := { program := "ythchmjehcdjpgaa", sum := "a225dbebf48023dbae4f4f1a9415542a014621b094d648d0aec28482ce2a8d5d", func := "caisson/caissonlaw01.SumsPieces", spec := "sumsPieces", apart := false, narrowed := true }
def SumsPiecesUptoSaid : Prop := sumsPiecesUptoRow.holds Try.pinned (OpenSpec.upto sumsPiecesSpec)

/-- 'caissonlaw01.SumsTurned', WHERE WHAT IT READS IS OF BULK AT MOST 1048576: true; the input reads as it did. -/
def sumsTurnedUptoRow : OpenClaim := { program := "ythchmjehcdjpgaa", sum := "a225dbebf48023dbae4f4f1a9415542a014621b094d648d0aec28482ce2a8d5d", func := "caisson/caissonlaw01.SumsTurned", spec := "sumsTurned", apart := false, narrowed := true }
def SumsTurnedUptoSaid : Prop := sumsTurnedUptoRow.holds Try.pinned (OpenSpec.upto sumsTurnedSpec)

/-- 'caissonlaw01.SumsTwice', WHERE WHAT IT READS IS OF BULK AT MOST 1048576: true; the input reads as it did. -/
def sumsTwiceUptoRow : OpenClaim := { program := "ythchmjehcdjpgaa", sum := "a225dbebf48023dbae4f4f1a9415542a014621b094d648d0aec28482ce2a8d5d", func := "caisson/caissonlaw01.SumsTwice", spec := "sumsTwice", apart := false, narrowed := true }
def SumsTwiceUptoSaid : Prop := sumsTwiceUptoRow.holds Try.pinned (OpenSpec.upto sumsTwiceSpec)

end Rows
end Go.Proofs.Ythchmjehcdjpgaa
