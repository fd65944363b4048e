/-
  No cell of these rows narrows 'for every input' (looked for: loops, veiled, ifaces, maps, wideKeys, modest, calm, conditions, laid).
  DERIVED. THE GIVEN ROWS OF THIS SEAT. 6 by the template 'for every input the law returns true; each argument reads behind the call as it read before'; 0 by the template 'total and deterministic' (their statements: YtfafepmghcobdaaTotals.lean).
  GIVEN WITH THE SEED: the statements are not yours to turn. If you find one false, say at which input.
  Laid BY PROGRAM, IN A SANDBOX (cutbox-rows.mjs): the forced cells as the released guide's own fill.sh prints them over the translation b746e0d42cfaf95e… (all of the seat's roots in one cut). By AI agents, Wed Nov 11 2026. No macro, syntax, notation, axiom, sorry.
-/
import Derived.Test.YtfafepmghcobdaaChecked
import GoSem.Claim
import GoSem.ClaimJoined
import GoSem.ClaimMapViews
import Derived.JoinedTies
import Derived.KernelRfl
namespace Go.Proofs.Ytfafepmghcobdaa
/- THE CELL 'sum', in the pinned program and in every row, IS THE sha256 OF THE DUMP (.gsa) THAT YtfafepmghcobdaaProg.lean LOADS. Nothing in Lean hashes anything: it is a label: what it is worth is what the hold of that sum in a sandbox is worth. -/
noncomputable def Try.pinned : Pinned := { name := "ytfafepmghcobdaa", sum := "b746e0d42cfaf95ea0edb0ab1143e8b994246d3c4126019ca8f83abe4237b4e0", checked := Try.checked }
namespace Rows
def none {H : Type} : Left H := { results := [], args := [] }

/-- 'caissonlaw17.PduBack': WHATEVER THE INPUT: true; the input reads as it did. -/
def pduBackSpec : ChangeSpec := { name := "pduBack", fn := fun _ => fun
  | [d1, d2, d3] => { results := [.lit (.bool true)], args := [d1, d2, d3] }
  | _ => none }
def pduBackRow : OpenClaim := { program := "ytfafepmghcobdaa", sum := "b746e0d42cfaf95ea0edb0ab1143e8b994246d3c4126019ca8f83abe4237b4e0", func := "caisson/caissonlaw17.PduBack", spec := "pduBack", unfollowed := true, recurses := true, apart := false }
def PduBackSaid : Prop := pduBackRow.holds Try.pinned (OpenSpec.ofChange pduBackSpec)

/-- ITS FALSE NEIGHBOUR: 'it returns false'. Refute it at one input. -/
def pduBackWrong : ChangeSpec := { name := "pduBack", fn := fun _ => fun
  | [d1, d2, d3] => { results := [.lit (.bool false)], args := [d1, d2, d3] }
  | _ => none }
def PduBackWrongFalsely : Prop := pduBackRow.holds Try.pinned (OpenSpec.ofChange pduBackWrong)

/-- 'caissonlaw17.PduLength': WHATEVER THE INPUT: true; the input reads as it did. -/
def pduLengthSpec : ChangeSpec := { name := "pduLength", fn := fun _ => fun
  | [d1, d2] => { results := [.lit (.bool true)], args := [d1, d2] }
  | _ => none }
def pduLengthRow : OpenClaim := { program := "ytfafepmghcobdaa", sum := "b746e0d42cfaf95ea0edb0ab1143e8b994246d3c4126019ca8f83abe4237b4e0", func := "caisson/caissonlaw17.PduLength", spec := "pduLength", unfollowed := true, recurses := true, apart := false }
def PduLengthSaid : Prop := pduLengthRow.holds Try.pinned (OpenSpec.ofChange pduLengthSpec)

/-- ITS FALSE NEIGHBOUR: 'it returns false'. Refute it at one input. -/
def pduLengthWrong : ChangeSpec := { name := "pduLength", fn := fun _ => fun
  | [d1, d2] => { results := [.lit (.bool false)], args := [d1, d2] }
  | _ => none }
def PduLengthWrongFalsely : Prop := pduLengthRow.holds Try.pinned (OpenSpec.ofChange pduLengthWrong)

/-- 'caissonlaw17.PduTells': WHATEVER THE INPUT: true; the input reads as it did. -/
def pduTellsSpec : ChangeSpec := { name := "pduTells", fn := fun _ => fun
  | [d1, d2, d3, d4] => { results := [.lit (.bool true)], args := [d1, d2, d3, d4] }
  | _ => none }
def pduTellsRow : OpenClaim := { program := "ytfafepmghcobdaa", sum := "b746e0d42cfaf95ea0edb0ab1143e8b994246d3c4126019ca8f83abe4237b4e0", func := "caisson/caissonlaw17.PduTells", spec := "pduTells", unfollowed := true, recurses := true, apart := false }
def PduTellsSaid : Prop := pduTellsRow.holds Try.pinned (OpenSpec.ofChange pduTellsSpec)

/-- ITS FALSE NEIGHBOUR: 'it returns false'. Refute it at one input. -/
def pduTellsWrong : ChangeSpec := { name := "pduTells", fn := fun _ => fun
  | [d1, d2, d3, d4] => { results := [.lit (.bool false)], args := [d1, d2, d3, d4] }
  | _ => none }
def PduTellsWrongFalsely : Prop := pduTellsRow.holds Try.pinned (OpenSpec.ofChange pduTellsWrong)

/-- 'caissonlaw17.PduReads': WHATEVER THE INPUT: true; the input reads as it did. -/
def pduReadsSpec : ChangeSpec := { name := "pduReads", fn := fun _ => fun
  | [d1, d2] => { results := [.lit (.bool true)], args := [d1, d2] }
  | _ => none }
def pduReadsRow : OpenClaim := { program := "ytfafepmghcobdaa", sum := "b746e0d42cfaf95ea0edb0ab1143e8b994246d3c4126019ca8f83abe4237b4e0", func := "caisson/caissonlaw17.PduReads", spec := "pduReads", unfollowed := true, recurses := true, apart := false }
def PduReadsSaid : Prop := pduReadsRow.holds Try.pinned (OpenSpec.ofChange pduReadsSpec)

/-- ITS FALSE NEIGHBOUR: 'it returns false'. Refute it at one input. -/
def pduReadsWrong : ChangeSpec := { name := "pduReads", fn := fun _ => fun
  | [d1, d2] => { results := [.lit (.bool false)], args := [d1, d2] }
  | _ => none }
def PduReadsWrongFalsely : Prop := pduReadsRow.holds Try.pinned (OpenSpec.ofChange pduReadsWrong)

/-- 'caissonlaw17.PduNil': WHATEVER THE INPUT: true; the input reads as it did. -/
def pduNilSpec : ChangeSpec := { name := "pduNil", fn := fun _ => fun
  | [d] => { results := [.lit (.bool true)], args := [d] }
  | _ => none }
def pduNilRow : OpenClaim := { program := "ytfafepmghcobdaa", sum := "b746e0d42cfaf95ea0edb0ab1143e8b994246d3c4126019ca8f83abe4237b4e0", func := "caisson/caissonlaw17.PduNil", spec := "pduNil", unfollowed := true, recurses := true, apart := false }
def PduNilSaid : Prop := pduNilRow.holds Try.pinned (OpenSpec.ofChange pduNilSpec)

/-- ITS FALSE NEIGHBOUR: 'it returns false'. Refute it at one input. -/
def pduNilWrong : ChangeSpec := { name := "pduNil", fn := fun _ => fun
  | [d] => { results := [.lit (.bool false)], args := [d] }
  | _ => none }
def PduNilWrongFalsely : Prop := pduNilRow.holds Try.pinned (OpenSpec.ofChange pduNilWrong)

/-- 'caissonlaw17.PduPuts': WHATEVER THE INPUT: true; the input reads as it did. -/
def pduPutsSpec : ChangeSpec := { name := "pduPuts", fn := fun _ => fun
  | [d1, d2, d3] => { results := [.lit (.bool true)], args := [d1, d2, d3] }
  | _ => none }
def pduPutsRow : OpenClaim := { program := "ytfafepmghcobdaa", sum := "b746e0d42cfaf95ea0edb0ab1143e8b994246d3c4126019ca8f83abe4237b4e0", func := "caisson/caissonlaw17.PduPuts", spec := "pduPuts", unfollowed := true, recurses := true, apart := false }
def PduPutsSaid : Prop := pduPutsRow.holds Try.pinned (OpenSpec.ofChange pduPutsSpec)

/-- ITS FALSE NEIGHBOUR: 'it returns false'. Refute it at one input. -/
def pduPutsWrong : ChangeSpec := { name := "pduPuts", fn := fun _ => fun
  | [d1, d2, d3] => { results := [.lit (.bool false)], args := [d1, d2, d3] }
  | _ => none }
def PduPutsWrongFalsely : Prop := pduPutsRow.holds Try.pinned (OpenSpec.ofChange pduPutsWrong)

/- THE SECOND FORM. 'bulk': how many values and letters a reading holds, each counted each time it is reached (what is shared counts as often as it is met; a slice's spare places count too). A statement '..UptoSaid' is the law's where the arguments, and the package variables that the reading takes, are together of bulk at most 1048576: NARROWER than '..Said'. Prove '..Said' where nothing that the law and all that it calls make is longer than what came in: it says more and counts as full. Else prove '..UptoSaid'. A law counts once. -/
mutual
def uptoBulk {H : Type} : DataW H → Nat
  | .lit (.string bytes) => bytes.length + 1
  | .lit _ => 1
  | .nil => 1
  | .ptr d => uptoBulk d + 1
  | .slice elems spare => uptoBulkAll elems + uptoBulkAll spare + 1
  | .agg parts => uptoBulkAll parts + 1
  | .iface _ d => uptoBulk d + 1
  | .map entries => uptoBulkEntries entries + 1
  | .held _ => 1
def uptoBulkAll {H : Type} : List (DataW H) → Nat
  | [] => 0
  | d :: r => uptoBulk d + uptoBulkAll r
def uptoBulkEntries {H : Type} : List (Lit × DataW H) → Nat
  | [] => 0
  | x :: r => uptoBulkEntry x + uptoBulkEntries r
def uptoBulkEntry {H : Type} : Lit × DataW H → Nat
  | (.string bytes, d) => bytes.length + uptoBulk d + 1
  | (_, d) => uptoBulk d + 1
 end
def uptoSmall : (H : Type) → List (DataW H) → Bool := fun _ ds => decide (uptoBulkAll ds ≤ 1048576)
def OpenSpec.upto (s : _root_.Go.ChangeSpec) : _root_.Go.OpenSpec := { _root_.Go.OpenSpec.ofChange s with cond := some uptoSmall }

/-- 'caissonlaw17.PduBack', WHERE WHAT IT READS IS OF BULK AT MOST 1048576: true; the input reads as it did. -/
def pduBackUptoRow : OpenClaim := { program := "ytfafepmghcobdaa", sum := "b746e0d42cfaf95ea0edb0ab1143e8b994246d3c4126019ca8f83abe4237b4e0", func := "caisson/caissonlaw17.PduBack", spec := "pduBack", unfollowed := true, recurses := true, apart := false, narrowed := true }
def PduBackUptoSaid : Prop := pduBackUptoRow.holds Try.pinned (OpenSpec.upto pduBackSpec)

/-- 'caissonlaw17.PduLength', WHERE WHAT IT READS IS OF BULK AT MOST 1048576: true; the input reads as it did. -/
def pduLengthUptoRow : OpenClaim := { program := "ytfafepmghcobdaa", sum := "b746e0d42cfaf95ea0edb0ab1143e8b994246d3c4126019ca8f83abe4237b4e0", func := "caisson/caissonlaw17.PduLength", spec := "pduLength", unfollowed := true, recurses := true, apart := false, narrowed := true }
def PduLengthUptoSaid : Prop := pduLengthUptoRow.holds Try.pinned (OpenSpec.upto pduLengthSpec)

/-- 'caissonlaw17.PduTells', WHERE WHAT IT READS IS OF BULK AT MOST 1048576: true; the input reads as it did. -/
def pduTellsUptoRow : OpenClaim := { program := "ytfafepmghcobdaa", sum := "b746e0d42cfaf95ea0edb0ab1143e8b994246d3c4126019ca8f83abe4237b4e0", func := "caisson/caissonlaw17.PduTells", spec := "pduTells", unfollowed := true, recurses := true, apart := false, narrowed := true }
def PduTellsUptoSaid : Prop := pduTellsUptoRow.holds Try.pinned (OpenSpec.upto pduTellsSpec)

/-- 'caissonlaw17.PduReads', WHERE WHAT IT READS IS OF BULK AT MOST 1048576: true; the input reads as it did. -/
def pduReadsUptoRow : OpenClaim := { program := "ytfafepmghcobdaa", sum := "b746e0d42cfaf95ea0edb0ab1143e8b994246d3c4126019ca8f83abe4237b4e0", func := "caisson/caissonlaw17.PduReads", spec := "pduReads", unfollowed := true, recurses := true, apart := false, narrowed := true }
def PduReadsUptoSaid : Prop := pduReadsUptoRow.holds Try.pinned (OpenSpec.upto pduReadsSpec)

/-- 'caissonlaw17.PduNil', WHERE WHAT IT READS IS OF BULK AT MOST 1048576: true; the input reads as it did. -/
def pduNilUptoRow : OpenClaim := { program := "ytfafepmghcobdaa", sum := "b746e0d42cfaf95ea0edb0ab1143e8b994246d3c4126019ca8f83abe4237b4e0", func := "caisson/caissonlaw17.PduNil", spec := "pduNil", unfollowed := true, recurses := true, apart := false, narrowed := true }
def PduNilUptoSaid : Prop := pduNilUptoRow.holds Try.pinned (OpenSpec.upto pduNilSpec)

/-- 'caissonlaw17.PduPuts', WHERE WHAT IT READS IS OF BULK AT MOST 1048576: true; the input reads as it did. -/
def pduPutsUptoRow : OpenClaim := { program := "ytfafepmghcobdaa", sum := "b746e0d42cfaf95ea0edb0ab1143e8b994246d3c4126019ca8f83abe4237b4e0", func := "caisson/caissonlaw17.PduPuts", spec := "pduPuts", unfollowed := true, recurses := true, apart := false, narrowed := true }
def PduPutsUptoSaid : Prop := pduPutsUptoRow.holds Try.pinned (OpenSpec.upto pduPutsSpec)

end Rows
end Go.Proofs.Ytfafepmghcobdaa
