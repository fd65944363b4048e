/-
  No cell of these rows narrows 'for every input' (looked for: loops, veiled, ifaces, maps, wideKeys, modest, calm, conditions, laid).
  DERIVED. THE GIVEN ROWS OF THIS SEAT. 5 by the template 'for every input the law returns true; each argument reads behind the call as it read before'; 0 by the template 'total and deterministic' (their statements: YtoepflfchcoogaaTotals.lean).
  GIVEN WITH THE SEED: the statements are not yours to turn. If you find one false, say at which input.
  Laid BY PROGRAM, IN A SANDBOX (cutbox-rows.mjs): the forced cells as the released guide's own fill.sh prints them over the translation 1bd17505618162ee… (all of the seat's roots in one cut). By AI agents, Wed Nov 11 2026. No macro, syntax, notation, axiom, sorry.
-/
import Derived.Test.YtoepflfchcoogaaChecked
import GoSem.Claim
import GoSem.ClaimJoined
import GoSem.ClaimMapViews
import Derived.JoinedTies
import Derived.KernelRfl
namespace Go.Proofs.Ytoepflfchcoogaa
/- THE CELL 'sum', in the pinned program and in every row, IS THE sha256 OF THE DUMP (.gsa) THAT YtoepflfchcoogaaProg.lean LOADS. Nothing in Lean hashes anything: it is a label: what it is worth is what the hold of that sum in a sandbox is worth. -/
noncomputable def Try.pinned : Pinned := { name := "ytoepflfchcoogaa", sum := "1bd17505618162eeb245de34e05d275d461c232c2fa70834328641fc4beab053", checked := Try.checked }
namespace Rows
def none {H : Type} : Left H := { results := [], args := [] }

/-- 'caissonlaw11.LeaseLater': WHATEVER THE INPUT: true; the input reads as it did. -/
def leaseLaterSpec : ChangeSpec := { name := "leaseLater", fn := fun _ => fun
  | [d1, d2, d3, d4, d5, d6] => { results := [.lit (.bool true)], args := [d1, d2, d3, d4, d5, d6] }
  | _ => none }
def leaseLaterRow : OpenClaim := { program := "ytoepflfchcoogaa", sum := "1bd17505618162eeb245de34e05d275d461c232c2fa70834328641fc4beab053", func := "caisson/caissonlaw11.LeaseLater", spec := "leaseLater", unfollowed := true, recurses := true, apart := false }
def LeaseLaterSaid : Prop := leaseLaterRow.holds Try.pinned (OpenSpec.ofChange leaseLaterSpec)

/-- ITS FALSE NEIGHBOUR: 'it returns false'. Refute it at one input. -/
def leaseLaterWrong : ChangeSpec := { name := "leaseLater", fn := fun _ => fun
  | [d1, d2, d3, d4, d5, d6] => { results := [.lit (.bool false)], args := [d1, d2, d3, d4, d5, d6] }
  | _ => none }
def LeaseLaterWrongFalsely : Prop := leaseLaterRow.holds Try.pinned (OpenSpec.ofChange leaseLaterWrong)

/-- 'caissonlaw11.LeaseHolds': WHATEVER THE INPUT: true; the input reads as it did. -/
def leaseHoldsSpec : ChangeSpec := { name := "leaseHolds", fn := fun _ => fun
  | [d1, d2, d3, d4, d5] => { results := [.lit (.bool true)], args := [d1, d2, d3, d4, d5] }
  | _ => none }
def leaseHoldsRow : OpenClaim := { program := "ytoepflfchcoogaa", sum := "1bd17505618162eeb245de34e05d275d461c232c2fa70834328641fc4beab053", func := "caisson/caissonlaw11.LeaseHolds", spec := "leaseHolds", unfollowed := true, recurses := true, apart := false }
def LeaseHoldsSaid : Prop := leaseHoldsRow.holds Try.pinned (OpenSpec.ofChange leaseHoldsSpec)

/-- ITS FALSE NEIGHBOUR: 'it returns false'. Refute it at one input. -/
def leaseHoldsWrong : ChangeSpec := { name := "leaseHolds", fn := fun _ => fun
  | [d1, d2, d3, d4, d5] => { results := [.lit (.bool false)], args := [d1, d2, d3, d4, d5] }
  | _ => none }
def LeaseHoldsWrongFalsely : Prop := leaseHoldsRow.holds Try.pinned (OpenSpec.ofChange leaseHoldsWrong)

/-- 'caissonlaw11.LeaseReads': WHATEVER THE INPUT: true; the input reads as it did. -/
def leaseReadsSpec : ChangeSpec := { name := "leaseReads", fn := fun _ => fun
  | [d] => { results := [.lit (.bool true)], args := [d] }
  | _ => none }
def leaseReadsRow : OpenClaim := { program := "ytoepflfchcoogaa", sum := "1bd17505618162eeb245de34e05d275d461c232c2fa70834328641fc4beab053", func := "caisson/caissonlaw11.LeaseReads", spec := "leaseReads", unfollowed := true, recurses := true, apart := false }
def LeaseReadsSaid : Prop := leaseReadsRow.holds Try.pinned (OpenSpec.ofChange leaseReadsSpec)

/-- ITS FALSE NEIGHBOUR: 'it returns false'. Refute it at one input. -/
def leaseReadsWrong : ChangeSpec := { name := "leaseReads", fn := fun _ => fun
  | [d] => { results := [.lit (.bool false)], args := [d] }
  | _ => none }
def LeaseReadsWrongFalsely : Prop := leaseReadsRow.holds Try.pinned (OpenSpec.ofChange leaseReadsWrong)

/-- 'caissonlaw11.LeaseOnce': WHATEVER THE INPUT: true; the input reads as it did. -/
def leaseOnceSpec : ChangeSpec := { name := "leaseOnce", fn := fun _ => fun
  | [d] => { results := [.lit (.bool true)], args := [d] }
  | _ => none }
def leaseOnceRow : OpenClaim := { program := "ytoepflfchcoogaa", sum := "1bd17505618162eeb245de34e05d275d461c232c2fa70834328641fc4beab053", func := "caisson/caissonlaw11.LeaseOnce", spec := "leaseOnce", unfollowed := true, recurses := true, apart := false }
def LeaseOnceSaid : Prop := leaseOnceRow.holds Try.pinned (OpenSpec.ofChange leaseOnceSpec)

/-- ITS FALSE NEIGHBOUR: 'it returns false'. Refute it at one input. -/
def leaseOnceWrong : ChangeSpec := { name := "leaseOnce", fn := fun _ => fun
  | [d] => { results := [.lit (.bool false)], args := [d] }
  | _ => none }
def LeaseOnceWrongFalsely : Prop := leaseOnceRow.holds Try.pinned (OpenSpec.ofChange leaseOnceWrong)

/-- 'caissonlaw11.LeaseAlone': WHATEVER THE INPUT: true; the input reads as it did. -/
def leaseAloneSpec : ChangeSpec := { name := "leaseAlone", fn := fun _ => fun
  | [d1, d2, d3, d4, d5] => { results := [.lit (.bool true)], args := [d1, d2, d3, d4, d5] }
  | _ => none }
def leaseAloneRow : OpenClaim := { program := "ytoepflfchcoogaa", sum := "1bd17505618162eeb245de34e05d275d461c232c2fa70834328641fc4beab053", func := "caisson/caissonlaw11.LeaseAlone", spec := "leaseAlone", unfollowed := true, recurses := true, apart := false }
def LeaseAloneSaid : Prop := leaseAloneRow.holds Try.pinned (OpenSpec.ofChange leaseAloneSpec)

/-- ITS FALSE NEIGHBOUR: 'it returns false'. Refute it at one input. -/
def leaseAloneWrong : ChangeSpec := { name := "leaseAlone", fn := fun _ => fun
  | [d1, d2, d3, d4, d5] => { results := [.lit (.bool false)], args := [d1, d2, d3, d4, d5] }
  | _ => none }
def LeaseAloneWrongFalsely : Prop := leaseAloneRow.holds Try.pinned (OpenSpec.ofChange leaseAloneWrong)

/- THE SECOND FORM. 'bulk': how many values and letters a reading holds, each counted each time it is reached (what is shared counts as often as it is met; a slice's spare places count too). A statement '..UptoSaid' is the law's where the arguments, and the package variables that the reading takes, are together of bulk at most 1048576: NARROWER than '..Said'. Prove '..Said' where nothing that the law and all that it calls make is longer than what came in: it says more and counts as full. Else prove '..UptoSaid'. A law counts once. -/
mutual
def uptoBulk {H : Type} : DataW H → Nat
  | .lit (.string bytes) => bytes.length + 1
  | .lit _ => 1
  | .nil => 1
  | .ptr d => uptoBulk d + 1
  | .slice elems spare => uptoBulkAll elems + uptoBulkAll spare + 1
  | .agg parts => uptoBulkAll parts + 1
  | .iface _ d => uptoBulk d + 1
  | .map entries => uptoBulkEntries entries + 1
  | .held _ => 1
def uptoBulkAll {H : Type} : List (DataW H) → Nat
  | [] => 0
  | d :: r => uptoBulk d + uptoBulkAll r
def uptoBulkEntries {H : Type} : List (Lit × DataW H) → Nat
  | [] => 0
  | x :: r => uptoBulkEntry x + uptoBulkEntries r
def uptoBulkEntry {H : Type} : Lit × DataW H → Nat
  | (.string bytes, d) => bytes.length + uptoBulk d + 1
  | (_, d) => uptoBulk d + 1
 end
def uptoSmall : (H : Type) → List (DataW H) → Bool := fun _ ds => decide (uptoBulkAll ds ≤ 1048576)
def OpenSpec.upto (s : _root_.Go.ChangeSpec) : _root_.Go.OpenSpec := { _root_.Go.OpenSpec.ofChange s with cond := some uptoSmall }

/-- 'caissonlaw11.LeaseLater', WHERE WHAT IT READS IS OF BULK AT MOST 1048576: true; the input reads as it did. -/
def leaseLaterUptoRow : OpenClaim := { program := "ytoepflfchcoogaa", sum := "1bd17505618162eeb245de34e05d275d461c232c2fa70834328641fc4beab053", func := "caisson/caissonlaw11.LeaseLater", spec := "leaseLater", unfollowed := true, recurses := true, apart := false, narrowed := true }
def LeaseLaterUptoSaid : Prop := leaseLaterUptoRow.holds Try.pinned (OpenSpec.upto leaseLaterSpec)

/-- 'caissonlaw11.LeaseHolds', WHERE WHAT IT READS IS OF BULK AT MOST 1048576: true; the input reads as it did. -/
def leaseHoldsUptoRow : OpenClaim := { program := "ytoepflfchcoogaa", sum := "1bd17505618162eeb245de34e05d275d461c232c2fa70834328641fc4beab053", func := "caisson/caissonlaw11.LeaseHolds", spec := "leaseHolds", unfollowed := true, recurses := true, apart := false, narrowed := true }
def LeaseHoldsUptoSaid : Prop := leaseHoldsUptoRow.holds Try.pinned (OpenSpec.upto leaseHoldsSpec)

/-- 'caissonlaw11.LeaseReads', WHERE WHAT IT READS IS OF BULK AT MOST 1048576: true; the input reads as it did. -/
def leaseReadsUptoRow : OpenClaim := { program := "ytoepflfchcoogaa", sum := "1bd17505618162eeb245de34e05d275d461c232c2fa70834328641fc4beab053", func := "caisson/caissonlaw11.LeaseReads", spec := "leaseReads", unfollowed := true, recurses := true, apart := false, narrowed := true }
def LeaseReadsUptoSaid : Prop := leaseReadsUptoRow.holds Try.pinned (OpenSpec.upto leaseReadsSpec)

/-- 'caissonlaw11.LeaseOnce', WHERE WHAT IT READS IS OF BULK AT MOST 1048576: true; the input reads as it did. -/
def leaseOnceUptoRow : OpenClaim := { program := "ytoepflfchcoogaa", sum := "1bd17505618162eeb245de34e05d275d461c232c2fa70834328641fc4beab053", func := "caisson/caissonlaw11.LeaseOnce", spec := "leaseOnce", unfollowed := true, recurses := true, apart := false, narrowed := true }
def LeaseOnceUptoSaid : Prop := leaseOnceUptoRow.holds Try.pinned (OpenSpec.upto leaseOnceSpec)

/-- 'caissonlaw11.LeaseAlone', WHERE WHAT IT READS IS OF BULK AT MOST 1048576: true; the input reads as it did. -/
def leaseAloneUptoRow : OpenClaim := { program := "ytoepflfchcoogaa", sum := "1bd17505618162eeb245de34e05d275d461c232c2fa70834328641fc4beab053", func := "caisson/caissonlaw11.LeaseAlone", spec := "leaseAlone", unfollowed := true, recurses := true, apart := false, narrowed := true }
def LeaseAloneUptoSaid : Prop := leaseAloneUptoRow.holds Try.pinned (OpenSpec.upto leaseAloneSpec)

end Rows
end Go.Proofs.Ytoepflfchcoogaa
