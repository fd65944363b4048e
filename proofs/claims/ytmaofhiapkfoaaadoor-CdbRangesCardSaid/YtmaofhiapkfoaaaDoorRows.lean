/-
  NARROWER THAN 'FOR EVERY INPUT', by the rows' own cells (each row's printed sentence says how): CdbChanged: laid · CdbSizes: laid · CdbLong: laid · CdbParses: laid · CdbKeys: laid · CdbRanges: laid.
  DERIVED. THE GIVEN ROWS OF THIS SEAT. 6 by the template 'for every input the law returns true; each argument reads behind the call as it read before'; 0 by the template 'total and deterministic' (their statements: YtmaofhiapkfoaaaDoorTotals.lean).
  GIVEN WITH THE SEED: the statements are not yours to turn. If you find one false, say at which input.
  Laid BY PROGRAM, IN A SANDBOX (cutbox-rows.mjs): the forced cells as the released guide's own fill.sh prints them over the translation ecc637f47a79baf9… (all of the seat's roots in one cut). By AI agents, Wed Nov 11 2026. No macro, syntax, notation, axiom, sorry.
-/
import Derived.Test.YtmaofhiapkfoaaaDoorChecked
import GoSem.Claim
import GoSem.ClaimJoined
import GoSem.ClaimMapViews
import Derived.JoinedTies
import Derived.KernelRfl
namespace Go.Proofs.YtmaofhiapkfoaaaDoor
/- THE CELL 'sum', in the pinned program and in every row, IS THE sha256 OF THE DUMP (.gsa) THAT YtmaofhiapkfoaaaDoorProg.lean LOADS. Nothing in Lean hashes anything: it is a label: what it is worth is what the hold of that sum in a sandbox is worth. -/
noncomputable def Tryd.pinned : Pinned := { name := "ytmaofhiapkfoaaadoor", sum := "ecc637f47a79baf90a8152fb0181d2cb25e667fb14dfce2ead192a262c037ab8", checked := Tryd.checked }
namespace Rows
def none {H : Type} : Left H := { results := [], args := [] }

/- WHAT THE LISTED PACKAGE-LEVEL VARIABLES READ AS WHEN THE CALL BEGINS. Each datum BY PROGRAM (the guide's laid-datum.mjs) off the statement by which the dump's own 'gosem.cut.vars' lays the variable. In a bare row this is a premise. The card (YtmaofhiapkfoaaaDoorCards.lean) ties it to the program's text. -/
def laid_caisson_cdb_rows {H : Type} : DataW H := .agg [.agg [.lit (.int .i64 0), .agg [.agg [.lit (.int .i64 0), .lit (.int .i64 0), .lit (.int .i64 0)], .agg [.lit (.int .i64 0), .lit (.int .i64 0), .lit (.int .i64 0)], .agg [.lit (.int .i64 0), .lit (.int .i64 0), .lit (.int .i64 0)], .agg [.lit (.int .i64 0), .lit (.int .i64 0), .lit (.int .i64 0)], .agg [.lit (.int .i64 0), .lit (.int .i64 0), .lit (.int .i64 0)], .agg [.lit (.int .i64 0), .lit (.int .i64 0), .lit (.int .i64 0)]]], .agg [.lit (.int .i64 37), .agg [.agg [.lit (.int .i64 0), .lit (.int .i64 0), .lit (.int .i64 0)], .agg [.lit (.int .i64 0), .lit (.int .i64 0), .lit (.int .i64 0)], .agg [.lit (.int .i64 0), .lit (.int .i64 0), .lit (.int .i64 0)], .agg [.lit (.int .i64 0), .lit (.int .i64 0), .lit (.int .i64 0)], .agg [.lit (.int .i64 0), .lit (.int .i64 0), .lit (.int .i64 0)], .agg [.lit (.int .i64 0), .lit (.int .i64 0), .lit (.int .i64 0)]]], .agg [.lit (.int .i64 3), .agg [.agg [.lit (.int .i64 0), .lit (.int .i64 0), .lit (.int .i64 0)], .agg [.lit (.int .i64 0), .lit (.int .i64 0), .lit (.int .i64 0)], .agg [.lit (.int .i64 0), .lit (.int .i64 0), .lit (.int .i64 0)], .agg [.lit (.int .i64 0), .lit (.int .i64 0), .lit (.int .i64 0)], .agg [.lit (.int .i64 0), .lit (.int .i64 0), .lit (.int .i64 0)], .agg [.lit (.int .i64 4), .lit (.int .i64 1), .lit (.int .i64 0)]]], .agg [.lit (.int .i64 18), .agg [.agg [.lit (.int .i64 0), .lit (.int .i64 0), .lit (.int .i64 0)], .agg [.lit (.int .i64 1), .lit (.int .i64 1), .lit (.int .i64 1)], .agg [.lit (.int .i64 2), .lit (.int .i64 1), .lit (.int .i64 0)], .agg [.lit (.int .i64 0), .lit (.int .i64 0), .lit (.int .i64 0)], .agg [.lit (.int .i64 0), .lit (.int .i64 0), .lit (.int .i64 0)], .agg [.lit (.int .i64 3), .lit (.int .i64 2), .lit (.int .i64 0)]]], .agg [.lit (.int .i64 40), .agg [.agg [.lit (.int .i64 0), .lit (.int .i64 0), .lit (.int .i64 0)], .agg [.lit (.int .i64 0), .lit (.int .i64 0), .lit (.int .i64 0)], .agg [.lit (.int .i64 0), .lit (.int .i64 0), .lit (.int .i64 0)], .agg [.lit (.int .i64 0), .lit (.int .i64 0), .lit (.int .i64 0)], .agg [.lit (.int .i64 2), .lit (.int .i64 4), .lit (.int .i64 0)], .agg [.lit (.int .i64 7), .lit (.int .i64 2), .lit (.int .i64 0)]]], .agg [.lit (.int .i64 42), .agg [.agg [.lit (.int .i64 0), .lit (.int .i64 0), .lit (.int .i64 0)], .agg [.lit (.int .i64 0), .lit (.int .i64 0), .lit (.int .i64 0)], .agg [.lit (.int .i64 0), .lit (.int .i64 0), .lit (.int .i64 0)], .agg [.lit (.int .i64 0), .lit (.int .i64 0), .lit (.int .i64 0)], .agg [.lit (.int .i64 2), .lit (.int .i64 4), .lit (.int .i64 0)], .agg [.lit (.int .i64 7), .lit (.int .i64 2), .lit (.int .i64 0)]]], .agg [.lit (.int .i64 53), .agg [.agg [.lit (.int .i64 0), .lit (.int .i64 0), .lit (.int .i64 0)], .agg [.lit (.int .i64 0), .lit (.int .i64 0), .lit (.int .i64 0)], .agg [.lit (.int .i64 0), .lit (.int .i64 0), .lit (.int .i64 0)], .agg [.lit (.int .i64 0), .lit (.int .i64 0), .lit (.int .i64 0)], .agg [.lit (.int .i64 2), .lit (.int .i64 4), .lit (.int .i64 0)], .agg [.lit (.int .i64 7), .lit (.int .i64 2), .lit (.int .i64 0)]]], .agg [.lit (.int .i64 66), .agg [.agg [.lit (.int .i64 0), .lit (.int .i64 0), .lit (.int .i64 0)], .agg [.lit (.int .i64 0), .lit (.int .i64 0), .lit (.int .i64 0)], .agg [.lit (.int .i64 0), .lit (.int .i64 0), .lit (.int .i64 0)], .agg [.lit (.int .i64 0), .lit (.int .i64 0), .lit (.int .i64 0)], .agg [.lit (.int .i64 0), .lit (.int .i64 0), .lit (.int .i64 0)], .agg [.lit (.int .i64 7), .lit (.int .i64 2), .lit (.int .i64 0)]]], .agg [.lit (.int .i64 94), .agg [.agg [.lit (.int .i64 1), .lit (.int .i64 1), .lit (.int .i64 5)], .agg [.lit (.int .i64 0), .lit (.int .i64 0), .lit (.int .i64 0)], .agg [.lit (.int .i64 0), .lit (.int .i64 0), .lit (.int .i64 0)], .agg [.lit (.int .i64 0), .lit (.int .i64 0), .lit (.int .i64 0)], .agg [.lit (.int .i64 0), .lit (.int .i64 0), .lit (.int .i64 0)], .agg [.lit (.int .i64 7), .lit (.int .i64 2), .lit (.int .i64 0)]]], .agg [.lit (.int .i64 95), .agg [.agg [.lit (.int .i64 1), .lit (.int .i64 1), .lit (.int .i64 5)], .agg [.lit (.int .i64 0), .lit (.int .i64 0), .lit (.int .i64 0)], .agg [.lit (.int .i64 0), .lit (.int .i64 0), .lit (.int .i64 0)], .agg [.lit (.int .i64 2), .lit (.int .i64 1), .lit (.int .i64 4)], .agg [.lit (.int .i64 0), .lit (.int .i64 0), .lit (.int .i64 0)], .agg [.lit (.int .i64 5), .lit (.int .i64 4), .lit (.int .i64 0)]]], .agg [.lit (.int .i64 136), .agg [.agg [.lit (.int .i64 0), .lit (.int .i64 0), .lit (.int .i64 0)], .agg [.lit (.int .i64 0), .lit (.int .i64 0), .lit (.int .i64 0)], .agg [.lit (.int .i64 0), .lit (.int .i64 0), .lit (.int .i64 0)], .agg [.lit (.int .i64 0), .lit (.int .i64 0), .lit (.int .i64 0)], .agg [.lit (.int .i64 2), .lit (.int .i64 8), .lit (.int .i64 0)], .agg [.lit (.int .i64 10), .lit (.int .i64 4), .lit (.int .i64 0)]]], .agg [.lit (.int .i64 138), .agg [.agg [.lit (.int .i64 0), .lit (.int .i64 0), .lit (.int .i64 0)], .agg [.lit (.int .i64 0), .lit (.int .i64 0), .lit (.int .i64 0)], .agg [.lit (.int .i64 0), .lit (.int .i64 0), .lit (.int .i64 0)], .agg [.lit (.int .i64 0), .lit (.int .i64 0), .lit (.int .i64 0)], .agg [.lit (.int .i64 2), .lit (.int .i64 8), .lit (.int .i64 0)], .agg [.lit (.int .i64 10), .lit (.int .i64 4), .lit (.int .i64 0)]]], .agg [.lit (.int .i64 160), .agg [.agg [.lit (.int .i64 0), .lit (.int .i64 0), .lit (.int .i64 0)], .agg [.lit (.int .i64 0), .lit (.int .i64 0), .lit (.int .i64 0)], .agg [.lit (.int .i64 2), .lit (.int .i64 1), .lit (.int .i64 0)], .agg [.lit (.int .i64 0), .lit (.int .i64 0), .lit (.int .i64 0)], .agg [.lit (.int .i64 0), .lit (.int .i64 0), .lit (.int .i64 0)], .agg [.lit (.int .i64 6), .lit (.int .i64 4), .lit (.int .i64 0)]]], .agg [.lit (.int .i64 163), .agg [.agg [.lit (.int .i64 1), .lit (.int .i64 1), .lit (.int .i64 5)], .agg [.lit (.int .i64 0), .lit (.int .i64 0), .lit (.int .i64 0)], .agg [.lit (.int .i64 0), .lit (.int .i64 0), .lit (.int .i64 0)], .agg [.lit (.int .i64 0), .lit (.int .i64 0), .lit (.int .i64 0)], .agg [.lit (.int .i64 0), .lit (.int .i64 0), .lit (.int .i64 0)], .agg [.lit (.int .i64 6), .lit (.int .i64 4), .lit (.int .i64 0)]]]]
def laid_caisson_cdb_sizes {H : Type} : DataW H := .agg [.lit (.int .i64 6), .lit (.int .i64 10), .lit (.int .i64 10), .lit (.int .i64 0), .lit (.int .i64 16), .lit (.int .i64 12), .lit (.int .i64 0), .lit (.int .i64 0)]

/-- 'caissonlaw15.CdbChanged': WHATEVER THE INPUT: true; the input reads as it did. -/
def cdbChangedSpec : ChangeSpec := { name := "cdbChanged", fn := fun _ => fun
  | [d1, d2, d3] => { results := [.lit (.bool true)], args := [d1, d2, d3] }
  | _ => none }
def cdbChangedRow : OpenClaim := { program := "ytmaofhiapkfoaaadoor", sum := "ecc637f47a79baf90a8152fb0181d2cb25e667fb14dfce2ead192a262c037ab8", func := "caisson/caissonlaw15.CdbChanged", spec := "cdbChanged", named := ["caisson/cdb.rows"], apart := false, laid := [("caisson/cdb.rows", laid_caisson_cdb_rows)] }
def CdbChangedSaid : Prop := cdbChangedRow.holds Tryd.pinned (OpenSpec.ofChange cdbChangedSpec)

/-- ITS FALSE NEIGHBOUR: 'it returns false'. Refute it at one input. -/
def cdbChangedWrong : ChangeSpec := { name := "cdbChanged", fn := fun _ => fun
  | [d1, d2, d3] => { results := [.lit (.bool false)], args := [d1, d2, d3] }
  | _ => none }
def CdbChangedWrongFalsely : Prop := cdbChangedRow.holds Tryd.pinned (OpenSpec.ofChange cdbChangedWrong)

/-- 'caissonlaw15.CdbSizes': WHATEVER THE INPUT: true; the input reads as it did. -/
def cdbSizesSpec : ChangeSpec := { name := "cdbSizes", fn := fun _ => fun
  | [d1, d2] => { results := [.lit (.bool true)], args := [d1, d2] }
  | _ => none }
def cdbSizesRow : OpenClaim := { program := "ytmaofhiapkfoaaadoor", sum := "ecc637f47a79baf90a8152fb0181d2cb25e667fb14dfce2ead192a262c037ab8", func := "caisson/caissonlaw15.CdbSizes", spec := "cdbSizes", named := ["caisson/cdb.sizes", "caisson/cdb.rows"], apart := false, laid := [("caisson/cdb.rows", laid_caisson_cdb_rows), ("caisson/cdb.sizes", laid_caisson_cdb_sizes)] }
def CdbSizesSaid : Prop := cdbSizesRow.holds Tryd.pinned (OpenSpec.ofChange cdbSizesSpec)

/-- ITS FALSE NEIGHBOUR: 'it returns false'. Refute it at one input. -/
def cdbSizesWrong : ChangeSpec := { name := "cdbSizes", fn := fun _ => fun
  | [d1, d2] => { results := [.lit (.bool false)], args := [d1, d2] }
  | _ => none }
def CdbSizesWrongFalsely : Prop := cdbSizesRow.holds Tryd.pinned (OpenSpec.ofChange cdbSizesWrong)

/-- 'caissonlaw15.CdbLong': WHATEVER THE INPUT: true; the input reads as it did. -/
def cdbLongSpec : ChangeSpec := { name := "cdbLong", fn := fun _ => fun
  | [d1, d2, d3] => { results := [.lit (.bool true)], args := [d1, d2, d3] }
  | _ => none }
def cdbLongRow : OpenClaim := { program := "ytmaofhiapkfoaaadoor", sum := "ecc637f47a79baf90a8152fb0181d2cb25e667fb14dfce2ead192a262c037ab8", func := "caisson/caissonlaw15.CdbLong", spec := "cdbLong", named := ["caisson/cdb.rows"], apart := false, laid := [("caisson/cdb.rows", laid_caisson_cdb_rows)] }
def CdbLongSaid : Prop := cdbLongRow.holds Tryd.pinned (OpenSpec.ofChange cdbLongSpec)

/-- ITS FALSE NEIGHBOUR: 'it returns false'. Refute it at one input. -/
def cdbLongWrong : ChangeSpec := { name := "cdbLong", fn := fun _ => fun
  | [d1, d2, d3] => { results := [.lit (.bool false)], args := [d1, d2, d3] }
  | _ => none }
def CdbLongWrongFalsely : Prop := cdbLongRow.holds Tryd.pinned (OpenSpec.ofChange cdbLongWrong)

/-- 'caissonlaw15.CdbParses': WHATEVER THE INPUT: true; the input reads as it did. -/
def cdbParsesSpec : ChangeSpec := { name := "cdbParses", fn := fun _ => fun
  | [d1, d2] => { results := [.lit (.bool true)], args := [d1, d2] }
  | _ => none }
def cdbParsesRow : OpenClaim := { program := "ytmaofhiapkfoaaadoor", sum := "ecc637f47a79baf90a8152fb0181d2cb25e667fb14dfce2ead192a262c037ab8", func := "caisson/caissonlaw15.CdbParses", spec := "cdbParses", named := ["caisson/cdb.rows", "caisson/cdb.sizes"], apart := false, laid := [("caisson/cdb.rows", laid_caisson_cdb_rows), ("caisson/cdb.sizes", laid_caisson_cdb_sizes)] }
def CdbParsesSaid : Prop := cdbParsesRow.holds Tryd.pinned (OpenSpec.ofChange cdbParsesSpec)

/-- ITS FALSE NEIGHBOUR: 'it returns false'. Refute it at one input. -/
def cdbParsesWrong : ChangeSpec := { name := "cdbParses", fn := fun _ => fun
  | [d1, d2] => { results := [.lit (.bool false)], args := [d1, d2] }
  | _ => none }
def CdbParsesWrongFalsely : Prop := cdbParsesRow.holds Tryd.pinned (OpenSpec.ofChange cdbParsesWrong)

/-- 'caissonlaw15.CdbKeys': WHATEVER THE INPUT: true; the input reads as it did. -/
def cdbKeysSpec : ChangeSpec := { name := "cdbKeys", fn := fun _ => fun
  | [d1, d2, d3] => { results := [.lit (.bool true)], args := [d1, d2, d3] }
  | _ => none }
def cdbKeysRow : OpenClaim := { program := "ytmaofhiapkfoaaadoor", sum := "ecc637f47a79baf90a8152fb0181d2cb25e667fb14dfce2ead192a262c037ab8", func := "caisson/caissonlaw15.CdbKeys", spec := "cdbKeys", named := ["caisson/cdb.rows"], apart := false, laid := [("caisson/cdb.rows", laid_caisson_cdb_rows)] }
def CdbKeysSaid : Prop := cdbKeysRow.holds Tryd.pinned (OpenSpec.ofChange cdbKeysSpec)

/-- ITS FALSE NEIGHBOUR: 'it returns false'. Refute it at one input. -/
def cdbKeysWrong : ChangeSpec := { name := "cdbKeys", fn := fun _ => fun
  | [d1, d2, d3] => { results := [.lit (.bool false)], args := [d1, d2, d3] }
  | _ => none }
def CdbKeysWrongFalsely : Prop := cdbKeysRow.holds Tryd.pinned (OpenSpec.ofChange cdbKeysWrong)

/-- 'caissonlaw15.CdbRanges': WHATEVER THE INPUT: true; the input reads as it did. -/
def cdbRangesSpec : ChangeSpec := { name := "cdbRanges", fn := fun _ => fun
  | [d1, d2] => { results := [.lit (.bool true)], args := [d1, d2] }
  | _ => none }
def cdbRangesRow : OpenClaim := { program := "ytmaofhiapkfoaaadoor", sum := "ecc637f47a79baf90a8152fb0181d2cb25e667fb14dfce2ead192a262c037ab8", func := "caisson/caissonlaw15.CdbRanges", spec := "cdbRanges", named := ["caisson/cdb.rows"], apart := false, laid := [("caisson/cdb.rows", laid_caisson_cdb_rows)] }
def CdbRangesSaid : Prop := cdbRangesRow.holds Tryd.pinned (OpenSpec.ofChange cdbRangesSpec)

/-- ITS FALSE NEIGHBOUR: 'it returns false'. Refute it at one input. -/
def cdbRangesWrong : ChangeSpec := { name := "cdbRanges", fn := fun _ => fun
  | [d1, d2] => { results := [.lit (.bool false)], args := [d1, d2] }
  | _ => none }
def CdbRangesWrongFalsely : Prop := cdbRangesRow.holds Tryd.pinned (OpenSpec.ofChange cdbRangesWrong)

/- THE SECOND FORM. 'bulk': how many values and letters a reading holds, each counted each time it is reached (what is shared counts as often as it is met; a slice's spare places count too). A statement '..UptoSaid' is the law's where the arguments, and the package variables that the reading takes, are together of bulk at most 1048576: NARROWER than '..Said'. Prove '..Said' where nothing that the law and all that it calls make is longer than what came in: it says more and counts as full. Else prove '..UptoSaid'. A law counts once. -/
mutual
def uptoBulk {H : Type} : DataW H → Nat
  | .lit (.string bytes) => bytes.length + 1
  | .lit _ => 1
  | .nil => 1
  | .ptr d => uptoBulk d + 1
  | .slice elems spare => uptoBulkAll elems + uptoBulkAll spare + 1
  | .agg parts => uptoBulkAll parts + 1
  | .iface _ d => uptoBulk d + 1
  | .map entries => uptoBulkEntries entries + 1
  | .held _ => 1
def uptoBulkAll {H : Type} : List (DataW H) → Nat
  | [] => 0
  | d :: r => uptoBulk d + uptoBulkAll r
def uptoBulkEntries {H : Type} : List (Lit × DataW H) → Nat
  | [] => 0
  | x :: r => uptoBulkEntry x + uptoBulkEntries r
def uptoBulkEntry {H : Type} : Lit × DataW H → Nat
  | (.string bytes, d) => bytes.length + uptoBulk d + 1
  | (_, d) => uptoBulk d + 1
 end
def uptoSmall : (H : Type) → List (DataW H) → Bool := fun _ ds => decide (uptoBulkAll ds ≤ 1048576)
def OpenSpec.upto (s : _root_.Go.ChangeSpec) : _root_.Go.OpenSpec := { _root_.Go.OpenSpec.ofChange s with cond := some uptoSmall }

/-- 'caissonlaw15.CdbChanged', WHERE WHAT IT READS IS OF BULK AT MOST 1048576: true; the input reads as it did. -/
def cdbChangedUptoRow : OpenClaim := { program := "ytmaofhiapkfoaaadoor", sum := "ecc637f47a79baf90a8152fb0181d2cb25e667fb14dfce2ead192a262c037ab8", func := "caisson/caissonlaw15.CdbChanged", spec := "cdbChanged", named := ["caisson/cdb.rows"], apart := false, laid := [("caisson/cdb.rows", laid_caisson_cdb_rows)], narrowed := true }
def CdbChangedUptoSaid : Prop := cdbChangedUptoRow.holds Tryd.pinned (OpenSpec.upto cdbChangedSpec)

/-- 'caissonlaw15.CdbSizes', WHERE WHAT IT READS IS OF BULK AT MOST 1048576: true; the input reads as it did. -/
def cdbSizesUptoRow : OpenClaim := { program := "ytmaofhiapkfoaaadoor", sum := "ecc637f47a79baf90a8152fb0181d2cb25e667fb14dfce2ead192a262c037ab8", func := "caisson/caissonlaw15.CdbSizes", spec := "cdbSizes", named := ["caisson/cdb.sizes", "caisson/cdb.rows"], apart := false, laid := [("caisson/cdb.rows", laid_caisson_cdb_rows), ("caisson/cdb.sizes", laid_caisson_cdb_sizes)], narrowed := true }
def CdbSizesUptoSaid : Prop := cdbSizesUptoRow.holds Tryd.pinned (OpenSpec.upto cdbSizesSpec)

/-- 'caissonlaw15.CdbLong', WHERE WHAT IT READS IS OF BULK AT MOST 1048576: true; the input reads as it did. -/
def cdbLongUptoRow : OpenClaim := { program := "ytmaofhiapkfoaaadoor", sum := "ecc637f47a79baf90a8152fb0181d2cb25e667fb14dfce2ead192a262c037ab8", func := "caisson/caissonlaw15.CdbLong", spec := "cdbLong", named := ["caisson/cdb.rows"], apart := false, laid := [("caisson/cdb.rows", laid_caisson_cdb_rows)], narrowed := true }
def CdbLongUptoSaid : Prop := cdbLongUptoRow.holds Tryd.pinned (OpenSpec.upto cdbLongSpec)

/-- 'caissonlaw15.CdbParses', WHERE WHAT IT READS IS OF BULK AT MOST 1048576: true; the input reads as it did. -/
def cdbParsesUptoRow : OpenClaim := { program := "ytmaofhiapkfoaaadoor", sum := "ecc637f47a79baf90a8152fb0181d2cb25e667fb14dfce2ead192a262c037ab8", func := "caisson/caissonlaw15.CdbParses", spec := "cdbParses", named := ["caisson/cdb.rows", "caisson/cdb.sizes"], apart := false, laid := [("caisson/cdb.rows", laid_caisson_cdb_rows), ("caisson/cdb.sizes", laid_caisson_cdb_sizes)], narrowed := true }
def CdbParsesUptoSaid : Prop := cdbParsesUptoRow.holds Tryd.pinned (OpenSpec.upto cdbParsesSpec)

/-- 'caissonlaw15.CdbKeys', WHERE WHAT IT READS IS OF BULK AT MOST 1048576: true; the input reads as it did. -/
def cdbKeysUptoRow : OpenClaim := { program := "ytmaofhiapkfoaaadoor", sum := "ecc637f47a79baf90a8152fb0181d2cb25e667fb14dfce2ead192a262c037ab8", func := "caisson/caissonlaw15.CdbKeys", spec := "cdbKeys", named := ["caisson/cdb.rows"], apart := false, laid := [("caisson/cdb.rows", laid_caisson_cdb_rows)], narrowed := true }
def CdbKeysUptoSaid : Prop := cdbKeysUptoRow.holds Tryd.pinned (OpenSpec.upto cdbKeysSpec)

/-- 'caissonlaw15.CdbRanges', WHERE WHAT IT READS IS OF BULK AT MOST 1048576: true; the input reads as it did. -/
def cdbRangesUptoRow : OpenClaim := { program := "ytmaofhiapkfoaaadoor", sum := "ecc637f47a79baf90a8152fb0181d2cb25e667fb14dfce2ead192a262c037ab8", func := "caisson/caissonlaw15.CdbRanges", spec := "cdbRanges", named := ["caisson/cdb.rows"], apart := false, laid := [("caisson/cdb.rows", laid_caisson_cdb_rows)], narrowed := true }
def CdbRangesUptoSaid : Prop := cdbRangesUptoRow.holds Tryd.pinned (OpenSpec.upto cdbRangesSpec)

end Rows
end Go.Proofs.YtmaofhiapkfoaaaDoor
