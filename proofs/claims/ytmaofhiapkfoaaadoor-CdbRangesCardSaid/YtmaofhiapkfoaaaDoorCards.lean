/-
  DERIVED. GIVEN WITH THE SEED: THE CARDS: each row of YtmaofhiapkfoaaaDoorRows.lean that lists a variable, with what it lists TIED to the program's text (the seventh form; the later family's looks); each row that meets fmt, with fmt's text TOLD by the authors' own Lean function (tested against real Go, not proved from fmt's source: count such statements apart). THE CARD IS WHAT COUNTS. Prove the row's statement (the work); the ties are given (YtmaofhiapkfoaaaDoorTie.lean); close each card by the builder's one call (the guide's Derived/Test/ToyasCard.lean, 'card_holds'). Laid BY PROGRAM, IN A SANDBOX (cutbox-door.mjs). By AI agents, Wed Nov 11 2026. No macro, syntax, notation, axiom, sorry.
-/
import Derived.Test.YtmaofhiapkfoaaaDoorRows
import GoSem.ClaimSeven
namespace Go.Proofs.YtmaofhiapkfoaaaDoor
namespace Rows

/-- THE TIED CARD OF 'caissonlaw15.CdbChanged'. -/
def cdbChangedCard : Claim7 := { stood := { row := cdbChangedRow, standIns := [], harness := (true, "b705a2af5f563f983e15d16ad08fa9a374d4040582fc163b5b454f334c0d5ad8"), looks := false }, kinds := [], alts := [], laidByText := true, laidKinds := [.data], laidTests := true, laidLooks := .later }
def CdbChangedCardSaid : Prop := Claim7.holds Tryd.pinned (.plain (OpenSpec.ofChange cdbChangedSpec)) cdbChangedCard

/-- THE TIED CARD OF 'caissonlaw15.CdbSizes'. -/
def cdbSizesCard : Claim7 := { stood := { row := cdbSizesRow, standIns := [], harness := (true, "b705a2af5f563f983e15d16ad08fa9a374d4040582fc163b5b454f334c0d5ad8"), looks := false }, kinds := [], alts := [], laidByText := true, laidKinds := [.data, .data], laidTests := true, laidLooks := .later }
def CdbSizesCardSaid : Prop := Claim7.holds Tryd.pinned (.plain (OpenSpec.ofChange cdbSizesSpec)) cdbSizesCard

/-- THE TIED CARD OF 'caissonlaw15.CdbLong'. -/
def cdbLongCard : Claim7 := { stood := { row := cdbLongRow, standIns := [], harness := (true, "b705a2af5f563f983e15d16ad08fa9a374d4040582fc163b5b454f334c0d5ad8"), looks := false }, kinds := [], alts := [], laidByText := true, laidKinds := [.data], laidTests := true, laidLooks := .later }
def CdbLongCardSaid : Prop := Claim7.holds Tryd.pinned (.plain (OpenSpec.ofChange cdbLongSpec)) cdbLongCard

/-- THE TIED CARD OF 'caissonlaw15.CdbParses'. -/
def cdbParsesCard : Claim7 := { stood := { row := cdbParsesRow, standIns := [], harness := (true, "b705a2af5f563f983e15d16ad08fa9a374d4040582fc163b5b454f334c0d5ad8"), looks := false }, kinds := [], alts := [], laidByText := true, laidKinds := [.data, .data], laidTests := true, laidLooks := .later }
def CdbParsesCardSaid : Prop := Claim7.holds Tryd.pinned (.plain (OpenSpec.ofChange cdbParsesSpec)) cdbParsesCard

/-- THE TIED CARD OF 'caissonlaw15.CdbKeys'. -/
def cdbKeysCard : Claim7 := { stood := { row := cdbKeysRow, standIns := [], harness := (true, "b705a2af5f563f983e15d16ad08fa9a374d4040582fc163b5b454f334c0d5ad8"), looks := false }, kinds := [], alts := [], laidByText := true, laidKinds := [.data], laidTests := true, laidLooks := .later }
def CdbKeysCardSaid : Prop := Claim7.holds Tryd.pinned (.plain (OpenSpec.ofChange cdbKeysSpec)) cdbKeysCard

/-- THE TIED CARD OF 'caissonlaw15.CdbRanges'. -/
def cdbRangesCard : Claim7 := { stood := { row := cdbRangesRow, standIns := [], harness := (true, "b705a2af5f563f983e15d16ad08fa9a374d4040582fc163b5b454f334c0d5ad8"), looks := false }, kinds := [], alts := [], laidByText := true, laidKinds := [.data], laidTests := true, laidLooks := .later }
def CdbRangesCardSaid : Prop := Claim7.holds Tryd.pinned (.plain (OpenSpec.ofChange cdbRangesSpec)) cdbRangesCard

/-- THE SECOND FORM's CARD OF 'caissonlaw15.CdbChanged'. -/
def cdbChangedUptoCard : Claim7 := { stood := { row := cdbChangedUptoRow, standIns := [], harness := (true, "b705a2af5f563f983e15d16ad08fa9a374d4040582fc163b5b454f334c0d5ad8"), looks := false }, kinds := [], alts := [], laidByText := true, laidKinds := [.data], laidTests := true, laidLooks := .later }
def CdbChangedUptoCardSaid : Prop := Claim7.holds Tryd.pinned (.plain (OpenSpec.upto cdbChangedSpec)) cdbChangedUptoCard

/-- THE SECOND FORM's CARD OF 'caissonlaw15.CdbSizes'. -/
def cdbSizesUptoCard : Claim7 := { stood := { row := cdbSizesUptoRow, standIns := [], harness := (true, "b705a2af5f563f983e15d16ad08fa9a374d4040582fc163b5b454f334c0d5ad8"), looks := false }, kinds := [], alts := [], laidByText := true, laidKinds := [.data, .data], laidTests := true, laidLooks := .later }
def CdbSizesUptoCardSaid : Prop := Claim7.holds Tryd.pinned (.plain (OpenSpec.upto cdbSizesSpec)) cdbSizesUptoCard

/-- THE SECOND FORM's CARD OF 'caissonlaw15.CdbLong'. -/
def cdbLongUptoCard : Claim7 := { stood := { row := cdbLongUptoRow, standIns := [], harness := (true, "b705a2af5f563f983e15d16ad08fa9a374d4040582fc163b5b454f334c0d5ad8"), looks := false }, kinds := [], alts := [], laidByText := true, laidKinds := [.data], laidTests := true, laidLooks := .later }
def CdbLongUptoCardSaid : Prop := Claim7.holds Tryd.pinned (.plain (OpenSpec.upto cdbLongSpec)) cdbLongUptoCard

/-- THE SECOND FORM's CARD OF 'caissonlaw15.CdbParses'. -/
def cdbParsesUptoCard : Claim7 := { stood := { row := cdbParsesUptoRow, standIns := [], harness := (true, "b705a2af5f563f983e15d16ad08fa9a374d4040582fc163b5b454f334c0d5ad8"), looks := false }, kinds := [], alts := [], laidByText := true, laidKinds := [.data, .data], laidTests := true, laidLooks := .later }
def CdbParsesUptoCardSaid : Prop := Claim7.holds Tryd.pinned (.plain (OpenSpec.upto cdbParsesSpec)) cdbParsesUptoCard

/-- THE SECOND FORM's CARD OF 'caissonlaw15.CdbKeys'. -/
def cdbKeysUptoCard : Claim7 := { stood := { row := cdbKeysUptoRow, standIns := [], harness := (true, "b705a2af5f563f983e15d16ad08fa9a374d4040582fc163b5b454f334c0d5ad8"), looks := false }, kinds := [], alts := [], laidByText := true, laidKinds := [.data], laidTests := true, laidLooks := .later }
def CdbKeysUptoCardSaid : Prop := Claim7.holds Tryd.pinned (.plain (OpenSpec.upto cdbKeysSpec)) cdbKeysUptoCard

/-- THE SECOND FORM's CARD OF 'caissonlaw15.CdbRanges'. -/
def cdbRangesUptoCard : Claim7 := { stood := { row := cdbRangesUptoRow, standIns := [], harness := (true, "b705a2af5f563f983e15d16ad08fa9a374d4040582fc163b5b454f334c0d5ad8"), looks := false }, kinds := [], alts := [], laidByText := true, laidKinds := [.data], laidTests := true, laidLooks := .later }
def CdbRangesUptoCardSaid : Prop := Claim7.holds Tryd.pinned (.plain (OpenSpec.upto cdbRangesSpec)) cdbRangesUptoCard
end Rows
end Go.Proofs.YtmaofhiapkfoaaaDoor
