/-
  DERIVED. GIVEN WITH THE SEED: THE CARDS: each row of YtciabmckldfofaaGreatDoorRows.lean that lists a variable, with what it lists TIED to the program's text (the seventh form; the later family's looks); each row that meets fmt, with fmt's text TOLD by the authors' own Lean function (tested against real Go, not proved from fmt's source: count such statements apart). THE CARD IS WHAT COUNTS. Prove the row's statement (the work); the ties are given (YtciabmckldfofaaGreatDoorTie.lean); close each card by the builder's one call (the guide's Derived/Test/ToyasCard.lean, 'card_holds'). Laid BY PROGRAM, IN A SANDBOX (cutbox-door.mjs). By AI agents, Wed Nov 11 2026. No macro, syntax, notation, axiom, sorry.
-/
import Derived.Test.YtciabmckldfofaaGreatDoorRows
import GoSem.ClaimSeven
namespace Go.Proofs.YtciabmckldfofaaGreatDoor
namespace Rows

/-- THE TIED CARD OF 'toruslaw19.LevelExamples'. -/
def levelExamplesCard : Claim7 := { stood := { row := levelExamplesRow, standIns := [], harness := (true, "9ff279663daff60134308144d8d467fc40b4f5346774526ad500d972a2c993ba"), looks := false }, kinds := [], alts := [], laidByText := true, laidKinds := [.data, .data, .data], laidTests := true, laidLooks := .later }
def LevelExamplesCardSaid : Prop := Claim7.holds Tryz.pinned (.plain (OpenSpec.ofChange levelExamplesSpec)) levelExamplesCard

/-- THE TIED CARD OF 'toruslaw09.FilterExamples'. -/
def filterExamplesCard : Claim7 := { stood := { row := filterExamplesRow, standIns := [], harness := (true, "9ff279663daff60134308144d8d467fc40b4f5346774526ad500d972a2c993ba"), looks := false }, kinds := [], alts := [], laidByText := true, laidKinds := [.data, .data, .data], laidTests := true, laidLooks := .later }
def FilterExamplesCardSaid : Prop := Claim7.holds Tryz.pinned (.plain (OpenSpec.ofChange filterExamplesSpec)) filterExamplesCard

/-- THE TIED CARD OF 'toruslaw16.CechExamples'. -/
def cechExamplesCard : Claim7 := { stood := { row := cechExamplesRow, standIns := [], harness := (true, "9ff279663daff60134308144d8d467fc40b4f5346774526ad500d972a2c993ba"), looks := false }, kinds := [], alts := [], laidByText := true, laidKinds := [.data, .data, .data], laidTests := true, laidLooks := .later }
def CechExamplesCardSaid : Prop := Claim7.holds Tryz.pinned (.plain (OpenSpec.ofChange cechExamplesSpec)) cechExamplesCard

/-- THE TIED CARD OF 'toruslaw15.RipsExamples'. -/
def ripsExamplesCard : Claim7 := { stood := { row := ripsExamplesRow, standIns := [], harness := (true, "9ff279663daff60134308144d8d467fc40b4f5346774526ad500d972a2c993ba"), looks := false }, kinds := [], alts := [], laidByText := true, laidKinds := [.data, .data, .data], laidTests := true, laidLooks := .later }
def RipsExamplesCardSaid : Prop := Claim7.holds Tryz.pinned (.plain (OpenSpec.ofChange ripsExamplesSpec)) ripsExamplesCard

/-- THE TIED CARD OF 'toruslaw17.AlphaExamples'. -/
def alphaExamplesCard : Claim7 := { stood := { row := alphaExamplesRow, standIns := [], harness := (true, "9ff279663daff60134308144d8d467fc40b4f5346774526ad500d972a2c993ba"), looks := false }, kinds := [], alts := [], laidByText := true, laidKinds := [.data, .data, .data], laidTests := true, laidLooks := .later }
def AlphaExamplesCardSaid : Prop := Claim7.holds Tryz.pinned (.plain (OpenSpec.ofChange alphaExamplesSpec)) alphaExamplesCard

/-- THE SECOND FORM's CARD OF 'toruslaw19.LevelExamples'. -/
def levelExamplesUptoCard : Claim7 := { stood := { row := levelExamplesUptoRow, standIns := [], harness := (true, "9ff279663daff60134308144d8d467fc40b4f5346774526ad500d972a2c993ba"), looks := false }, kinds := [], alts := [], laidByText := true, laidKinds := [.data, .data, .data], laidTests := true, laidLooks := .later }
def LevelExamplesUptoCardSaid : Prop := Claim7.holds Tryz.pinned (.plain (OpenSpec.upto levelExamplesSpec)) levelExamplesUptoCard

/-- THE SECOND FORM's CARD OF 'toruslaw09.FilterExamples'. -/
def filterExamplesUptoCard : Claim7 := { stood := { row := filterExamplesUptoRow, standIns := [], harness := (true, "9ff279663daff60134308144d8d467fc40b4f5346774526ad500d972a2c993ba"), looks := false }, kinds := [], alts := [], laidByText := true, laidKinds := [.data, .data, .data], laidTests := true, laidLooks := .later }
def FilterExamplesUptoCardSaid : Prop := Claim7.holds Tryz.pinned (.plain (OpenSpec.upto filterExamplesSpec)) filterExamplesUptoCard

/-- THE SECOND FORM's CARD OF 'toruslaw16.CechExamples'. -/
def cechExamplesUptoCard : Claim7 := { stood := { row := cechExamplesUptoRow, standIns := [], harness := (true, "9ff279663daff60134308144d8d467fc40b4f5346774526ad500d972a2c993ba"), looks := false }, kinds := [], alts := [], laidByText := true, laidKinds := [.data, .data, .data], laidTests := true, laidLooks := .later }
def CechExamplesUptoCardSaid : Prop := Claim7.holds Tryz.pinned (.plain (OpenSpec.upto cechExamplesSpec)) cechExamplesUptoCard

/-- THE SECOND FORM's CARD OF 'toruslaw15.RipsExamples'. -/
def ripsExamplesUptoCard : Claim7 := { stood := { row := ripsExamplesUptoRow, standIns := [], harness := (true, "9ff279663daff60134308144d8d467fc40b4f5346774526ad500d972a2c993ba"), looks := false }, kinds := [], alts := [], laidByText := true, laidKinds := [.data, .data, .data], laidTests := true, laidLooks := .later }
def RipsExamplesUptoCardSaid : Prop := Claim7.holds Tryz.pinned (.plain (OpenSpec.upto ripsExamplesSpec)) ripsExamplesUptoCard

/-- THE SECOND FORM's CARD OF 'toruslaw17.AlphaExamples'. -/
def alphaExamplesUptoCard : Claim7 := { stood := { row := alphaExamplesUptoRow, standIns := [], harness := (true, "9ff279663daff60134308144d8d467fc40b4f5346774526ad500d972a2c993ba"), looks := false }, kinds := [], alts := [], laidByText := true, laidKinds := [.data, .data, .data], laidTests := true, laidLooks := .later }
def AlphaExamplesUptoCardSaid : Prop := Claim7.holds Tryz.pinned (.plain (OpenSpec.upto alphaExamplesSpec)) alphaExamplesUptoCard
end Rows
end Go.Proofs.YtciabmckldfofaaGreatDoor
