/-
  DERIVED. GIVEN WITH THE SEED: THE CARDS: each row of YtacdfjlncfidgaaGreatDoorRows.lean that lists a variable, with what it lists TIED to the program's text (the seventh form; the later family's looks); each row that meets fmt, with fmt's text TOLD by the authors' own Lean function (tested against real Go, not proved from fmt's source: count such statements apart). THE CARD IS WHAT COUNTS. Prove the row's statement (the work); the ties are given (YtacdfjlncfidgaaGreatDoorTie.lean); close each card by the builder's one call (the guide's Derived/Test/ToyasCard.lean, 'card_holds'). Laid BY PROGRAM, IN A SANDBOX (cutbox-door.mjs). By AI agents, Wed Nov 11 2026. No macro, syntax, notation, axiom, sorry.
-/
import Derived.Test.YtacdfjlncfidgaaGreatDoorRows
import GoSem.ClaimSeven
namespace Go.Proofs.YtacdfjlncfidgaaGreatDoor
namespace Rows

/-- THE TIED CARD OF 'emendlaw10.AstChecks'. -/
def astChecksCard : Claim7 := { stood := { row := astChecksRow, standIns := [], harness := (true, "6019c7297ac73611fc892717ca7beca5fea8eb29bf3f78ee2f02ef925844ad31"), looks := true }, kinds := [], alts := [], laidByText := true, laidKinds := [.data, .data, .widerDeep, .widerDeep, .data, .data, .data, .data, .data, .data, .sentinel, .sentinel, .listed, .data, .pinned, .pinned, .pinned], laidTests := true, laidLooks := .later }
def AstChecksCardSaid : Prop := Claim7.holds Tryz.pinned (.plain (OpenSpec.ofChange astChecksSpec)) astChecksCard

/-- THE TIED CARD OF 'emendlaw10.AstSame'. -/
def astSameCard : Claim7 := { stood := { row := astSameRow, standIns := [], harness := (true, "6019c7297ac73611fc892717ca7beca5fea8eb29bf3f78ee2f02ef925844ad31"), looks := true }, kinds := [], alts := [], laidByText := true, laidKinds := [.data, .data, .widerDeep, .widerDeep, .data, .data, .data, .data, .data, .data, .sentinel, .sentinel, .listed, .data, .pinned, .pinned, .pinned], laidTests := true, laidLooks := .later }
def AstSameCardSaid : Prop := Claim7.holds Tryz.pinned (.plain (OpenSpec.ofChange astSameSpec)) astSameCard

/-- THE TIED CARD OF 'emendlaw10.AstPlaces'. -/
def astPlacesCard : Claim7 := { stood := { row := astPlacesRow, standIns := [], harness := (true, "6019c7297ac73611fc892717ca7beca5fea8eb29bf3f78ee2f02ef925844ad31"), looks := true }, kinds := [], alts := [], laidByText := true, laidKinds := [.data, .data, .widerDeep, .widerDeep, .data, .data, .data, .data, .data, .data, .sentinel, .sentinel, .listed, .data, .pinned, .pinned, .pinned], laidTests := true, laidLooks := .later }
def AstPlacesCardSaid : Prop := Claim7.holds Tryz.pinned (.plain (OpenSpec.ofChange astPlacesSpec)) astPlacesCard

/-- THE TIED CARD OF 'emendlaw10.AstPaths'. -/
def astPathsCard : Claim7 := { stood := { row := astPathsRow, standIns := [], harness := (true, "6019c7297ac73611fc892717ca7beca5fea8eb29bf3f78ee2f02ef925844ad31"), looks := true }, kinds := [], alts := [], laidByText := true, laidKinds := [.data, .data, .widerDeep, .widerDeep, .data, .data, .data, .data, .data, .data, .sentinel, .sentinel, .listed, .data, .pinned, .pinned, .pinned], laidTests := true, laidLooks := .later }
def AstPathsCardSaid : Prop := Claim7.holds Tryz.pinned (.plain (OpenSpec.ofChange astPathsSpec)) astPathsCard

/-- THE TIED CARD OF 'emendlaw10.AstMakes'. -/
def astMakesCard : Claim7 := { stood := { row := astMakesRow, standIns := [], harness := (true, "6019c7297ac73611fc892717ca7beca5fea8eb29bf3f78ee2f02ef925844ad31"), looks := true }, kinds := [], alts := [], laidByText := true, laidKinds := [.data, .data, .widerDeep, .widerDeep, .data, .data, .data, .data, .data, .data, .sentinel, .sentinel, .listed, .data, .pinned, .pinned, .pinned], laidTests := true, laidLooks := .later }
def AstMakesCardSaid : Prop := Claim7.holds Tryz.pinned (.plain (OpenSpec.ofChange astMakesSpec)) astMakesCard

/-- THE TIED CARD OF 'emendlaw10.AstNodes'. -/
def astNodesCard : Claim7 := { stood := { row := astNodesRow, standIns := [], harness := (true, "6019c7297ac73611fc892717ca7beca5fea8eb29bf3f78ee2f02ef925844ad31"), looks := true }, kinds := [], alts := [], laidByText := true, laidKinds := [.data, .data, .widerDeep, .widerDeep, .data, .data, .data, .data, .data, .data, .sentinel, .sentinel, .listed, .data, .pinned, .pinned, .pinned], laidTests := true, laidLooks := .later }
def AstNodesCardSaid : Prop := Claim7.holds Tryz.pinned (.plain (OpenSpec.ofChange astNodesSpec)) astNodesCard

/-- THE TIED CARD OF 'emendlaw10.AstWays'. -/
def astWaysCard : Claim7 := { stood := { row := astWaysRow, standIns := [], harness := (true, "6019c7297ac73611fc892717ca7beca5fea8eb29bf3f78ee2f02ef925844ad31"), looks := true }, kinds := [], alts := [], laidByText := true, laidKinds := [.data, .data, .widerDeep, .widerDeep, .data, .data, .data, .data, .data, .data, .sentinel, .sentinel, .listed, .data, .pinned, .pinned, .pinned], laidTests := true, laidLooks := .later }
def AstWaysCardSaid : Prop := Claim7.holds Tryz.pinned (.plain (OpenSpec.ofChange astWaysSpec)) astWaysCard

/-- THE TIED CARD OF 'emendlaw10.AstKnown'. -/
def astKnownCard : Claim7 := { stood := { row := astKnownRow, standIns := [], harness := (true, "6019c7297ac73611fc892717ca7beca5fea8eb29bf3f78ee2f02ef925844ad31"), looks := true }, kinds := [], alts := [], laidByText := true, laidKinds := [.data, .data, .widerDeep, .widerDeep, .data, .data, .data, .data, .data, .data, .sentinel, .sentinel, .listed, .data, .pinned, .pinned, .pinned], laidTests := true, laidLooks := .later }
def AstKnownCardSaid : Prop := Claim7.holds Tryz.pinned (.plain (OpenSpec.ofChange astKnownSpec)) astKnownCard

/-- THE SECOND FORM's CARD OF 'emendlaw10.AstChecks'. -/
def astChecksUptoCard : Claim7 := { stood := { row := astChecksUptoRow, standIns := [], harness := (true, "6019c7297ac73611fc892717ca7beca5fea8eb29bf3f78ee2f02ef925844ad31"), looks := true }, kinds := [], alts := [], laidByText := true, laidKinds := [.data, .data, .widerDeep, .widerDeep, .data, .data, .data, .data, .data, .data, .sentinel, .sentinel, .listed, .data, .pinned, .pinned, .pinned], laidTests := true, laidLooks := .later }
def AstChecksUptoCardSaid : Prop := Claim7.holds Tryz.pinned (.plain (OpenSpec.upto astChecksSpec)) astChecksUptoCard

/-- THE SECOND FORM's CARD OF 'emendlaw10.AstSame'. -/
def astSameUptoCard : Claim7 := { stood := { row := astSameUptoRow, standIns := [], harness := (true, "6019c7297ac73611fc892717ca7beca5fea8eb29bf3f78ee2f02ef925844ad31"), looks := true }, kinds := [], alts := [], laidByText := true, laidKinds := [.data, .data, .widerDeep, .widerDeep, .data, .data, .data, .data, .data, .data, .sentinel, .sentinel, .listed, .data, .pinned, .pinned, .pinned], laidTests := true, laidLooks := .later }
def AstSameUptoCardSaid : Prop := Claim7.holds Tryz.pinned (.plain (OpenSpec.upto astSameSpec)) astSameUptoCard

/-- THE SECOND FORM's CARD OF 'emendlaw10.AstPlaces'. -/
def astPlacesUptoCard : Claim7 := { stood := { row := astPlacesUptoRow, standIns := [], harness := (true, "6019c7297ac73611fc892717ca7beca5fea8eb29bf3f78ee2f02ef925844ad31"), looks := true }, kinds := [], alts := [], laidByText := true, laidKinds := [.data, .data, .widerDeep, .widerDeep, .data, .data, .data, .data, .data, .data, .sentinel, .sentinel, .listed, .data, .pinned, .pinned, .pinned], laidTests := true, laidLooks := .later }
def AstPlacesUptoCardSaid : Prop := Claim7.holds Tryz.pinned (.plain (OpenSpec.upto astPlacesSpec)) astPlacesUptoCard

/-- THE SECOND FORM's CARD OF 'emendlaw10.AstPaths'. -/
def astPathsUptoCard : Claim7 := { stood := { row := astPathsUptoRow, standIns := [], harness := (true, "6019c7297ac73611fc892717ca7beca5fea8eb29bf3f78ee2f02ef925844ad31"), looks := true }, kinds := [], alts := [], laidByText := true, laidKinds := [.data, .data, .widerDeep, .widerDeep, .data, .data, .data, .data, .data, .data, .sentinel, .sentinel, .listed, .data, .pinned, .pinned, .pinned], laidTests := true, laidLooks := .later }
def AstPathsUptoCardSaid : Prop := Claim7.holds Tryz.pinned (.plain (OpenSpec.upto astPathsSpec)) astPathsUptoCard

/-- THE SECOND FORM's CARD OF 'emendlaw10.AstMakes'. -/
def astMakesUptoCard : Claim7 := { stood := { row := astMakesUptoRow, standIns := [], harness := (true, "6019c7297ac73611fc892717ca7beca5fea8eb29bf3f78ee2f02ef925844ad31"), looks := true }, kinds := [], alts := [], laidByText := true, laidKinds := [.data, .data, .widerDeep, .widerDeep, .data, .data, .data, .data, .data, .data, .sentinel, .sentinel, .listed, .data, .pinned, .pinned, .pinned], laidTests := true, laidLooks := .later }
def AstMakesUptoCardSaid : Prop := Claim7.holds Tryz.pinned (.plain (OpenSpec.upto astMakesSpec)) astMakesUptoCard

/-- THE SECOND FORM's CARD OF 'emendlaw10.AstNodes'. -/
def astNodesUptoCard : Claim7 := { stood := { row := astNodesUptoRow, standIns := [], harness := (true, "6019c7297ac73611fc892717ca7beca5fea8eb29bf3f78ee2f02ef925844ad31"), looks := true }, kinds := [], alts := [], laidByText := true, laidKinds := [.data, .data, .widerDeep, .widerDeep, .data, .data, .data, .data, .data, .data, .sentinel, .sentinel, .listed, .data, .pinned, .pinned, .pinned], laidTests := true, laidLooks := .later }
def AstNodesUptoCardSaid : Prop := Claim7.holds Tryz.pinned (.plain (OpenSpec.upto astNodesSpec)) astNodesUptoCard

/-- THE SECOND FORM's CARD OF 'emendlaw10.AstWays'. -/
def astWaysUptoCard : Claim7 := { stood := { row := astWaysUptoRow, standIns := [], harness := (true, "6019c7297ac73611fc892717ca7beca5fea8eb29bf3f78ee2f02ef925844ad31"), looks := true }, kinds := [], alts := [], laidByText := true, laidKinds := [.data, .data, .widerDeep, .widerDeep, .data, .data, .data, .data, .data, .data, .sentinel, .sentinel, .listed, .data, .pinned, .pinned, .pinned], laidTests := true, laidLooks := .later }
def AstWaysUptoCardSaid : Prop := Claim7.holds Tryz.pinned (.plain (OpenSpec.upto astWaysSpec)) astWaysUptoCard

/-- THE SECOND FORM's CARD OF 'emendlaw10.AstKnown'. -/
def astKnownUptoCard : Claim7 := { stood := { row := astKnownUptoRow, standIns := [], harness := (true, "6019c7297ac73611fc892717ca7beca5fea8eb29bf3f78ee2f02ef925844ad31"), looks := true }, kinds := [], alts := [], laidByText := true, laidKinds := [.data, .data, .widerDeep, .widerDeep, .data, .data, .data, .data, .data, .data, .sentinel, .sentinel, .listed, .data, .pinned, .pinned, .pinned], laidTests := true, laidLooks := .later }
def AstKnownUptoCardSaid : Prop := Claim7.holds Tryz.pinned (.plain (OpenSpec.upto astKnownSpec)) astKnownUptoCard
end Rows
end Go.Proofs.YtacdfjlncfidgaaGreatDoor
