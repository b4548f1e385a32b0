/-
  DERIVED. GIVEN WITH THE SEED: THE CARDS: each row of YtclbmmiedihepaaGreatDoorRows.lean that lists a variable, with what it lists TIED to the program's text (the seventh form; the later family's looks); each row that meets fmt, with fmt's text TOLD by the authors' own Lean function (tested against real Go, not proved from fmt's source: count such statements apart). THE CARD IS WHAT COUNTS. Prove the row's statement (the work); the ties are given (YtclbmmiedihepaaGreatDoorTie.lean); close each card by the builder's one call (the guide's Derived/Test/ToyasCard.lean, 'card_holds'). Laid BY PROGRAM, IN A SANDBOX (cutbox-door.mjs). By AI agents, Wed Nov 11 2026. No macro, syntax, notation, axiom, sorry.
-/
import Derived.Test.YtclbmmiedihepaaGreatDoorRows
import GoSem.ClaimSeven
namespace Go.Proofs.YtclbmmiedihepaaGreatDoor
namespace Rows

/-- THE TIED CARD OF 'emendlaw09.LexerTokens'. -/
def lexerTokensCard : Claim7 := { stood := { row := lexerTokensRow, standIns := [], harness := (true, "bd8de07f0b06c923e1c0a30d3e2b6811b45c1283de1883deb2c61db6d392d66d"), looks := true }, kinds := [], alts := [], laidByText := true, laidKinds := [.data, .data, .widerDeep, .widerDeep, .data, .data, .data, .data, .data, .data, .sentinel, .sentinel, .listed, .data, .pinned, .pinned, .pinned], laidTests := true, laidLooks := .later }
def LexerTokensCardSaid : Prop := Claim7.holds Tryz.pinned (.plain (OpenSpec.ofChange lexerTokensSpec)) lexerTokensCard

/-- THE TIED CARD OF 'emendlaw09.LexerAgain'. -/
def lexerAgainCard : Claim7 := { stood := { row := lexerAgainRow, standIns := [], harness := (true, "bd8de07f0b06c923e1c0a30d3e2b6811b45c1283de1883deb2c61db6d392d66d"), looks := true }, kinds := [], alts := [], laidByText := true, laidKinds := [.data, .data, .widerDeep, .widerDeep, .data, .data, .data, .data, .data, .data, .sentinel, .sentinel, .listed, .data, .pinned, .pinned, .pinned], laidTests := true, laidLooks := .later }
def LexerAgainCardSaid : Prop := Claim7.holds Tryz.pinned (.plain (OpenSpec.ofChange lexerAgainSpec)) lexerAgainCard

/-- THE TIED CARD OF 'emendlaw09.LexerTiles'. -/
def lexerTilesCard : Claim7 := { stood := { row := lexerTilesRow, standIns := [], harness := (true, "bd8de07f0b06c923e1c0a30d3e2b6811b45c1283de1883deb2c61db6d392d66d"), looks := true }, kinds := [], alts := [], laidByText := true, laidKinds := [.data, .data, .widerDeep, .widerDeep, .data, .data, .data, .data, .data, .data, .sentinel, .sentinel, .listed, .data, .pinned, .pinned, .pinned], laidTests := true, laidLooks := .later }
def LexerTilesCardSaid : Prop := Claim7.holds Tryz.pinned (.plain (OpenSpec.ofChange lexerTilesSpec)) lexerTilesCard

/-- THE TIED CARD OF 'emendlaw09.LexerAlone'. -/
def lexerAloneCard : Claim7 := { stood := { row := lexerAloneRow, standIns := [], harness := (true, "bd8de07f0b06c923e1c0a30d3e2b6811b45c1283de1883deb2c61db6d392d66d"), looks := true }, kinds := [], alts := [], laidByText := true, laidKinds := [.data, .data, .widerDeep, .widerDeep, .data, .data, .data, .data, .data, .data, .sentinel, .sentinel, .listed, .data, .pinned, .pinned, .pinned], laidTests := true, laidLooks := .later }
def LexerAloneCardSaid : Prop := Claim7.holds Tryz.pinned (.plain (OpenSpec.ofChange lexerAloneSpec)) lexerAloneCard

/-- THE TIED CARD OF 'emendlaw09.LexerNames'. -/
def lexerNamesCard : Claim7 := { stood := { row := lexerNamesRow, standIns := [], harness := (true, "bd8de07f0b06c923e1c0a30d3e2b6811b45c1283de1883deb2c61db6d392d66d"), looks := true }, kinds := [], alts := [], laidByText := true, laidKinds := [.data, .data, .widerDeep, .widerDeep, .data, .data, .data, .data, .data, .data, .sentinel, .sentinel, .listed, .data, .pinned, .pinned, .pinned], laidTests := true, laidLooks := .later }
def LexerNamesCardSaid : Prop := Claim7.holds Tryz.pinned (.plain (OpenSpec.ofChange lexerNamesSpec)) lexerNamesCard

/-- THE TIED CARD OF 'emendlaw09.LexerKnown'. -/
def lexerKnownCard : Claim7 := { stood := { row := lexerKnownRow, standIns := [], harness := (true, "bd8de07f0b06c923e1c0a30d3e2b6811b45c1283de1883deb2c61db6d392d66d"), looks := true }, kinds := [], alts := [], laidByText := true, laidKinds := [.data, .data, .widerDeep, .widerDeep, .data, .data, .data, .data, .data, .data, .sentinel, .sentinel, .listed, .data, .pinned, .pinned, .pinned], laidTests := true, laidLooks := .later }
def LexerKnownCardSaid : Prop := Claim7.holds Tryz.pinned (.plain (OpenSpec.ofChange lexerKnownSpec)) lexerKnownCard

/-- THE SECOND FORM's CARD OF 'emendlaw09.LexerTokens'. -/
def lexerTokensUptoCard : Claim7 := { stood := { row := lexerTokensUptoRow, standIns := [], harness := (true, "bd8de07f0b06c923e1c0a30d3e2b6811b45c1283de1883deb2c61db6d392d66d"), looks := true }, kinds := [], alts := [], laidByText := true, laidKinds := [.data, .data, .widerDeep, .widerDeep, .data, .data, .data, .data, .data, .data, .sentinel, .sentinel, .listed, .data, .pinned, .pinned, .pinned], laidTests := true, laidLooks := .later }
def LexerTokensUptoCardSaid : Prop := Claim7.holds Tryz.pinned (.plain (OpenSpec.upto lexerTokensSpec)) lexerTokensUptoCard

/-- THE SECOND FORM's CARD OF 'emendlaw09.LexerAgain'. -/
def lexerAgainUptoCard : Claim7 := { stood := { row := lexerAgainUptoRow, standIns := [], harness := (true, "bd8de07f0b06c923e1c0a30d3e2b6811b45c1283de1883deb2c61db6d392d66d"), looks := true }, kinds := [], alts := [], laidByText := true, laidKinds := [.data, .data, .widerDeep, .widerDeep, .data, .data, .data, .data, .data, .data, .sentinel, .sentinel, .listed, .data, .pinned, .pinned, .pinned], laidTests := true, laidLooks := .later }
def LexerAgainUptoCardSaid : Prop := Claim7.holds Tryz.pinned (.plain (OpenSpec.upto lexerAgainSpec)) lexerAgainUptoCard

/-- THE SECOND FORM's CARD OF 'emendlaw09.LexerTiles'. -/
def lexerTilesUptoCard : Claim7 := { stood := { row := lexerTilesUptoRow, standIns := [], harness := (true, "bd8de07f0b06c923e1c0a30d3e2b6811b45c1283de1883deb2c61db6d392d66d"), looks := true }, kinds := [], alts := [], laidByText := true, laidKinds := [.data, .data, .widerDeep, .widerDeep, .data, .data, .data, .data, .data, .data, .sentinel, .sentinel, .listed, .data, .pinned, .pinned, .pinned], laidTests := true, laidLooks := .later }
def LexerTilesUptoCardSaid : Prop := Claim7.holds Tryz.pinned (.plain (OpenSpec.upto lexerTilesSpec)) lexerTilesUptoCard

/-- THE SECOND FORM's CARD OF 'emendlaw09.LexerAlone'. -/
def lexerAloneUptoCard : Claim7 := { stood := { row := lexerAloneUptoRow, standIns := [], harness := (true, "bd8de07f0b06c923e1c0a30d3e2b6811b45c1283de1883deb2c61db6d392d66d"), looks := true }, kinds := [], alts := [], laidByText := true, laidKinds := [.data, .data, .widerDeep, .widerDeep, .data, .data, .data, .data, .data, .data, .sentinel, .sentinel, .listed, .data, .pinned, .pinned, .pinned], laidTests := true, laidLooks := .later }
def LexerAloneUptoCardSaid : Prop := Claim7.holds Tryz.pinned (.plain (OpenSpec.upto lexerAloneSpec)) lexerAloneUptoCard

/-- THE SECOND FORM's CARD OF 'emendlaw09.LexerNames'. -/
def lexerNamesUptoCard : Claim7 := { stood := { row := lexerNamesUptoRow, standIns := [], harness := (true, "bd8de07f0b06c923e1c0a30d3e2b6811b45c1283de1883deb2c61db6d392d66d"), looks := true }, kinds := [], alts := [], laidByText := true, laidKinds := [.data, .data, .widerDeep, .widerDeep, .data, .data, .data, .data, .data, .data, .sentinel, .sentinel, .listed, .data, .pinned, .pinned, .pinned], laidTests := true, laidLooks := .later }
def LexerNamesUptoCardSaid : Prop := Claim7.holds Tryz.pinned (.plain (OpenSpec.upto lexerNamesSpec)) lexerNamesUptoCard

/-- THE SECOND FORM's CARD OF 'emendlaw09.LexerKnown'. -/
def lexerKnownUptoCard : Claim7 := { stood := { row := lexerKnownUptoRow, standIns := [], harness := (true, "bd8de07f0b06c923e1c0a30d3e2b6811b45c1283de1883deb2c61db6d392d66d"), looks := true }, kinds := [], alts := [], laidByText := true, laidKinds := [.data, .data, .widerDeep, .widerDeep, .data, .data, .data, .data, .data, .data, .sentinel, .sentinel, .listed, .data, .pinned, .pinned, .pinned], laidTests := true, laidLooks := .later }
def LexerKnownUptoCardSaid : Prop := Claim7.holds Tryz.pinned (.plain (OpenSpec.upto lexerKnownSpec)) lexerKnownUptoCard
end Rows
end Go.Proofs.YtclbmmiedihepaaGreatDoor
