/-
  DERIVED. GIVEN WITH THE SEED: THE CARDS: each row of YtojoeaaodomfnaaGreatDoorRows.lean that lists a variable, with what it lists TIED to the program's text (the seventh form; the later family's looks); each row that meets fmt, with fmt's text TOLD by the authors' own Lean function (tested against real Go, not proved from fmt's source: count such statements apart). THE CARD IS WHAT COUNTS. Prove the row's statement (the work); the ties are given (YtojoeaaodomfnaaGreatDoorTie.lean); close each card by the builder's one call (the guide's Derived/Test/ToyasCard.lean, 'card_holds'). Laid BY PROGRAM, IN A SANDBOX (cutbox-door.mjs). By AI agents, Wed Nov 11 2026. No macro, syntax, notation, axiom, sorry.
-/
import Derived.Test.YtojoeaaodomfnaaGreatDoorRows
import GoSem.ClaimSeven
namespace Go.Proofs.YtojoeaaodomfnaaGreatDoor
namespace Rows

/-- THE TIED CARD OF 'suffraganlaw28.ShellShows'. -/
def shellShowsCard : Claim7 := { stood := { row := shellShowsRow, standIns := [], harness := (true, "00ef57ce1be0c0e114a8310570191db1a4e2c1b1e8c9b2be63ad3f0750766692"), looks := true }, kinds := [], alts := [], laidByText := true, laidKinds := [.data, .data, .data, .data, .handle, .sentinel, .sentinel, .data, .widerDeep, .pinned], laidTests := true, laidLooks := .later }
def ShellShowsCardSaid : Prop := Claim7.holds Tryz.pinned (.plain (OpenSpec.ofChange shellShowsSpec)) shellShowsCard

/-- THE TIED CARD OF 'suffraganlaw28.ShellBack'. -/
def shellBackCard : Claim7 := { stood := { row := shellBackRow, standIns := [], harness := (true, "00ef57ce1be0c0e114a8310570191db1a4e2c1b1e8c9b2be63ad3f0750766692"), looks := true }, kinds := [], alts := [], laidByText := true, laidKinds := [.data, .data, .data, .data, .handle, .sentinel, .sentinel, .data, .widerDeep, .pinned], laidTests := true, laidLooks := .later }
def ShellBackCardSaid : Prop := Claim7.holds Tryz.pinned (.plain (OpenSpec.ofChange shellBackSpec)) shellBackCard

/-- THE TIED CARD OF 'suffraganlaw28.ShellParses'. -/
def shellParsesCard : Claim7 := { stood := { row := shellParsesRow, standIns := [], harness := (true, "00ef57ce1be0c0e114a8310570191db1a4e2c1b1e8c9b2be63ad3f0750766692"), looks := true }, kinds := [], alts := [], laidByText := true, laidKinds := [.data, .data, .data, .data, .handle, .sentinel, .sentinel, .data, .widerDeep, .pinned], laidTests := true, laidLooks := .later }
def ShellParsesCardSaid : Prop := Claim7.holds Tryz.pinned (.plain (OpenSpec.ofChange shellParsesSpec)) shellParsesCard

/-- THE SECOND FORM's CARD OF 'suffraganlaw28.ShellShows'. -/
def shellShowsUptoCard : Claim7 := { stood := { row := shellShowsUptoRow, standIns := [], harness := (true, "00ef57ce1be0c0e114a8310570191db1a4e2c1b1e8c9b2be63ad3f0750766692"), looks := true }, kinds := [], alts := [], laidByText := true, laidKinds := [.data, .data, .data, .data, .handle, .sentinel, .sentinel, .data, .widerDeep, .pinned], laidTests := true, laidLooks := .later }
def ShellShowsUptoCardSaid : Prop := Claim7.holds Tryz.pinned (.plain (OpenSpec.upto shellShowsSpec)) shellShowsUptoCard

/-- THE SECOND FORM's CARD OF 'suffraganlaw28.ShellBack'. -/
def shellBackUptoCard : Claim7 := { stood := { row := shellBackUptoRow, standIns := [], harness := (true, "00ef57ce1be0c0e114a8310570191db1a4e2c1b1e8c9b2be63ad3f0750766692"), looks := true }, kinds := [], alts := [], laidByText := true, laidKinds := [.data, .data, .data, .data, .handle, .sentinel, .sentinel, .data, .widerDeep, .pinned], laidTests := true, laidLooks := .later }
def ShellBackUptoCardSaid : Prop := Claim7.holds Tryz.pinned (.plain (OpenSpec.upto shellBackSpec)) shellBackUptoCard

/-- THE SECOND FORM's CARD OF 'suffraganlaw28.ShellParses'. -/
def shellParsesUptoCard : Claim7 := { stood := { row := shellParsesUptoRow, standIns := [], harness := (true, "00ef57ce1be0c0e114a8310570191db1a4e2c1b1e8c9b2be63ad3f0750766692"), looks := true }, kinds := [], alts := [], laidByText := true, laidKinds := [.data, .data, .data, .data, .handle, .sentinel, .sentinel, .data, .widerDeep, .pinned], laidTests := true, laidLooks := .later }
def ShellParsesUptoCardSaid : Prop := Claim7.holds Tryz.pinned (.plain (OpenSpec.upto shellParsesSpec)) shellParsesUptoCard
end Rows
end Go.Proofs.YtojoeaaodomfnaaGreatDoor
