/-
  DERIVED. GIVEN WITH THE SEED: THE CARDS: each row of YticabllkadpmeaaGreatDoorRows.lean that lists a variable, with what it lists TIED to the program's text (the seventh form; the later family's looks); each row that meets fmt, with fmt's text TOLD by the authors' own Lean function (tested against real Go, not proved from fmt's source: count such statements apart). THE CARD IS WHAT COUNTS. Prove the row's statement (the work); the ties are given (YticabllkadpmeaaGreatDoorTie.lean); close each card by the builder's one call (the guide's Derived/Test/ToyasCard.lean, 'card_holds'). Laid BY PROGRAM, IN A SANDBOX (cutbox-door.mjs). By AI agents, Wed Nov 11 2026. No macro, syntax, notation, axiom, sorry.
-/
import Derived.Test.YticabllkadpmeaaGreatDoorRows
import GoSem.ClaimSeven
namespace Go.Proofs.YticabllkadpmeaaGreatDoor
namespace Rows

/-- THE TIED CARD OF 'suffraganlaw22.DescentNext'. -/
def descentNextCard : Claim7 := { stood := { row := descentNextRow, standIns := [], harness := (true, "4a9a233486865f18b9dea86c0c95b8dd85cf0fe8673db1ff737205aefed7b46c"), looks := false }, kinds := [], alts := [], laidByText := true, laidKinds := [.data, .data], laidTests := true, laidLooks := .later }
def DescentNextCardSaid : Prop := Claim7.holds Tryz.pinned (.plain (OpenSpec.ofChange descentNextSpec)) descentNextCard

/-- THE SECOND FORM's CARD OF 'suffraganlaw22.DescentNext'. -/
def descentNextUptoCard : Claim7 := { stood := { row := descentNextUptoRow, standIns := [], harness := (true, "4a9a233486865f18b9dea86c0c95b8dd85cf0fe8673db1ff737205aefed7b46c"), looks := false }, kinds := [], alts := [], laidByText := true, laidKinds := [.data, .data], laidTests := true, laidLooks := .later }
def DescentNextUptoCardSaid : Prop := Claim7.holds Tryz.pinned (.plain (OpenSpec.upto descentNextSpec)) descentNextUptoCard
end Rows
end Go.Proofs.YticabllkadpmeaaGreatDoor
