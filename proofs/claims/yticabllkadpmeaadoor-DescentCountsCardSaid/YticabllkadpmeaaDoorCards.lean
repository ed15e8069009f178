/-
  DERIVED. GIVEN WITH THE SEED: THE CARDS: each row of YticabllkadpmeaaDoorRows.lean that lists a variable, with what it lists TIED to the program's text (the seventh form; the later family's looks); each row that meets fmt, with fmt's text TOLD by the authors' own Lean function (tested against real Go, not proved from fmt's source: count such statements apart). THE CARD IS WHAT COUNTS. Prove the row's statement (the work); the ties are given (YticabllkadpmeaaDoorTie.lean); close each card by the builder's one call (the guide's Derived/Test/ToyasCard.lean, 'card_holds'). Laid BY PROGRAM, IN A SANDBOX (cutbox-door.mjs). By AI agents, Wed Nov 11 2026. No macro, syntax, notation, axiom, sorry.
-/
import Derived.Test.YticabllkadpmeaaDoorRows
import GoSem.ClaimSeven
namespace Go.Proofs.YticabllkadpmeaaDoor
namespace Rows

/-- THE TIED CARD OF 'suffraganlaw22.DescentWants'. -/
def descentWantsCard : Claim7 := { stood := { row := descentWantsRow, standIns := [], harness := (true, "eaa109a7bf684b952578550e333828363f0786b5991077c75225eda87876e4a0"), looks := false }, kinds := [], alts := [], laidByText := true, laidKinds := [.data, .data], laidTests := true, laidLooks := .later }
def DescentWantsCardSaid : Prop := Claim7.holds Tryd.pinned (.plain (OpenSpec.ofChange descentWantsSpec)) descentWantsCard

/-- THE TIED CARD OF 'suffraganlaw22.DescentCounts'. -/
def descentCountsCard : Claim7 := { stood := { row := descentCountsRow, standIns := [], harness := (true, "eaa109a7bf684b952578550e333828363f0786b5991077c75225eda87876e4a0"), looks := false }, kinds := [], alts := [], laidByText := true, laidKinds := [.data, .data], laidTests := true, laidLooks := .later }
def DescentCountsCardSaid : Prop := Claim7.holds Tryd.pinned (.plain (OpenSpec.ofChange descentCountsSpec)) descentCountsCard

/-- THE SECOND FORM's CARD OF 'suffraganlaw22.DescentWants'. -/
def descentWantsUptoCard : Claim7 := { stood := { row := descentWantsUptoRow, standIns := [], harness := (true, "eaa109a7bf684b952578550e333828363f0786b5991077c75225eda87876e4a0"), looks := false }, kinds := [], alts := [], laidByText := true, laidKinds := [.data, .data], laidTests := true, laidLooks := .later }
def DescentWantsUptoCardSaid : Prop := Claim7.holds Tryd.pinned (.plain (OpenSpec.upto descentWantsSpec)) descentWantsUptoCard

/-- THE SECOND FORM's CARD OF 'suffraganlaw22.DescentCounts'. -/
def descentCountsUptoCard : Claim7 := { stood := { row := descentCountsUptoRow, standIns := [], harness := (true, "eaa109a7bf684b952578550e333828363f0786b5991077c75225eda87876e4a0"), looks := false }, kinds := [], alts := [], laidByText := true, laidKinds := [.data, .data], laidTests := true, laidLooks := .later }
def DescentCountsUptoCardSaid : Prop := Claim7.holds Tryd.pinned (.plain (OpenSpec.upto descentCountsSpec)) descentCountsUptoCard
end Rows
end Go.Proofs.YticabllkadpmeaaDoor
