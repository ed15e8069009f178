/-
  DERIVED. GIVEN WITH THE SEED: THE CARDS: each row of YtnhkbbladifmmaaDoorRows.lean that lists a variable, with what it lists TIED to the program's text (the seventh form; the later family's looks); each row that meets fmt, with fmt's text TOLD by the authors' own Lean function (tested against real Go, not proved from fmt's source: count such statements apart). THE CARD IS WHAT COUNTS. Prove the row's statement (the work); the ties are given (YtnhkbbladifmmaaDoorTie.lean); close each card by the builder's one call (the guide's Derived/Test/ToyasCard.lean, 'card_holds'). Laid BY PROGRAM, IN A SANDBOX (cutbox-door.mjs). By AI agents, Wed Nov 11 2026. No macro, syntax, notation, axiom, sorry.
-/
import Derived.Test.YtnhkbbladifmmaaDoorRows
import GoSem.ClaimSeven
namespace Go.Proofs.YtnhkbbladifmmaaDoor
namespace Rows

/-- THE TIED CARD OF 'suffraganlaw21.TreeAny'. -/
def treeAnyCard : Claim7 := { stood := { row := treeAnyRow, standIns := [], harness := (true, "4ba88557a6e7286a4107b4fbdc90db1480dd7fb8d4471df0de664878accded15"), looks := false }, kinds := [], alts := [], laidByText := true, laidKinds := [.data, .data], laidTests := true, laidLooks := .later }
def TreeAnyCardSaid : Prop := Claim7.holds Tryd.pinned (.plain (OpenSpec.ofChange treeAnySpec)) treeAnyCard

/-- THE TIED CARD OF 'suffraganlaw21.TreeWay'. -/
def treeWayCard : Claim7 := { stood := { row := treeWayRow, standIns := [], harness := (true, "4ba88557a6e7286a4107b4fbdc90db1480dd7fb8d4471df0de664878accded15"), looks := false }, kinds := [], alts := [], laidByText := true, laidKinds := [.data, .data], laidTests := true, laidLooks := .later }
def TreeWayCardSaid : Prop := Claim7.holds Tryd.pinned (.plain (OpenSpec.ofChange treeWaySpec)) treeWayCard

/-- THE TIED CARD OF 'suffraganlaw21.TreeFinds'. -/
def treeFindsCard : Claim7 := { stood := { row := treeFindsRow, standIns := [], harness := (true, "4ba88557a6e7286a4107b4fbdc90db1480dd7fb8d4471df0de664878accded15"), looks := false }, kinds := [], alts := [], laidByText := true, laidKinds := [.data, .data], laidTests := true, laidLooks := .later }
def TreeFindsCardSaid : Prop := Claim7.holds Tryd.pinned (.plain (OpenSpec.ofChange treeFindsSpec)) treeFindsCard

/-- THE TIED CARD OF 'suffraganlaw21.TreeSums'. -/
def treeSumsCard : Claim7 := { stood := { row := treeSumsRow, standIns := [], harness := (true, "4ba88557a6e7286a4107b4fbdc90db1480dd7fb8d4471df0de664878accded15"), looks := false }, kinds := [], alts := [], laidByText := true, laidKinds := [.data, .data], laidTests := true, laidLooks := .later }
def TreeSumsCardSaid : Prop := Claim7.holds Tryd.pinned (.plain (OpenSpec.ofChange treeSumsSpec)) treeSumsCard

/-- THE TIED CARD OF 'suffraganlaw21.TreePaths'. -/
def treePathsCard : Claim7 := { stood := { row := treePathsRow, standIns := [], harness := (true, "4ba88557a6e7286a4107b4fbdc90db1480dd7fb8d4471df0de664878accded15"), looks := false }, kinds := [], alts := [], laidByText := true, laidKinds := [.data, .data], laidTests := true, laidLooks := .later }
def TreePathsCardSaid : Prop := Claim7.holds Tryd.pinned (.plain (OpenSpec.ofChange treePathsSpec)) treePathsCard

/-- THE SECOND FORM's CARD OF 'suffraganlaw21.TreeAny'. -/
def treeAnyUptoCard : Claim7 := { stood := { row := treeAnyUptoRow, standIns := [], harness := (true, "4ba88557a6e7286a4107b4fbdc90db1480dd7fb8d4471df0de664878accded15"), looks := false }, kinds := [], alts := [], laidByText := true, laidKinds := [.data, .data], laidTests := true, laidLooks := .later }
def TreeAnyUptoCardSaid : Prop := Claim7.holds Tryd.pinned (.plain (OpenSpec.upto treeAnySpec)) treeAnyUptoCard

/-- THE SECOND FORM's CARD OF 'suffraganlaw21.TreeWay'. -/
def treeWayUptoCard : Claim7 := { stood := { row := treeWayUptoRow, standIns := [], harness := (true, "4ba88557a6e7286a4107b4fbdc90db1480dd7fb8d4471df0de664878accded15"), looks := false }, kinds := [], alts := [], laidByText := true, laidKinds := [.data, .data], laidTests := true, laidLooks := .later }
def TreeWayUptoCardSaid : Prop := Claim7.holds Tryd.pinned (.plain (OpenSpec.upto treeWaySpec)) treeWayUptoCard

/-- THE SECOND FORM's CARD OF 'suffraganlaw21.TreeFinds'. -/
def treeFindsUptoCard : Claim7 := { stood := { row := treeFindsUptoRow, standIns := [], harness := (true, "4ba88557a6e7286a4107b4fbdc90db1480dd7fb8d4471df0de664878accded15"), looks := false }, kinds := [], alts := [], laidByText := true, laidKinds := [.data, .data], laidTests := true, laidLooks := .later }
def TreeFindsUptoCardSaid : Prop := Claim7.holds Tryd.pinned (.plain (OpenSpec.upto treeFindsSpec)) treeFindsUptoCard

/-- THE SECOND FORM's CARD OF 'suffraganlaw21.TreeSums'. -/
def treeSumsUptoCard : Claim7 := { stood := { row := treeSumsUptoRow, standIns := [], harness := (true, "4ba88557a6e7286a4107b4fbdc90db1480dd7fb8d4471df0de664878accded15"), looks := false }, kinds := [], alts := [], laidByText := true, laidKinds := [.data, .data], laidTests := true, laidLooks := .later }
def TreeSumsUptoCardSaid : Prop := Claim7.holds Tryd.pinned (.plain (OpenSpec.upto treeSumsSpec)) treeSumsUptoCard

/-- THE SECOND FORM's CARD OF 'suffraganlaw21.TreePaths'. -/
def treePathsUptoCard : Claim7 := { stood := { row := treePathsUptoRow, standIns := [], harness := (true, "4ba88557a6e7286a4107b4fbdc90db1480dd7fb8d4471df0de664878accded15"), looks := false }, kinds := [], alts := [], laidByText := true, laidKinds := [.data, .data], laidTests := true, laidLooks := .later }
def TreePathsUptoCardSaid : Prop := Claim7.holds Tryd.pinned (.plain (OpenSpec.upto treePathsSpec)) treePathsUptoCard
end Rows
end Go.Proofs.YtnhkbbladifmmaaDoor
