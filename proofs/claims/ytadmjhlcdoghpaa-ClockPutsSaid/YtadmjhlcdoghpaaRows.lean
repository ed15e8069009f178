/-
  No cell of these rows narrows 'for every input' (looked for: loops, veiled, ifaces, maps, wideKeys, modest, calm, conditions, laid).
  DERIVED. THE GIVEN ROWS OF THIS SEAT. 5 by the template 'for every input the law returns true; each argument reads behind the call as it read before'; 0 by the template 'total and deterministic' (their statements: YtadmjhlcdoghpaaTotals.lean).
  GIVEN WITH THE SEED: the statements are not yours to turn. If you find one false, say at which input.
  Laid BY PROGRAM, IN A SANDBOX (cutbox-rows.mjs): the forced cells as the released guide's own fill.sh prints them over the translation f1217ee209e8ef84… (all of the seat's roots in one cut). By AI agents, Wed Nov 11 2026. No macro, syntax, notation, axiom, sorry.
-/
import Derived.Test.YtadmjhlcdoghpaaChecked
import GoSem.Claim
import GoSem.ClaimJoined
import GoSem.ClaimMapViews
import Derived.JoinedTies
import Derived.KernelRfl
namespace Go.Proofs.Ytadmjhlcdoghpaa
/- THE CELL 'sum', in the pinned program and in every row, IS THE sha256 OF THE DUMP (.gsa) THAT YtadmjhlcdoghpaaProg.lean LOADS. Nothing in Lean hashes anything: it is a label: what it is worth is what the hold of that sum in a sandbox is worth. -/
noncomputable def Try.pinned : Pinned := { name := "ytadmjhlcdoghpaa", sum := "f1217ee209e8ef84dc656981d3ddbe7eb18c9fc75c75346851a2204d90b0175b", checked := Try.checked }
namespace Rows
def none {H : Type} : Left H := { results := [], args := [] }

/-- 'suffraganlaw13.ClockAbove': WHATEVER THE INPUT: true; the input reads as it did. -/
def clockAboveSpec : ChangeSpec := { name := "clockAbove", fn := fun _ => fun
  | [d1, d2, d3] => { results := [.lit (.bool true)], args := [d1, d2, d3] }
  | _ => none }
def clockAboveRow : OpenClaim := { program := "ytadmjhlcdoghpaa", sum := "f1217ee209e8ef84dc656981d3ddbe7eb18c9fc75c75346851a2204d90b0175b", func := "suffragan/suffraganlaw13.ClockAbove", spec := "clockAbove", apart := false }
def ClockAboveSaid : Prop := clockAboveRow.holds Try.pinned (OpenSpec.ofChange clockAboveSpec)

/-- ITS FALSE NEIGHBOUR: 'it returns false'. Refute it at one input. -/
def clockAboveWrong : ChangeSpec := { name := "clockAbove", fn := fun _ => fun
  | [d1, d2, d3] => { results := [.lit (.bool false)], args := [d1, d2, d3] }
  | _ => none }
def ClockAboveWrongFalsely : Prop := clockAboveRow.holds Try.pinned (OpenSpec.ofChange clockAboveWrong)

/-- 'suffraganlaw13.ClockAny': WHATEVER THE INPUT: true; the input reads as it did. -/
def clockAnySpec : ChangeSpec := { name := "clockAny", fn := fun _ => fun
  | [d1, d2] => { results := [.lit (.bool true)], args := [d1, d2] }
  | _ => none }
def clockAnyRow : OpenClaim := { program := "ytadmjhlcdoghpaa", sum := "f1217ee209e8ef84dc656981d3ddbe7eb18c9fc75c75346851a2204d90b0175b", func := "suffragan/suffraganlaw13.ClockAny", spec := "clockAny", apart := false }
def ClockAnySaid : Prop := clockAnyRow.holds Try.pinned (OpenSpec.ofChange clockAnySpec)

/-- ITS FALSE NEIGHBOUR: 'it returns false'. Refute it at one input. -/
def clockAnyWrong : ChangeSpec := { name := "clockAny", fn := fun _ => fun
  | [d1, d2] => { results := [.lit (.bool false)], args := [d1, d2] }
  | _ => none }
def ClockAnyWrongFalsely : Prop := clockAnyRow.holds Try.pinned (OpenSpec.ofChange clockAnyWrong)

/-- 'suffraganlaw13.ClockTicks': WHATEVER THE INPUT: true; the input reads as it did. -/
def clockTicksSpec : ChangeSpec := { name := "clockTicks", fn := fun _ => fun
  | [d1, d2] => { results := [.lit (.bool true)], args := [d1, d2] }
  | _ => none }
def clockTicksRow : OpenClaim := { program := "ytadmjhlcdoghpaa", sum := "f1217ee209e8ef84dc656981d3ddbe7eb18c9fc75c75346851a2204d90b0175b", func := "suffragan/suffraganlaw13.ClockTicks", spec := "clockTicks", apart := false }
def ClockTicksSaid : Prop := clockTicksRow.holds Try.pinned (OpenSpec.ofChange clockTicksSpec)

/-- ITS FALSE NEIGHBOUR: 'it returns false'. Refute it at one input. -/
def clockTicksWrong : ChangeSpec := { name := "clockTicks", fn := fun _ => fun
  | [d1, d2] => { results := [.lit (.bool false)], args := [d1, d2] }
  | _ => none }
def ClockTicksWrongFalsely : Prop := clockTicksRow.holds Try.pinned (OpenSpec.ofChange clockTicksWrong)

/-- 'suffraganlaw13.ClockMerges': WHATEVER THE INPUT: true; the input reads as it did. -/
def clockMergesSpec : ChangeSpec := { name := "clockMerges", fn := fun _ => fun
  | [d1, d2, d3] => { results := [.lit (.bool true)], args := [d1, d2, d3] }
  | _ => none }
def clockMergesRow : OpenClaim := { program := "ytadmjhlcdoghpaa", sum := "f1217ee209e8ef84dc656981d3ddbe7eb18c9fc75c75346851a2204d90b0175b", func := "suffragan/suffraganlaw13.ClockMerges", spec := "clockMerges", apart := false }
def ClockMergesSaid : Prop := clockMergesRow.holds Try.pinned (OpenSpec.ofChange clockMergesSpec)

/-- ITS FALSE NEIGHBOUR: 'it returns false'. Refute it at one input. -/
def clockMergesWrong : ChangeSpec := { name := "clockMerges", fn := fun _ => fun
  | [d1, d2, d3] => { results := [.lit (.bool false)], args := [d1, d2, d3] }
  | _ => none }
def ClockMergesWrongFalsely : Prop := clockMergesRow.holds Try.pinned (OpenSpec.ofChange clockMergesWrong)

/-- 'suffraganlaw13.ClockPuts': WHATEVER THE INPUT: true; the input reads as it did. -/
def clockPutsSpec : ChangeSpec := { name := "clockPuts", fn := fun _ => fun
  | [d1, d2] => { results := [.lit (.bool true)], args := [d1, d2] }
  | _ => none }
def clockPutsRow : OpenClaim := { program := "ytadmjhlcdoghpaa", sum := "f1217ee209e8ef84dc656981d3ddbe7eb18c9fc75c75346851a2204d90b0175b", func := "suffragan/suffraganlaw13.ClockPuts", spec := "clockPuts", apart := false }
def ClockPutsSaid : Prop := clockPutsRow.holds Try.pinned (OpenSpec.ofChange clockPutsSpec)

/-- ITS FALSE NEIGHBOUR: 'it returns false'. Refute it at one input. -/
def clockPutsWrong : ChangeSpec := { name := "clockPuts", fn := fun _ => fun
  | [d1, d2] => { results := [.lit (.bool false)], args := [d1, d2] }
  | _ => none }
def ClockPutsWrongFalsely : Prop := clockPutsRow.holds Try.pinned (OpenSpec.ofChange clockPutsWrong)

/- THE SECOND FORM. 'bulk': how many values and letters a reading holds, each counted each time it is reached (what is shared counts as often as it is met; a slice's spare places count too). A statement '..UptoSaid' is the law's where the arguments, and the package variables that the reading takes, are together of bulk at most 1048576: NARROWER than '..Said'. Prove '..Said' where nothing that the law and all that it calls make is longer than what came in: it says more and counts as full. Else prove '..UptoSaid'. A law counts once. -/
mutual
def uptoBulk {H : Type} : DataW H → Nat
  | .lit (.string bytes) => bytes.length + 1
  | .lit _ => 1
  | .nil => 1
  | .ptr d => uptoBulk d + 1
  | .slice elems spare => uptoBulkAll elems + uptoBulkAll spare + 1
  | .agg parts => uptoBulkAll parts + 1
  | .iface _ d => uptoBulk d + 1
  | .map entries => uptoBulkEntries entries + 1
  | .held _ => 1
def uptoBulkAll {H : Type} : List (DataW H) → Nat
  | [] => 0
  | d :: r => uptoBulk d + uptoBulkAll r
def uptoBulkEntries {H : Type} : List (Lit × DataW H) → Nat
  | [] => 0
  | x :: r => uptoBulkEntry x + uptoBulkEntries r
def uptoBulkEntry {H : Type} : Lit × DataW H → Nat
  | (.string bytes, d) => bytes.length + uptoBulk d + 1
  | (_, d) => uptoBulk d + 1
 end
def uptoSmall : (H : Type) → List (DataW H) → Bool := fun _ ds => decide (uptoBulkAll ds ≤ 1048576)
def OpenSpec.upto (s : _root_.Go.ChangeSpec) : _root_.Go.OpenSpec := { _root_.Go.OpenSpec.ofChange s with cond := some uptoSmall }

/-- 'suffraganlaw13.ClockAbove', WHERE WHAT IT READS IS OF BULK AT MOST 1048576: true; the input reads as it did. -/
def clockAboveUptoRow : OpenClaim := { program := "ytadmjhlcdoghpaa", sum := "f1217ee209e8ef84dc656981d3ddbe7eb18c9fc75c75346851a2204d90b0175b", func := "suffragan/suffraganlaw13.ClockAbove", spec := "clockAbove", apart := false, narrowed := true }
def ClockAboveUptoSaid : Prop := clockAboveUptoRow.holds Try.pinned (OpenSpec.upto clockAboveSpec)

/-- 'suffraganlaw13.ClockAny', WHERE WHAT IT READS IS OF BULK AT MOST 1048576: true; the input reads as it did. -/
def clockAnyUptoRow : OpenClaim := { program := "ytadmjhlcdoghpaa", sum := "f1217ee209e8ef84dc656981d3ddbe7eb18c9fc75c75346851a2204d90b0175b", func := "suffragan/suffraganlaw13.ClockAny", spec := "clockAny", apart := false, narrowed := true }
def ClockAnyUptoSaid : Prop := clockAnyUptoRow.holds Try.pinned (OpenSpec.upto clockAnySpec)

/-- 'suffraganlaw13.ClockTicks', WHERE WHAT IT READS IS OF BULK AT MOST 1048576: true; the input reads as it did. -/
def clockTicksUptoRow : OpenClaim := { program := "ytadmjhlcdoghpaa", sum := "f1217ee209e8ef84dc656981d3ddbe7eb18c9fc75c75346851a2204d90b0175b", func := "suffragan/suffraganlaw13.ClockTicks", spec := "clockTicks", apart := false, narrowed := true }
def ClockTicksUptoSaid : Prop := clockTicksUptoRow.holds Try.pinned (OpenSpec.upto clockTicksSpec)

/-- 'suffraganlaw13.ClockMerges', WHERE WHAT IT READS IS OF BULK AT MOST 1048576: true; the input reads as it did. -/
def clockMergesUptoRow : OpenClaim := { program := "ytadmjhlcdoghpaa", sum := "f1217ee209e8ef84dc656981d3ddbe7eb18c9fc75c75346851a2204d90b0175b", func := "suffragan/suffraganlaw13.ClockMerges", spec := "clockMerges", apart := false, narrowed := true }
def ClockMergesUptoSaid : Prop := clockMergesUptoRow.holds Try.pinned (OpenSpec.upto clockMergesSpec)

/-- 'suffraganlaw13.ClockPuts', WHERE WHAT IT READS IS OF BULK AT MOST 1048576: true; the input reads as it did. -/
def clockPutsUptoRow : OpenClaim := { program := "ytadmjhlcdoghpaa", sum := "f1217ee209e8ef84dc656981d3ddbe7eb18c9fc75c75346851a2204d90b0175b", func := "suffragan/suffraganlaw13.ClockPuts", spec := "clockPuts", apart := false, narrowed := true }
def ClockPutsUptoSaid : Prop := clockPutsUptoRow.holds Try.pinned (OpenSpec.upto clockPutsSpec)

end Rows
end Go.Proofs.Ytadmjhlcdoghpaa
