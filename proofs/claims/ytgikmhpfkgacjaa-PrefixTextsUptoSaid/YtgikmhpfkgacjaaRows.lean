/-
  No cell of these rows narrows 'for every input' (looked for: loops, veiled, ifaces, maps, wideKeys, modest, calm, conditions, laid).
  DERIVED. THE GIVEN ROWS OF THIS SEAT. 7 by the template 'for every input the law returns true; each argument reads behind the call as it read before'; 0 by the template 'total and deterministic' (their statements: YtgikmhpfkgacjaaTotals.lean).
  GIVEN WITH THE SEED: the statements are not yours to turn. If you find one false, say at which input.
  Laid BY PROGRAM, IN A SANDBOX (cutbox-rows.mjs): the forced cells as the released guide's own fill.sh prints them over the translation db23d8e94ea02bff… (all of the seat's roots in one cut). By AI agents, Wed Nov 11 2026. No macro, syntax, notation, axiom, sorry.
-/
import Derived.Test.YtgikmhpfkgacjaaChecked
import GoSem.Claim
import GoSem.ClaimJoined
import GoSem.ClaimMapViews
import Derived.JoinedTies
import Derived.KernelRfl
namespace Go.Proofs.Ytgikmhpfkgacjaa
/- THE CELL 'sum', in the pinned program and in every row, IS THE sha256 OF THE DUMP (.gsa) THAT YtgikmhpfkgacjaaProg.lean LOADS. Nothing in Lean hashes anything: it is a label: what it is worth is what the hold of that sum in a sandbox is worth. -/
noncomputable def Try.pinned : Pinned := { name := "ytgikmhpfkgacjaa", sum := "db23d8e94ea02bffa194d726d009e1a0ce9fc7b77e19f682b9918cc644f3670c", checked := Try.checked }
namespace Rows
def none {H : Type} : Left H := { results := [], args := [] }

/-- 'suffraganlaw01.PrefixPuts': WHATEVER THE INPUT: true; the input reads as it did. -/
def prefixPutsSpec : ChangeSpec := { name := "prefixPuts", fn := fun _ => fun
  | [d1, d2] => { results := [.lit (.bool true)], args := [d1, d2] }
  | _ => none }
def prefixPutsRow : OpenClaim := { program := "ytgikmhpfkgacjaa", sum := "db23d8e94ea02bffa194d726d009e1a0ce9fc7b77e19f682b9918cc644f3670c", func := "suffragan/suffraganlaw01.PrefixPuts", spec := "prefixPuts", apart := false }
def PrefixPutsSaid : Prop := prefixPutsRow.holds Try.pinned (OpenSpec.ofChange prefixPutsSpec)

/-- ITS FALSE NEIGHBOUR: 'it returns false'. Refute it at one input. -/
def prefixPutsWrong : ChangeSpec := { name := "prefixPuts", fn := fun _ => fun
  | [d1, d2] => { results := [.lit (.bool false)], args := [d1, d2] }
  | _ => none }
def PrefixPutsWrongFalsely : Prop := prefixPutsRow.holds Try.pinned (OpenSpec.ofChange prefixPutsWrong)

/-- 'suffraganlaw01.PrefixOrder': WHATEVER THE INPUT: true; the input reads as it did. -/
def prefixOrderSpec : ChangeSpec := { name := "prefixOrder", fn := fun _ => fun
  | [d1, d2] => { results := [.lit (.bool true)], args := [d1, d2] }
  | _ => none }
def prefixOrderRow : OpenClaim := { program := "ytgikmhpfkgacjaa", sum := "db23d8e94ea02bffa194d726d009e1a0ce9fc7b77e19f682b9918cc644f3670c", func := "suffragan/suffraganlaw01.PrefixOrder", spec := "prefixOrder", apart := false }
def PrefixOrderSaid : Prop := prefixOrderRow.holds Try.pinned (OpenSpec.ofChange prefixOrderSpec)

/-- ITS FALSE NEIGHBOUR: 'it returns false'. Refute it at one input. -/
def prefixOrderWrong : ChangeSpec := { name := "prefixOrder", fn := fun _ => fun
  | [d1, d2] => { results := [.lit (.bool false)], args := [d1, d2] }
  | _ => none }
def PrefixOrderWrongFalsely : Prop := prefixOrderRow.holds Try.pinned (OpenSpec.ofChange prefixOrderWrong)

/-- 'suffraganlaw01.PrefixSizes': WHATEVER THE INPUT: true; the input reads as it did. -/
def prefixSizesSpec : ChangeSpec := { name := "prefixSizes", fn := fun _ => fun
  | [d1, d2] => { results := [.lit (.bool true)], args := [d1, d2] }
  | _ => none }
def prefixSizesRow : OpenClaim := { program := "ytgikmhpfkgacjaa", sum := "db23d8e94ea02bffa194d726d009e1a0ce9fc7b77e19f682b9918cc644f3670c", func := "suffragan/suffraganlaw01.PrefixSizes", spec := "prefixSizes", apart := false }
def PrefixSizesSaid : Prop := prefixSizesRow.holds Try.pinned (OpenSpec.ofChange prefixSizesSpec)

/-- ITS FALSE NEIGHBOUR: 'it returns false'. Refute it at one input. -/
def prefixSizesWrong : ChangeSpec := { name := "prefixSizes", fn := fun _ => fun
  | [d1, d2] => { results := [.lit (.bool false)], args := [d1, d2] }
  | _ => none }
def PrefixSizesWrongFalsely : Prop := prefixSizesRow.holds Try.pinned (OpenSpec.ofChange prefixSizesWrong)

/-- 'suffraganlaw01.PrefixTakes': WHATEVER THE INPUT: true; the input reads as it did. -/
def prefixTakesSpec : ChangeSpec := { name := "prefixTakes", fn := fun _ => fun
  | [d] => { results := [.lit (.bool true)], args := [d] }
  | _ => none }
def prefixTakesRow : OpenClaim := { program := "ytgikmhpfkgacjaa", sum := "db23d8e94ea02bffa194d726d009e1a0ce9fc7b77e19f682b9918cc644f3670c", func := "suffragan/suffraganlaw01.PrefixTakes", spec := "prefixTakes", apart := false }
def PrefixTakesSaid : Prop := prefixTakesRow.holds Try.pinned (OpenSpec.ofChange prefixTakesSpec)

/-- ITS FALSE NEIGHBOUR: 'it returns false'. Refute it at one input. -/
def prefixTakesWrong : ChangeSpec := { name := "prefixTakes", fn := fun _ => fun
  | [d] => { results := [.lit (.bool false)], args := [d] }
  | _ => none }
def PrefixTakesWrongFalsely : Prop := prefixTakesRow.holds Try.pinned (OpenSpec.ofChange prefixTakesWrong)

/-- 'suffraganlaw01.PrefixBack': WHATEVER THE INPUT: true; the input reads as it did. -/
def prefixBackSpec : ChangeSpec := { name := "prefixBack", fn := fun _ => fun
  | [d1, d2, d3] => { results := [.lit (.bool true)], args := [d1, d2, d3] }
  | _ => none }
def prefixBackRow : OpenClaim := { program := "ytgikmhpfkgacjaa", sum := "db23d8e94ea02bffa194d726d009e1a0ce9fc7b77e19f682b9918cc644f3670c", func := "suffragan/suffraganlaw01.PrefixBack", spec := "prefixBack", apart := false }
def PrefixBackSaid : Prop := prefixBackRow.holds Try.pinned (OpenSpec.ofChange prefixBackSpec)

/-- ITS FALSE NEIGHBOUR: 'it returns false'. Refute it at one input. -/
def prefixBackWrong : ChangeSpec := { name := "prefixBack", fn := fun _ => fun
  | [d1, d2, d3] => { results := [.lit (.bool false)], args := [d1, d2, d3] }
  | _ => none }
def PrefixBackWrongFalsely : Prop := prefixBackRow.holds Try.pinned (OpenSpec.ofChange prefixBackWrong)

/-- 'suffraganlaw01.PrefixText': WHATEVER THE INPUT: true; the input reads as it did. -/
def prefixTextSpec : ChangeSpec := { name := "prefixText", fn := fun _ => fun
  | [d1, d2, d3] => { results := [.lit (.bool true)], args := [d1, d2, d3] }
  | _ => none }
def prefixTextRow : OpenClaim := { program := "ytgikmhpfkgacjaa", sum := "db23d8e94ea02bffa194d726d009e1a0ce9fc7b77e19f682b9918cc644f3670c", func := "suffragan/suffraganlaw01.PrefixText", spec := "prefixText", apart := false }
def PrefixTextSaid : Prop := prefixTextRow.holds Try.pinned (OpenSpec.ofChange prefixTextSpec)

/-- ITS FALSE NEIGHBOUR: 'it returns false'. Refute it at one input. -/
def prefixTextWrong : ChangeSpec := { name := "prefixText", fn := fun _ => fun
  | [d1, d2, d3] => { results := [.lit (.bool false)], args := [d1, d2, d3] }
  | _ => none }
def PrefixTextWrongFalsely : Prop := prefixTextRow.holds Try.pinned (OpenSpec.ofChange prefixTextWrong)

/-- 'suffraganlaw01.PrefixTexts': WHATEVER THE INPUT: true; the input reads as it did. -/
def prefixTextsSpec : ChangeSpec := { name := "prefixTexts", fn := fun _ => fun
  | [d1, d2, d3] => { results := [.lit (.bool true)], args := [d1, d2, d3] }
  | _ => none }
def prefixTextsRow : OpenClaim := { program := "ytgikmhpfkgacjaa", sum := "db23d8e94ea02bffa194d726d009e1a0ce9fc7b77e19f682b9918cc644f3670c", func := "suffragan/suffraganlaw01.PrefixTexts", spec := "prefixTexts", apart := false }
def PrefixTextsSaid : Prop := prefixTextsRow.holds Try.pinned (OpenSpec.ofChange prefixTextsSpec)

/-- ITS FALSE NEIGHBOUR: 'it returns false'. Refute it at one input. -/
def prefixTextsWrong : ChangeSpec := { name := "prefixTexts", fn := fun _ => fun
  | [d1, d2, d3] => { results := [.lit (.bool false)], args := [d1, d2, d3] }
  | _ => none }
def PrefixTextsWrongFalsely : Prop := prefixTextsRow.holds Try.pinned (OpenSpec.ofChange prefixTextsWrong)

/- THE SECOND FORM. 'bulk': how many values and letters a reading holds, each counted each time it is reached (what is shared counts as often as it is met; a slice's spare places count too). A statement '..UptoSaid' is the law's where the arguments, and the package variables that the reading takes, are together of bulk at most 1048576: NARROWER than '..Said'. Prove '..Said' where nothing that the law and all that it calls make is longer than what came in: it says more and counts as full. Else prove '..UptoSaid'. A law counts once. -/
mutual
def uptoBulk {H : Type} : DataW H → Nat
  | .lit (.string bytes) => bytes.length + 1
  | .lit _ => 1
  | .nil => 1
  | .ptr d => uptoBulk d + 1
  | .slice elems spare => uptoBulkAll elems + uptoBulkAll spare + 1
  | .agg parts => uptoBulkAll parts + 1
  | .iface _ d => uptoBulk d + 1
  | .map entries => uptoBulkEntries entries + 1
  | .held _ => 1
def uptoBulkAll {H : Type} : List (DataW H) → Nat
  | [] => 0
  | d :: r => uptoBulk d + uptoBulkAll r
def uptoBulkEntries {H : Type} : List (Lit × DataW H) → Nat
  | [] => 0
  | x :: r => uptoBulkEntry x + uptoBulkEntries r
def uptoBulkEntry {H : Type} : Lit × DataW H → Nat
  | (.string bytes, d) => bytes.length + uptoBulk d + 1
  | (_, d) => uptoBulk d + 1
 end
def uptoSmall : (H : Type) → List (DataW H) → Bool := fun _ ds => decide (uptoBulkAll ds ≤ 1048576)
def OpenSpec.upto (s : _root_.Go.ChangeSpec) : _root_.Go.OpenSpec := { _root_.Go.OpenSpec.ofChange s with cond := some uptoSmall }

/-- 'suffraganlaw01.PrefixPuts', WHERE WHAT IT READS IS OF BULK AT MOST 1048576: true; the input reads as it did. -/
def prefixPutsUptoRow : OpenClaim := { program := "ytgikmhpfkgacjaa", sum := "db23d8e94ea02bffa194d726d009e1a0ce9fc7b77e19f682b9918cc644f3670c", func := "suffragan/suffraganlaw01.PrefixPuts", spec := "prefixPuts", apart := false, narrowed := true }
def PrefixPutsUptoSaid : Prop := prefixPutsUptoRow.holds Try.pinned (OpenSpec.upto prefixPutsSpec)

/-- 'suffraganlaw01.PrefixOrder', WHERE WHAT IT READS IS OF BULK AT MOST 1048576: true; the input reads as it did. -/
def prefixOrderUptoRow : OpenClaim := { program := "ytgikmhpfkgacjaa", sum := "db23d8e94ea02bffa194d726d009e1a0ce9fc7b77e19f682b9918cc644f3670c", func := "suffragan/suffraganlaw01.PrefixOrder", spec := "prefixOrder", apart := false, narrowed := true }
def PrefixOrderUptoSaid : Prop := prefixOrderUptoRow.holds Try.pinned (OpenSpec.upto prefixOrderSpec)

/-- 'suffraganlaw01.PrefixSizes', WHERE WHAT IT READS IS OF BULK AT MOST 1048576: true; the input reads as it did. -/
def prefixSizesUptoRow : OpenClaim := { program := "ytgikmhpfkgacjaa", sum := "db23d8e94ea02bffa194d726d009e1a0ce9fc7b77e19f682b9918cc644f3670c", func := "suffragan/suffraganlaw01.PrefixSizes", spec := "prefixSizes", apart := false, narrowed := true }
def PrefixSizesUptoSaid : Prop := prefixSizesUptoRow.holds Try.pinned (OpenSpec.upto prefixSizesSpec)

/-- 'suffraganlaw01.PrefixTakes', WHERE WHAT IT READS IS OF BULK AT MOST 1048576: true; the input reads as it did. -/
def prefixTakesUptoRow : OpenClaim := { program := "ytgikmhpfkgacjaa", sum := "db23d8e94ea02bffa194d726d009e1a0ce9fc7b77e19f682b9918cc644f3670c", func := "suffragan/suffraganlaw01.PrefixTakes", spec := "prefixTakes", apart := false, narrowed := true }
def PrefixTakesUptoSaid : Prop := prefixTakesUptoRow.holds Try.pinned (OpenSpec.upto prefixTakesSpec)

/-- 'suffraganlaw01.PrefixBack', WHERE WHAT IT READS IS OF BULK AT MOST 1048576: true; the input reads as it did. -/
def prefixBackUptoRow : OpenClaim := { program := "ytgikmhpfkgacjaa", sum := "db23d8e94ea02bffa194d726d009e1a0ce9fc7b77e19f682b9918cc644f3670c", func := "suffragan/suffraganlaw01.PrefixBack", spec := "prefixBack", apart := false, narrowed := true }
def PrefixBackUptoSaid : Prop := prefixBackUptoRow.holds Try.pinned (OpenSpec.upto prefixBackSpec)

/-- 'suffraganlaw01.PrefixText', WHERE WHAT IT READS IS OF BULK AT MOST 1048576: true; the input reads as it did. -/
def prefixTextUptoRow : OpenClaim := { program := "ytgikmhpfkgacjaa", sum := "db23d8e94ea02bffa194d726d009e1a0ce9fc7b77e19f682b9918cc644f3670c", func := "suffragan/suffraganlaw01.PrefixText", spec := "prefixText", apart := false, narrowed := true }
def PrefixTextUptoSaid : Prop := prefixTextUptoRow.holds Try.pinned (OpenSpec.upto prefixTextSpec)

/-- 'suffraganlaw01.PrefixTexts', WHERE WHAT IT READS IS OF BULK AT MOST 1048576: true; the input reads as it did. -/
def prefixTextsUptoRow : OpenClaim := { program := "ytgikmhpfkgacjaa", sum := "db23d8e94ea02bffa194d726d009e1a0ce9fc7b77e19f682b9918cc644f3670c", func := "suffragan/suffraganlaw01.PrefixTexts", spec := "prefixTexts", apart := false, narrowed := true }
def PrefixTextsUptoSaid : Prop := prefixTextsUptoRow.holds Try.pinned (OpenSpec.upto prefixTextsSpec)

end Rows
end Go.Proofs.Ytgikmhpfkgacjaa
