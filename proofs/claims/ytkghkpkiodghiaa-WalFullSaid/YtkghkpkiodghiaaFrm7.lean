/- Frames: the document's Take; the program's Take. -/
import Derived.Test.YtkghkpkiodghiaaFrm6
import Derived.Test.YtkghkpkiodghiaaPfxRef2
namespace Go.Proofs.Ytkghkpkiodghiaa
set_option linter.unusedVariables false
set_option linter.unusedSimpArgs false
set_option linter.unnecessarySimpa false
open Go.RowKit
set_option maxRecDepth 100000
set_option maxHeartbeats 4000000

theorem Own.none (w : World) (base e : Nat) : Own w base e (.slice none 0 0) [] := by
  exact Own1.nil w base e
end Go.Proofs.Ytkghkpkiodghiaa
