
import Derived.Test.YtkghkpkiodghiaaPfx3
namespace Go.Proofs.Ytkghkpkiodghiaa
set_option linter.unusedVariables false
set_option linter.unusedSimpArgs false
set_option linter.unnecessarySimpa false
open Go.RowKit
set_option maxRecDepth 20000

end Go.Proofs.Ytkghkpkiodghiaa
