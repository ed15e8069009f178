
import Derived.Test.YtnhkbbladifmmaaDoorPfx
namespace Go.Proofs.YtnhkbbladifmmaaDoor
set_option linter.unusedVariables false
set_option linter.unusedSimpArgs false
set_option linter.unnecessarySimpa false
open Go.RowKit
set_option maxRecDepth 20000

theorem cls_lo (n : Int) (h : n < 4611686018427387904) : 0 ≤ cls n := by unfold cls; repeat' split; all_goals omega
theorem cls_hi (n : Int) (h : 4611686018427387904 ≤ n) : cls n < 0 := by unfold cls; repeat' split; all_goals omega

end Go.Proofs.YtnhkbbladifmmaaDoor
