/- The document's tree (ref21): Good; ref07.Ints; the law's before, on. -/
import Derived.Test.YticabllkadpmeaaDoorTre3
namespace Go.Proofs.YticabllkadpmeaaDoor
set_option linter.unusedVariables false
set_option linter.unusedSimpArgs false
set_option linter.unnecessarySimpa false
open Go.RowKit
open Tre (It)
set_option maxRecDepth 100000
set_option maxHeartbeats 4000000

end Go.Proofs.YticabllkadpmeaaDoor
