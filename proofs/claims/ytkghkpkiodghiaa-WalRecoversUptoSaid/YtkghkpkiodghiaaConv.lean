/- 'string(b)' of bytes. -/
import Derived.Test.YtkghkpkiodghiaaRows
import Derived.Test.YtkghkpkiodghiaaBase
namespace Go.Proofs.Ytkghkpkiodghiaa
set_option linter.unusedVariables false
set_option linter.unusedSimpArgs false
set_option linter.unnecessarySimpa false
open Go.RowKit
set_option maxRecDepth 20000

theorem conv_run {w : World} {v : Value} {l : List UInt8} (h : Sh w v l) : (convert 27 9 v).run Try.prog w = .ok (.string ⟨l.toArray⟩) w :=
  run_string_of Try.underlying27 Try.underlying5 Try.underlying9 h

/-- 'string(v)' in every world behind W. -/
theorem conv_later {W : World} {v : Value} {l : List UInt8} (h : Sh W v l) : ∀ w, Below W.heap.size W w → (convert 27 9 v).run Try.prog w = .ok (.string ⟨l.toArray⟩) w := fun w hb => conv_run (h.below hb)

end Go.Proofs.Ytkghkpkiodghiaa
