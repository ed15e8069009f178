/- A log's snapshot as it is read. -/
import Derived.Test.YtkghkpkiodghiaaWal3
namespace Go.Proofs.Ytkghkpkiodghiaa
set_option linter.unusedVariables false
set_option linter.unusedSimpArgs false
set_option linter.unnecessarySimpa false
open Go.RowKit
set_option maxRecDepth 100000
set_option maxHeartbeats 4000000

theorem snapshot_nil (v : Value) (l : List UInt8) (h : Nat) (w : World) (hl : Sh w v l) (h0 : l.length = 0) :
    Calls Try.prog 23 #[v, .pointer (some ⟨h, 0, none⟩)] w fun e w' => e = .returned (.int .i64 0) ∧ w' = w := by
  obtain ⟨x, c, rfl, g1, g2, g3, g4⟩ := hl.open
  rw [h0]
  clear hl g1 g3 g4 h0
  go_enter Try.func23, Try.ntmps23
  go_wp2_with fail
  go_ret
  exact ⟨rfl, rfl⟩
end Go.Proofs.Ytkghkpkiodghiaa
