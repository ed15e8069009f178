/- Package prefix: Take. -/
import Derived.Test.YtkghkpkiodghiaaPfx3
namespace Go.Proofs.Ytkghkpkiodghiaa
set_option linter.unusedVariables false
set_option linter.unusedSimpArgs false
set_option linter.unnecessarySimpa false
open Go.RowKit
set_option maxRecDepth 20000

theorem Take_any (v : Value) (l : List UInt8) (w : World) (h : Sh w v l) (hl : l.length ≤ 140737488355328) :
    Calls Try.prog 41 #[v] w fun r w' => ∃ v', r = .returned (.tuple #[.int .u64 (tk l).1, v', .int .i64 (tk l).2.2]) ∧ Own w' w.heap.size 5 v' (tkRest l) ∧ Below w.heap.size w w' := by
  have hr : (tkRest l).length ≤ l.length := by unfold tkRest; split <;> simp
  go_enter Try.func41, Try.ntmps41
  go_wp2_with (first
    | (go_at_call 56; refine (take_any v l w h).mono ?_; rintro e w' ⟨v1, rfl, hs1, m, rfl⟩)
    | (go_at_call 37; refine (clone_any v1 _ _ ((hs1 _ h).drewN m) (by omega)).mono ?_; rintro e w2 ⟨v2, rfl, ho2, hb2⟩))
  go_ret3
  exact ⟨v2, rfl, ho2, (drewN_below w m).trans hb2⟩
end Go.Proofs.Ytkghkpkiodghiaa
