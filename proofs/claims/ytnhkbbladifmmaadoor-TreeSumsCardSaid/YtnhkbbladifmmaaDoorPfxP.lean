
import Derived.Test.YtnhkbbladifmmaaDoorPfxC
namespace Go.Proofs.YtnhkbbladifmmaaDoor
set_option linter.unusedVariables false
set_option linter.unusedSimpArgs false
set_option linter.unnecessarySimpa false
open Go.RowKit
set_option maxRecDepth 20000

theorem Put_any (v : Value) (l : List UInt8) (n : Int) (w : World) (h : Sh w v l) (hl : l.length + 8 ≤ 140737488355328) (h0 : 0 ≤ n) (hn : n < 4611686018427387904) :
    Calls Tryd.prog 45 #[v, .int .u64 n] w fun e w' => ∃ v', e = .returned (.tuple #[v', .int .i64 0]) ∧ Own w' w.heap.size 5 v' (l ++ enc n.toNat) ∧ Below w.heap.size w w' := by
  have hc := cls_lo n hn
  have HN := Lib.hid hn
  clear hn
  go_enter Tryd.func45, Tryd.ntmps45
  go_wp2_with (first
    | (go_at_call 67; refine (clone_any v l w h (by omega)).mono ?_; rintro e w1 ⟨v1, rfl, ho1, hb1⟩; have s1 := hb1.size)
    | (go_at_call 68; refine (class_any _ _).mono ?_; rintro e w' ⟨rfl, rfl⟩)
    | (go_at_call 69; refine (put_any v1 l n w.heap.size _ ho1 s1 hl h0 HN.out).mono ?_; rintro e w2 ⟨v2, rfl, ho2, hb2⟩))
  go_ret2
  exact ⟨v2, rfl, ho2, hb1.trans hb2⟩
theorem Put_no (v : Value) (l : List UInt8) (n : Int) (w : World) (h : Sh w v l) (hl : l.length + 8 ≤ 140737488355328) (hn : 4611686018427387904 ≤ n) :
    Calls Tryd.prog 45 #[v, .int .u64 n] w fun e w' => ∃ v', e = .returned (.tuple #[v', .int .i64 1]) ∧ Own w' w.heap.size 5 v' l ∧ Below w.heap.size w w' := by
  have hc := cls_hi n hn
  go_enter Tryd.func45, Tryd.ntmps45
  go_wp2_with (first
    | (go_at_call 67; refine (clone_any v l w h (by omega)).mono ?_; rintro e w1 ⟨v1, rfl, ho1, hb1⟩; have s1 := hb1.size)
    | (go_at_call 68; refine (class_any _ _).mono ?_; rintro e w' ⟨rfl, rfl⟩))
  go_ret2
  exact ⟨v1, rfl, ho1, hb1⟩

end Go.Proofs.YtnhkbbladifmmaaDoor
