
import Derived.Test.YtnhkbbladifmmaaDoorPfxC
namespace Go.Proofs.YtnhkbbladifmmaaDoor
set_option linter.unusedVariables false
set_option linter.unusedSimpArgs false
set_option linter.unnecessarySimpa false
open Go.RowKit
set_option maxRecDepth 20000

theorem text_any (v : Value) (l : List UInt8) (s : ByteArray) (base : Nat) (w : World) (h : Own w base 5 v l) (hb : base ≤ w.heap.size) (hl : l.length + 8 + s.size ≤ 140737488355328) :
    Calls Tryd.prog 70 #[v, .string s] w fun e w' => ∃ v', e = .returned v' ∧ Own w' base 5 v' (l ++ enc s.size ++ s.data.toList) ∧ Below base w w' := by
  have hel := enc_length s.size (by omega)
  have hns := nsize_le s.size
  have HE := Lib.hid hel
  clear hel
  go_enter Tryd.func70, Tryd.ntmps70
  go_wp2_with (first
    | (go_at_call 68; refine (class_any _ _).mono ?_; rintro e w' ⟨rfl, rfl⟩)
    | (go_at_call 69; refine (put_any v l _ base _ h hb (by omega) (by omega) (by omega)).mono ?_; rintro e w2 ⟨v2, rfl, ho2, hb2⟩; have s2 := hb2.size)
    | (at_builtin; refine app_string (base := base) Tryd.underlying23 Tryd.underlying9 info_byte rfl _ _ rfl rfl ho2 rfl (by have := HE.out; simp [this]; omega) (by omega) ?_; intro v3 w3 ho3 hb3))
  go_ret
  refine ⟨v3, rfl, by simpa using ho3, hb2.trans hb3⟩

theorem PutText_any (v : Value) (l : List UInt8) (s : ByteArray) (w : World) (h : Sh w v l) (hl : l.length + 8 + s.size ≤ 140737488355328) :
    Calls Tryd.prog 46 #[v, .string s] w fun e w' => ∃ v', e = .returned v' ∧ Own w' w.heap.size 5 v' (l ++ enc s.size ++ s.data.toList) ∧ Below w.heap.size w w' := by
  go_enter Tryd.func46, Tryd.ntmps46
  go_wp2_with (first
    | (go_at_call 67; refine (clone_any v l w h (by omega)).mono ?_; rintro e w1 ⟨v1, rfl, ho1, hb1⟩; have s1 := hb1.size)
    | (go_at_call 70; refine (text_any v1 l s w.heap.size _ ho1 s1 hl).mono ?_; rintro e w2 ⟨v2, rfl, ho2, hb2⟩))
  go_ret
  exact ⟨v2, rfl, ho2, hb1.trans hb2⟩
end Go.Proofs.YtnhkbbladifmmaaDoor
