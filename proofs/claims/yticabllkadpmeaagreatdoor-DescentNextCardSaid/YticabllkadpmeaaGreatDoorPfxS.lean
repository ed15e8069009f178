
import Derived.Test.YticabllkadpmeaaGreatDoorPfx
namespace Go.Proofs.YticabllkadpmeaaGreatDoor
set_option linter.unusedVariables false
set_option linter.unusedSimpArgs false
set_option linter.unnecessarySimpa false
open Go.RowKit
set_option maxRecDepth 20000

theorem cls_lo (n : Int) (h : n < 4611686018427387904) : 0 ≤ cls n := by unfold cls; repeat' split; all_goals omega
theorem cls_hi (n : Int) (h : 4611686018427387904 ≤ n) : cls n < 0 := by unfold cls; repeat' split; all_goals omega

end Go.Proofs.YticabllkadpmeaaGreatDoor
namespace Go.Proofs.YticabllkadpmeaaGreatDoor
set_option linter.unusedVariables false
set_option linter.unusedSimpArgs false
set_option linter.unnecessarySimpa false
open Go.RowKit
set_option maxRecDepth 20000

theorem Put_any (v : Value) (l : List UInt8) (n : Int) (w : World) (h : Sh w v l) (hl : l.length + 8 ≤ 140737488355328) (h0 : 0 ≤ n) (hn : n < 4611686018427387904) :
    Calls Tryz.prog 28 #[v, .int .u64 n] w fun e w' => ∃ v', e = .returned (.tuple #[v', .int .i64 0]) ∧ Own w' w.heap.size 5 v' (l ++ enc n.toNat) ∧ Below w.heap.size w w' := by
  have hc := cls_lo n hn
  have HN := Lib.hid hn
  clear hn
  go_enter Tryz.func28, Tryz.ntmps28
  go_wp2_with (first
    | (go_at_call 50; refine (clone_any v l w h (by omega)).mono ?_; rintro e w1 ⟨v1, rfl, ho1, hb1⟩; have s1 := hb1.size)
    | (go_at_call 51; refine (class_any _ _).mono ?_; rintro e w' ⟨rfl, rfl⟩)
    | (go_at_call 52; refine (put_any v1 l n w.heap.size _ ho1 s1 hl h0 HN.out).mono ?_; rintro e w2 ⟨v2, rfl, ho2, hb2⟩))
  go_ret2
  exact ⟨v2, rfl, ho2, hb1.trans hb2⟩
theorem Put_no (v : Value) (l : List UInt8) (n : Int) (w : World) (h : Sh w v l) (hl : l.length + 8 ≤ 140737488355328) (hn : 4611686018427387904 ≤ n) :
    Calls Tryz.prog 28 #[v, .int .u64 n] w fun e w' => ∃ v', e = .returned (.tuple #[v', .int .i64 1]) ∧ Own w' w.heap.size 5 v' l ∧ Below w.heap.size w w' := by
  have hc := cls_hi n hn
  go_enter Tryz.func28, Tryz.ntmps28
  go_wp2_with (first
    | (go_at_call 50; refine (clone_any v l w h (by omega)).mono ?_; rintro e w1 ⟨v1, rfl, ho1, hb1⟩; have s1 := hb1.size)
    | (go_at_call 51; refine (class_any _ _).mono ?_; rintro e w' ⟨rfl, rfl⟩))
  go_ret2
  exact ⟨v1, rfl, ho1, hb1⟩

end Go.Proofs.YticabllkadpmeaaGreatDoor
namespace Go.Proofs.YticabllkadpmeaaGreatDoor
set_option linter.unusedVariables false
set_option linter.unusedSimpArgs false
set_option linter.unnecessarySimpa false
open Go.RowKit
set_option maxRecDepth 20000

theorem text_any (v : Value) (l : List UInt8) (s : ByteArray) (base : Nat) (w : World) (h : Own w base 5 v l) (hb : base ≤ w.heap.size) (hl : l.length + 8 + s.size ≤ 140737488355328) :
    Calls Tryz.prog 53 #[v, .string s] w fun e w' => ∃ v', e = .returned v' ∧ Own w' base 5 v' (l ++ enc s.size ++ s.data.toList) ∧ Below base w w' := by
  have hel := enc_length s.size (by omega)
  have hns := nsize_le s.size
  have HE := Lib.hid hel
  clear hel
  go_enter Tryz.func53, Tryz.ntmps53
  go_wp2_with (first
    | (go_at_call 51; refine (class_any _ _).mono ?_; rintro e w' ⟨rfl, rfl⟩)
    | (go_at_call 52; refine (put_any v l _ base _ h hb (by omega) (by omega) (by omega)).mono ?_; rintro e w2 ⟨v2, rfl, ho2, hb2⟩; have s2 := hb2.size)
    | (at_builtin; refine app_string (base := base) Tryz.underlying64 Tryz.underlying9 info_byte rfl _ _ rfl rfl ho2 rfl (by have := HE.out; simp [this]; omega) (by omega) ?_; intro v3 w3 ho3 hb3))
  go_ret
  refine ⟨v3, rfl, by simpa using ho3, hb2.trans hb3⟩

theorem PutText_any (v : Value) (l : List UInt8) (s : ByteArray) (w : World) (h : Sh w v l) (hl : l.length + 8 + s.size ≤ 140737488355328) :
    Calls Tryz.prog 29 #[v, .string s] w fun e w' => ∃ v', e = .returned v' ∧ Own w' w.heap.size 5 v' (l ++ enc s.size ++ s.data.toList) ∧ Below w.heap.size w w' := by
  go_enter Tryz.func29, Tryz.ntmps29
  go_wp2_with (first
    | (go_at_call 50; refine (clone_any v l w h (by omega)).mono ?_; rintro e w1 ⟨v1, rfl, ho1, hb1⟩; have s1 := hb1.size)
    | (go_at_call 53; refine (text_any v1 l s w.heap.size _ ho1 s1 hl).mono ?_; rintro e w2 ⟨v2, rfl, ho2, hb2⟩))
  go_ret
  exact ⟨v2, rfl, ho2, hb1.trans hb2⟩
end Go.Proofs.YticabllkadpmeaaGreatDoor
