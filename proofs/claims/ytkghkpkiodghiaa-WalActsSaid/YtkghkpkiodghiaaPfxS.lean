
import Derived.Test.YtkghkpkiodghiaaPfx
namespace Go.Proofs.Ytkghkpkiodghiaa
set_option linter.unusedVariables false
set_option linter.unusedSimpArgs false
set_option linter.unnecessarySimpa false
open Go.RowKit
set_option maxRecDepth 20000

theorem cls_lo (n : Int) (h : n < 4611686018427387904) : 0 ≤ cls n := by unfold cls; repeat' split; all_goals omega
end Go.Proofs.Ytkghkpkiodghiaa
namespace Go.Proofs.Ytkghkpkiodghiaa
set_option linter.unusedVariables false
set_option linter.unusedSimpArgs false
set_option linter.unnecessarySimpa false
open Go.RowKit
set_option maxRecDepth 20000

theorem Put_any (v : Value) (l : List UInt8) (n : Int) (w : World) (h : Sh w v l) (hl : l.length + 8 ≤ 140737488355328) (h0 : 0 ≤ n) (hn : n < 4611686018427387904) :
  Calls Try.prog 45 #[v, .int .u64 n] w fun e w' => ∃ v', e = .returned (.tuple #[v', .int .i64 0]) ∧ Own w' w.heap.size 5 v' (l ++ enc n.toNat) ∧ Below w.heap.size w w' := by
 have hc := cls_lo n hn
 have HN := Lib.hid hn
 clear hn
 go_enter Try.func45, Try.ntmps45
 go_wp2_with (first
  | (go_at_call 37; refine (clone_any v l w h (by omega)).mono ?_; rintro e w1 ⟨v1, rfl, ho1, hb1⟩; have s1 := hb1.size)
  | (go_at_call 58; refine (class_any _ _).mono ?_; rintro e w' ⟨rfl, rfl⟩)
  | (go_at_call 59; refine (put_any v1 l n w.heap.size _ ho1 s1 hl h0 HN.out).mono ?_; rintro e w2 ⟨v2, rfl, ho2, hb2⟩))
 go_ret2
 exact ⟨v2, rfl, ho2, hb1.trans hb2⟩
end Go.Proofs.Ytkghkpkiodghiaa
namespace Go.Proofs.Ytkghkpkiodghiaa
set_option linter.unusedVariables false
set_option linter.unusedSimpArgs false
set_option linter.unnecessarySimpa false
open Go.RowKit
set_option maxRecDepth 20000

theorem size_any (n : Int) (h0 : 0 ≤ n) (w : World) :
  Calls Try.prog 57 #[.int .u64 n] w fun e w' => e = .returned (.int .i64 (nsize n.toNat : Nat)) ∧ w = w' := by
 obtain ⟨N, rfl⟩ := Int.eq_ofNat_of_zero_le h0
 rw [Int.toNat_natCast]
 have key (k : Int) (hk : cls N = k) (s : Nat) (hs : nsize N = s) (h : (k = -1 ∧ s = 0) ∨ (k = 0 ∧ s = 1) ∨ (k = 1 ∧ s = 2) ∨ (k = 2 ∧ s = 4) ∨ (k = 3 ∧ s = 8)) :
   Calls Try.prog 57 #[.int .u64 (N : Int)] w fun e w' => e = .returned (.int .i64 (nsize N : Nat)) ∧ w = w' := by
  rw [hs]
  rcases h with ⟨rfl, rfl⟩ | ⟨rfl, rfl⟩ | ⟨rfl, rfl⟩ | ⟨rfl, rfl⟩ | ⟨rfl, rfl⟩
  all_goals
   clear hs
   go_enter Try.func57, Try.ntmps57
   go_wp2_with (go_at_call 58; refine (class_any _ _).mono ?_; rintro e w' ⟨rfl, rfl⟩)
   go_ret
   exact ⟨rfl, rfl⟩
 refine key _ rfl _ rfl ?_
 unfold cls nsize
 by_cases c4 : 4611686018427387904 ≤ N
 ·left; repeat' split
  all_goals omega
 ·right; repeat' split
  all_goals omega

theorem text_any (v : Value) (l : List UInt8) (s : ByteArray) (base : Nat) (w : World) (h : Own w base 5 v l) (hb : base ≤ w.heap.size) (hl : l.length + 8 + s.size ≤ 140737488355328) :
  Calls Try.prog 70 #[v, .string s] w fun e w' => ∃ v', e = .returned v' ∧ Own w' base 5 v' (l ++ enc s.size ++ s.data.toList) ∧ Below base w w' := by
 have hel := enc_length s.size (by omega)
 have hns := nsize_le s.size
 have HE := Lib.hid hel
 clear hel
 go_enter Try.func70, Try.ntmps70
 go_wp2_with (first
  | (go_at_call 58; refine (class_any _ _).mono ?_; rintro e w' ⟨rfl, rfl⟩)
  | (go_at_call 59; refine (put_any v l _ base _ h hb (by omega) (by omega) (by omega)).mono ?_; rintro e w2 ⟨v2, rfl, ho2, hb2⟩; have s2 := hb2.size)
  | (at_builtin; refine app_string (base := base) Try.underlying27 Try.underlying9 info_byte rfl _ _ rfl rfl ho2 rfl (by have := HE.out; simp [this]; omega) (by omega) ?_; intro v3 w3 ho3 hb3))
 go_ret
 refine ⟨v3, rfl, by simpa using ho3, hb2.trans hb3⟩

theorem PutText_any (v : Value) (l : List UInt8) (s : ByteArray) (w : World) (h : Sh w v l) (hl : l.length + 8 + s.size ≤ 140737488355328) :
  Calls Try.prog 60 #[v, .string s] w fun e w' => ∃ v', e = .returned v' ∧ Own w' w.heap.size 5 v' (l ++ enc s.size ++ s.data.toList) ∧ Below w.heap.size w w' := by
 go_enter Try.func60, Try.ntmps60
 go_wp2_with (first
  | (go_at_call 37; refine (clone_any v l w h (by omega)).mono ?_; rintro e w1 ⟨v1, rfl, ho1, hb1⟩; have s1 := hb1.size)
  | (go_at_call 70; refine (text_any v1 l s w.heap.size _ ho1 s1 hl).mono ?_; rintro e w2 ⟨v2, rfl, ho2, hb2⟩))
 go_ret
 exact ⟨v2, rfl, ho2, hb1.trans hb2⟩
end Go.Proofs.Ytkghkpkiodghiaa
