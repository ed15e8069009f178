/- Items: equality. -/
import Derived.Test.YtnhkbbladifmmaaDoorTre6
namespace Go.Proofs.YtnhkbbladifmmaaDoor
set_option linter.unusedVariables false
set_option linter.unusedSimpArgs false
set_option linter.unnecessarySimpa false
open Go.RowKit
open Tre (It)
set_option maxRecDepth 100000
set_option maxHeartbeats 4000000

theorem item_stood : Tryd.prog.stoodInHeld 32 = false := by kernel_rfl
theorem eq_item_d (d : Nat) (x y : It) (hx : ItOk x) (hy : ItOk y) (w : World) : (Op.equalIn (d + 1 + 1 + 1) 32 (.agg (itC x).toArray) (.agg (itC y).toArray)).run Tryd.prog w = .ok (x.name.toList == y.name.toList && x.len == y.len && x.sum == y.sum) w := by
  have hf : (Tryd.prog.fieldsOf 32).toList = [⟨"Name", 9, 0, false, "", "", 0⟩, ⟨"Len", 28, 1, false, "", "", 16⟩, ⟨"Sum", 30, 2, false, "", "", 24⟩] := by
    unfold Program.fieldsOf
    rw [Tryd.underlying32]
  have hst : Tryd.prog.underlying 32 = some (.struct (Tryd.prog.fieldsOf 32)) := by
    unfold Program.fieldsOf
    rw [Tryd.underlying32]
  have hs := eq_sum_d d x.sum y.sum hx.2.1 hy.2.1 w
  rw [show d + 2 = d + 1 + 1 from rfl] at hs
  have e1 := run_equalIn_string w (d + 1) 9 x.name y.name Tryd.underlying9
  have e2 := run_equalIn_int w (d + 1) 28 .u64 .u64 (x.len : Int) (y.len : Int) Tryd.underlying28
  rw [run_equalIn_struct w (d + 1 + 1) 32 _ _ hst item_stood, hf]
  have p1 : ∀ z : It, (part 9 (itC z).toArray 0).run Tryd.prog w = .ok (.string z.name) w := by
    intro z
    simp [part, isAgg, run_underlying Tryd.underlying9, itC]
  have p2 : ∀ z : It, (part 28 (itC z).toArray 1).run Tryd.prog w = .ok (.int .u64 (z.len : Int)) w := by
    intro z
    simp [part, isAgg, run_underlying Tryd.underlying28, itC]
  have p3 : ∀ z : It, ItOk z → (part 30 (itC z).toArray 2).run Tryd.prog w = .ok (sumV z.sum) w := by
    intro z hz
    simp [part, isAgg, run_underlying Tryd.underlying30, itC]
    rw [List.take_of_length_le (by simp [hz.2.1])]
    rfl
  have g2 := p3 x hx
  have g3 := p3 y hy
  have this : ((x.len : Int) == (y.len : Int)) = (x.len == y.len) := by
    by_cases h : x.len = y.len
    · simp [h]
    · rw [beq_eq_false_iff_ne.2 h, beq_eq_false_iff_ne.2 (by omega)]
  rw [this] at e2
  clear this hst hf
  obtain ⟨b1, h1⟩ : ∃ b, (x.name.toList == y.name.toList) = b := ⟨_, rfl⟩
  obtain ⟨b2, h2⟩ : ∃ b, (x.len == y.len) = b := ⟨_, rfl⟩
  obtain ⟨b3, h3⟩ : ∃ b, (x.sum == y.sum) = b := ⟨_, rfl⟩
  rw [h1] at e1
  rw [h2] at e2
  rw [h3] at hs
  rw [h1, h2, h3]
  clear h1 h2 h3
  generalize d + 1 + 1 = D at e1 e2 hs ⊢
  simp [Op.eqFields, p1, e1]
  rw [p2, Result.andThen_ok, p2, Result.andThen_ok, e2, Result.andThen_ok, g2, Result.andThen_ok, g3, Result.andThen_ok, hs, Result.andThen_ok]
  cases b1 <;> cases b2 <;> cases b3 <;> rfl
end Go.Proofs.YtnhkbbladifmmaaDoor
