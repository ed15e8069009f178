/- Items: equality. -/
import Derived.Test.YticabllkadpmeaaGreatDoorTre6
import Derived.OrdersHeld
import Derived.Deep.RegionHeld
namespace Go.Proofs.YticabllkadpmeaaGreatDoor
set_option linter.unusedVariables false
set_option linter.unusedSimpArgs false
set_option linter.unnecessarySimpa false
open Go.RowKit
open Tre (It)
set_option maxRecDepth 100000
set_option maxHeartbeats 4000000

theorem item_stood : Tryz.prog.stoodInHeld 38 = false := by kernel_rfl
theorem eq_item_d (d : Nat) (x y : It) (hx : ItOk x) (hy : ItOk y) (w : World) : (Op.equalIn (d + 1 + 1 + 1) 38 (.agg (itC x).toArray) (.agg (itC y).toArray)).run Tryz.prog w = .ok (x.name.toList == y.name.toList && x.len == y.len && x.sum == y.sum) w := by
  have hf : (Tryz.prog.fieldsOf 38).toList = [⟨"Name", 9, 0, false, "", "", 0⟩, ⟨"Len", 34, 1, false, "", "", 16⟩, ⟨"Sum", 36, 2, false, "", "", 24⟩] := by
    unfold Program.fieldsOf
    rw [Tryz.underlying38]
  have hst : Tryz.prog.underlying 38 = some (.struct (Tryz.prog.fieldsOf 38)) := by
    unfold Program.fieldsOf
    rw [Tryz.underlying38]
  have hs := eq_sum_d d x.sum y.sum hx.2.1 hy.2.1 w
  rw [show d + 2 = d + 1 + 1 from rfl] at hs
  have e1 := run_equalIn_string w (d + 1) 9 x.name y.name Tryz.underlying9
  have e2 := run_equalIn_int w (d + 1) 34 .u64 .u64 (x.len : Int) (y.len : Int) Tryz.underlying34
  rw [run_equalIn_struct w (d + 1 + 1) 38 _ _ hst item_stood, hf]
  have p1 : ∀ z : It, (part 9 (itC z).toArray 0).run Tryz.prog w = .ok (.string z.name) w := by
    intro z
    simp [part, isAgg, run_underlying Tryz.underlying9, itC]
  have p2 : ∀ z : It, (part 34 (itC z).toArray 1).run Tryz.prog w = .ok (.int .u64 (z.len : Int)) w := by
    intro z
    simp [part, isAgg, run_underlying Tryz.underlying34, itC]
  have p3 : ∀ z : It, ItOk z → (part 36 (itC z).toArray 2).run Tryz.prog w = .ok (sumV z.sum) w := by
    intro z hz
    simp [part, isAgg, run_underlying Tryz.underlying36, itC]
    rw [List.take_of_length_le (by simp [hz.2.1])]
    rfl
  have g2 := p3 x hx
  have g3 := p3 y hy
  have this : ((x.len : Int) == (y.len : Int)) = (x.len == y.len) := by
    by_cases h : x.len = y.len
    · simp [h]
    · rw [beq_eq_false_iff_ne.2 h, beq_eq_false_iff_ne.2 (by omega)]
  rw [this] at e2
  clear this hst hf
  obtain ⟨b1, h1⟩ : ∃ b, (x.name.toList == y.name.toList) = b := ⟨_, rfl⟩
  obtain ⟨b2, h2⟩ : ∃ b, (x.len == y.len) = b := ⟨_, rfl⟩
  obtain ⟨b3, h3⟩ : ∃ b, (x.sum == y.sum) = b := ⟨_, rfl⟩
  rw [h1] at e1
  rw [h2] at e2
  rw [h3] at hs
  rw [h1, h2, h3]
  clear h1 h2 h3
  generalize d + 1 + 1 = D at e1 e2 hs ⊢
  simp [Op.eqFields, p1, e1]
  rw [p2, Result.andThen_ok, p2, Result.andThen_ok, e2, Result.andThen_ok, g2, Result.andThen_ok, g3, Result.andThen_ok, hs, Result.andThen_ok]
  cases b1 <;> cases b2 <;> cases b3 <;> rfl
end Go.Proofs.YticabllkadpmeaaGreatDoor
namespace Go.Proofs.YticabllkadpmeaaGreatDoor
set_option linter.unusedVariables false
set_option linter.unusedSimpArgs false
set_option linter.unnecessarySimpa false
open Go.RowKit
open Tre (It)
set_option maxRecDepth 100000
set_option maxHeartbeats 8000000

theorem eqG_item : Tryz.prog.eqGuardType Tryz.prog.depth 38 = false := by kernel_rfl
def itEq (x y : It) : Bool := x.name.toList == y.name.toList && x.len == y.len && x.sum == y.sum
theorem itEq_iff (x y : It) : itEq x y = true ↔ x = y := by
  constructor
  · intro h
    unfold itEq at h
    simp only [Bool.and_eq_true, beq_iff_eq] at h
    obtain ⟨⟨h1, h2⟩, h3⟩ := h
    have h4 : x.name = y.name := by
      rw [ByteArray.toList_eq, ByteArray.toList_eq] at h1
      exact Tre.name_eq h1
    cases x; cases y; simp_all
  · rintro rfl; unfold itEq; simp
theorem exec_neq_item {ρ : Operand → Value} {o : Oper} (x y : Operand) (ho : o.op = .binOp .neq 38 x y 38) (A B : It) (hx : ρ x = .agg (itC A).toArray) (hy : ρ y = .agg (itC B).toArray) (hA : ItOk A) (hB : ItOk B) (w : World) :
    (execOp ρ o).run Tryz.prog w = .ok (.value (.bool (!(itEq A B)))) w := by
  have h1 := run_eqGuard_agg w .neq 38 x y (itC A).toArray (itC B).toArray eqG_item
  have h2 := run_neq_struct (P := Tryz.prog) w 38 (itC A).toArray (itC B).toArray
  have h3 := eq_item_d 9997 A B hA hB w
  rw [h3] at h2
  unfold execOp
  rw [ho]
  simp only [hx, hy, Sem.run_bind, h1, h2, Result.andThen_ok, Sem.run_pure]
  rfl
theorem yieldsIf_neq_item {ops : Array Oper} {S : World → Prop} {o : Oper} {a : Act} (hw : Region.wanted o (yielded ops a.tmps) = true) (x y : Operand) (ho : o.op = .binOp .neq 38 x y 38) (A B : It) (hx : a.eval x = .agg (itC A).toArray) (hy : a.eval y = .agg (itC B).toArray) (hA : ItOk A) (hB : ItOk B) (b : Bool) (hb : itEq A B = b) :
    YieldsIf Tryz.prog ops S o (.bool (!b)) a := .inl ⟨hw, fun w _ => by rw [exec_neq_item x y ho A B hx hy hA hB w, hb]⟩
theorem yieldsIf_item_mid {ops : Array Oper} {S : World → Prop} {o : Oper} {a : Act} (hw : Region.wanted o (yielded ops a.tmps) = true) (x : Operand) (ho : o.op = .load 38 x)
    (b off : Nat) (hx : a.eval x = .pointer (some ⟨b, off, none⟩)) (A : It) (hA : ItOk A) (hS : ∀ w, S w → w.rangeAt b off (itC A)) : YieldsIf Tryz.prog ops S o (.agg (itC A).toArray) a :=
  yieldsIf_load_mid hw 38 x ho b off hx (itC A) _ hS Tryz.underlying38 rfl (by rw [size_item, itC_length hA])
theorem its_eq {A B : List It} (h : A.length = B.length) (hj : ∀ k, k < A.length → A.getD k dIt = B.getD k dIt) : A = B := by
  refine List.ext_getElem h fun k h3 h4 => ?_
  have := hj k h3
  simpa [List.getD, List.getElem?_eq_getElem h3, List.getElem?_eq_getElem h4] using this
end Go.Proofs.YticabllkadpmeaaGreatDoor
