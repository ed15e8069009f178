/- Sums: equality; ref21.Sums. -/
import Derived.Test.YticabllkadpmeaaDoorTre4
import Derived.Laws.Tables
import Derived.ChangeKeysEq
import Derived.OrdersHeld
import Derived.Deep.RegionHeld
namespace Go.Proofs.YticabllkadpmeaaDoor
set_option linter.unusedVariables false
set_option linter.unusedSimpArgs false
set_option linter.unnecessarySimpa false
open Go.RowKit
open Tre (It)
set_option maxRecDepth 100000
set_option maxHeartbeats 4000000

section
variable {P : Program}
theorem run_eqItems_nums {e : TypeId} {k : IntKind} (he : P.underlying e = some (.int k)) (hs : (P.info? e).map (·.size) = some 1) (A B : List Int) (n : Nat) (hA : A.length = n) (hB : B.length = n) (d : Nat) (m : Nat) :
    ∀ (s : Nat) (w : World), s + m = n → (Op.eqItems (d + 1) e (P.cellsOf e) (nums k A).toArray (nums k B).toArray (List.range' s m)).run P w = .ok (A.drop s == B.drop s) w := by
  have hagg : ∀ w, (isAgg e).run P w = .ok false w := by intro w; simp [isAgg, run_underlying he]
  obtain ⟨i, hi, h1⟩ : ∃ i, P.info? e = some i ∧ i.size = 1 := by
    cases hi : P.info? e with
    | none => simp [hi] at hs
    | some i => exact ⟨i, rfl, by simpa [hi] using hs⟩
  have hc : P.cellsOf e = 1 := by simp [Program.cellsOf, hi, h1]
  induction m with
  | zero =>
    intro s w h
    rw [List.drop_of_length_le (by omega), List.drop_of_length_le (by omega)]
    simp [Op.eqItems]
  | succ m ih =>
    intro s w h
    have ga := nums_get k A s (by omega)
    have gb := nums_get k B s (by omega)
    have hda : A.drop s = A.getD s 0 :: A.drop (s + 1) := by rw [List.drop_eq_getElem_cons (by omega)]; simp [List.getD, List.getElem?_eq_getElem (show s < A.length by omega)]
    have hdb : B.drop s = B.getD s 0 :: B.drop (s + 1) := by rw [List.drop_eq_getElem_cons (by omega)]; simp [List.getD, List.getElem?_eq_getElem (show s < B.length by omega)]
    have hih := ih (s + 1) w (by omega)
    rw [hc] at hih
    rw [hc, List.range'_succ, hda, hdb]
    simp only [Op.eqItems, Sem.run_bind, part, hagg, Result.andThen_ok, Nat.mul_one]
    simp [ga, gb, Op.equalIn, run_underlying he, hih]
    generalize A[s]?.getD 0 = x
    generalize B[s]?.getD 0 = y
    by_cases hxy : x = y
    · simp [hxy]
    · simp [hxy]
end
def intsOf (l : List UInt8) : List Int := l.map fun c => (c.toNat : Int)
theorem bytes_nums (l : List UInt8) : bytes l = nums .u8 (intsOf l) := by simp [bytes, nums, intsOf]
theorem intsOf_inj (a b : List UInt8) : (intsOf a == intsOf b) = (a == b) := by
  by_cases h : a = b
  · simp [h]
  · have : intsOf a ≠ intsOf b := fun he => h (by
      refine (List.map_inj_right (fun x y hxy => ?_)).1 he
      simp only [Int.natCast_inj] at hxy
      exact UInt8.toNat_inj.1 hxy)
    rw [beq_eq_false_iff_ne.2 h, beq_eq_false_iff_ne.2 this]
theorem size_u8 : (Tryd.prog.info? 5).map (·.size) = some 1 := by kernel_rfl
theorem eq_sum_d (d : Nat) (a b : List UInt8) (ha : a.length = 32) (hb : b.length = 32) (w : World) : (Op.equalIn (d + 2) 33 (sumV a) (sumV b)).run Tryd.prog w = .ok (a == b) w := by
  obtain ⟨i, hi⟩ : ∃ i, Tryd.prog.info? 5 = some i := by
    have := size_u8
    cases hi : Tryd.prog.info? 5 with
    | none => simp [hi] at this
    | some i => exact ⟨i, rfl⟩
  have h1 := run_equalIn_array w (d + 1) (bytes a).toArray (bytes b).toArray Tryd.underlying33 hi
  have h2 := run_eqItems_nums Tryd.underlying5 size_u8 (intsOf a) (intsOf b) 32 (by simp [intsOf, ha]) (by simp [intsOf, hb]) d 32 0 w rfl
  unfold sumV
  rw [h1, List.range_eq_range', bytes_nums, bytes_nums, h2]
  simp [intsOf_inj]
theorem eq_sum (a b : List UInt8) (ha : a.length = 32) (hb : b.length = 32) (w : World) : (Op.equalIn 10000 33 (sumV a) (sumV b)).run Tryd.prog w = .ok (a == b) w := eq_sum_d 9998 a b ha hb w
end Go.Proofs.YticabllkadpmeaaDoor
namespace Go.Proofs.YticabllkadpmeaaDoor
set_option linter.unusedVariables false
set_option linter.unusedSimpArgs false
set_option linter.unnecessarySimpa false
open Go.RowKit
open Tre (It)
set_option maxRecDepth 100000
set_option maxHeartbeats 8000000

theorem eqG_sum : Tryd.prog.eqGuardType Tryd.prog.depth 33 = false := by kernel_rfl
theorem exec_neq_sum {ρ : Operand → Value} {o : Oper} (x y : Operand) (ho : o.op = .binOp .neq 33 x y 33) (A B : List UInt8) (hx : ρ x = sumV A) (hy : ρ y = sumV B) (hA : A.length = 32) (hB : B.length = 32) (w : World) :
    (execOp ρ o).run Tryd.prog w = .ok (.value (.bool (!(A == B)))) w := by
  have h1 := run_eqGuard_agg w .neq 33 x y (bytes A).toArray (bytes B).toArray eqG_sum
  have h2 := run_neq_struct (P := Tryd.prog) w 33 (bytes A).toArray (bytes B).toArray
  have h3 := eq_sum A B hA hB w
  unfold sumV at h3 hx hy
  rw [h3] at h2
  unfold execOp
  rw [ho]
  simp only [hx, hy, Sem.run_bind, h1, h2, Result.andThen_ok, Sem.run_pure]
theorem yieldsIf_neq_sum {ops : Array Oper} {S : World → Prop} {o : Oper} {a : Act} (hw : Region.wanted o (yielded ops a.tmps) = true) (x y : Operand) (ho : o.op = .binOp .neq 33 x y 33) (A B : List UInt8) (hx : a.eval x = sumV A) (hy : a.eval y = sumV B) (hA : A.length = 32) (hB : B.length = 32) (b : Bool) (hb : (A == B) = b) :
    YieldsIf Tryd.prog ops S o (.bool (!b)) a := .inl ⟨hw, fun w _ => by rw [exec_neq_sum x y ho A B hx hy hA hB w, hb]⟩
theorem yieldsIf_sum_mid {ops : Array Oper} {S : World → Prop} {o : Oper} {a : Act} (hw : Region.wanted o (yielded ops a.tmps) = true) (x : Operand) (ho : o.op = .load 33 x)
    (b off : Nat) (hx : a.eval x = .pointer (some ⟨b, off, none⟩)) (A : List UInt8) (hA : A.length = 32) (hS : ∀ w, S w → w.rangeAt b off (bytes A)) : YieldsIf Tryd.prog ops S o (sumV A) a :=
  yieldsIf_load_mid hw 33 x ho b off hx (bytes A) _ hS Tryd.underlying33 rfl (by rw [size_sum]; simp [hA])
theorem sms_eq {A B : List (List UInt8)} (h : A.length = B.length) (hj : ∀ k, k < A.length → A.getD k [] = B.getD k []) : A = B := by
  refine List.ext_getElem h fun k h3 h4 => ?_
  have := hj k h3
  simpa [List.getD, List.getElem?_eq_getElem h3, List.getElem?_eq_getElem h4] using this
end Go.Proofs.YticabllkadpmeaaDoor
