/- Of no program: arrays of numbers, in memory and as values. -/
import Derived.Test.YtojoeaaodomfnaaGreatDoorBase
import Derived.Laws.Rows
import Derived.Laws.ResultCell
namespace Go.Proofs.YtojoeaaodomfnaaGreatDoor
set_option linter.unusedVariables false
set_option linter.unusedSimpArgs false
set_option linter.unnecessarySimpa false
open Go.RowKit

/-- Numbers as cells. -/
def nums (k : IntKind) (A : List Int) : List Value := A.map (Value.int k)
@[simp] theorem nums_length (k : IntKind) (A : List Int) : (nums k A).length = A.length := by simp [nums]
theorem nums_get (k : IntKind) (A : List Int) (j : Nat) (h : j < A.length) : (nums k A)[j]? = some (.int k (A.getD j 0)) := by
  simp [nums, List.getD, List.getElem?_eq_getElem h]
theorem nums_set (k : IntKind) (A : List Int) (j : Nat) (x : Int) : (nums k A).set j (.int k x) = nums k (A.set j x) := by simp [nums, List.map_set]
theorem nums_one (k : IntKind) (A : List Int) : ∀ u ∈ nums k A, u.oneCell' = true := by
  intro u hu; simp only [nums, List.mem_map] at hu; obtain ⟨_, _, rfl⟩ := hu; rfl
/-- Block B holds the cells C, none frozen. -/
def Row (w : World) (B : Nat) (e : TypeId) (C : List Value) : Prop := w.heap[B]? = some (.cells C.toArray e (0, 0))
/-- Block B holds the numbers A. -/
def Arr (w : World) (B : Nat) (e : TypeId) (k : IntKind) (A : List Int) : Prop := Row w B e (nums k A)
section
variable {w w' : World} {B : Nat} {e : TypeId} {k : IntKind} {A : List Int} {C : List Value}
theorem Row.lt (h : Row w B e C) : B < w.heap.size := (Array.getElem?_eq_some_iff.1 h).1
theorem Row.cell (h : Row w B e C) (j : Nat) : w.cell? ⟨B, j, none⟩ = C[j]? := by
  rw [cell_of_row w B j C.toArray e (0, 0) h]; simp
theorem Row.frozen (h : Row w B e C) (j : Nat) : w.frozen? ⟨B, j, none⟩ = false := frozen_of_row w B j _ e h
theorem Row.set (h : Row w B e C) (j : Nat) (v : Value) : Row (w.setCell ⟨B, j, none⟩ v) B e (C.set j v) := by
  have := heap_setCell_same w B j C.toArray e v h
  unfold Row
  rw [this]; simp
theorem Row.set_other (h : Row w B e C) {p : Addr} (hp : B ≠ p.block) (v : Value) : Row (w.setCell p v) B e C := by
  unfold Row; rw [heap_setCell_other w p B v hp]; exact h
theorem Row.below (h : Row w B e C) {N : Nat} (hb : Below N w w') (hB : B < N) : Row w' B e C := (hb.block B hB).trans h
theorem Row.keep (h : Row w B e C) (hb : Below w.heap.size w w') : Row w' B e C := h.below hb h.lt
theorem Row.new (w : World) (e : TypeId) (C : List Value) : Row (w.alloc (.cells C.toArray e)) w.heap.size e C := heap_alloc_new w _
theorem Row.alloc (h : Row w B e C) (o : Obj) : Row (w.alloc o) B e C := h.keep ((Below.refl _ _).alloc (Nat.le_refl _) o)
theorem Row.drewN (h : Row w B e C) (n : Nat) : Row (w.drewN n) B e C := h
theorem Row.drew (h : Row w B e C) : Row w.drew B e C := h
theorem Arr.cell (h : Arr w B e k A) (j : Nat) (hj : j < A.length) : w.cell? ⟨B, j, none⟩ = some (.int k (A.getD j 0)) := by
  rw [Row.cell h j, nums_get k A j hj]
theorem Arr.frozen (h : Arr w B e k A) (j : Nat) : w.frozen? ⟨B, j, none⟩ = false := Row.frozen h j
theorem Arr.set (h : Arr w B e k A) (j : Nat) (x : Int) : Arr (w.setCell ⟨B, j, none⟩ (.int k x)) B e k (A.set j x) := by
  have := Row.set h j (.int k x)
  rw [nums_set] at this
  exact this
end
section
variable {P : Program}
/-- 'a[j]' of an array's value. -/
theorem run_index_nums {t e : TypeId} {n : Nat} {k : IntKind} (ht : P.underlying t = some (.array n e)) (he : P.underlying e = some (.int k)) (hs : (P.info? e).map (·.size) = some 1) (A : List Int) (j : Nat) (hj : j < A.length) (hn : A.length = n) (w : World) :
    (Instr.index t (.agg (nums k A).toArray) (.int .i64 (j : Int))).run P w = .ok (.int k (A.getD j 0)) w := by
  have hagg : (isAgg e).run P w = .ok false w := by simp [isAgg, run_underlying he]
  cases hi : P.info? e with
  | none => simp [hi] at hs
  | some i =>
    have h1 : i.size = 1 := by simpa [hi] using hs
    have hlt : (j : Int) < (n : Int) := by omega
    have hg := nums_get k A j hj
    have hnj : ¬ n ≤ j := by omega
    simp [Instr.index, asIntOf, run_underlying ht, sizeOf, typeInfo, hi, h1, hlt, part, hagg, hg, hnj]
end
end Go.Proofs.YtojoeaaodomfnaaGreatDoor
