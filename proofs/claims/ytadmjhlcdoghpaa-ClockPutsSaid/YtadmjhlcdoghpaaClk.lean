/- Clocks: their values, loads, stores, '=='. -/
import Derived.Test.YtadmjhlcdoghpaaRows
import Derived.Test.YtadmjhlcdoghpaaArr
import Derived.Test.YtadmjhlcdoghpaaRegion
import Derived.Laws.Tables
import Derived.Laws.CopyOwn
import Derived.ChangeKeysEq
namespace Go.Proofs.Ytadmjhlcdoghpaa
set_option linter.unusedVariables false
set_option linter.unusedSimpArgs false
set_option linter.unnecessarySimpa false
open Go.RowKit
set_option maxRecDepth 100000
set_option maxHeartbeats 2000000

theorem Row.setRow {w : World} {B : Nat} {e : TypeId} {C : List Value} (h : Row w B e C) (D : List Value) : Row (w.setRow B D.toArray) B e D := setRow_heap w B _ _ _ _ h
theorem Row.setRow_other {w : World} {B g : Nat} {e : TypeId} {C : List Value} (h : Row w B e C) (hne : B ≠ g) (cs : Array Value) : Row (w.setRow g cs) B e C := (Go.setRow_other w g B cs hne).trans h
theorem bset {B : Nat} {a w : World} (h : Below B a w) {g j : Nat} (hg : B ≤ g) (u : Value) : Below B a (w.setCell ⟨g, j, none⟩ u) := h.setCell hg u
theorem bsetRow {B g : Nat} {a w : World} (h : Below B a w) (hg : B ≤ g) (cs : Array Value) : Below B a (w.setRow g cs) := below_setRow h hg cs
section
variable {w w' : World} {B g : Nat} {e : TypeId} {k : IntKind} {A : List Int}
theorem Arr.keep (h : Arr w B e k A) (hb : Below w.heap.size w w') : Arr w' B e k A := Row.keep h hb
theorem Arr.below (h : Arr w B e k A) {N : Nat} (hb : Below N w w') (hB : B < N) : Arr w' B e k A := Row.below h hb hB
theorem Arr.alloc (h : Arr w B e k A) (o : Obj) : Arr (w.alloc o) B e k A := Row.alloc h o
theorem Arr.drewN (h : Arr w B e k A) (n : Nat) : Arr (w.drewN n) B e k A := h
theorem Arr.drew (h : Arr w B e k A) : Arr w.drew B e k A := h
theorem Arr.setRow_other (h : Arr w B e k A) (hne : B ≠ g) (cs : Array Value) : Arr (w.setRow g cs) B e k A := Row.setRow_other h hne cs
theorem Arr.setRow (h : Arr w B e k A) (D : List Int) : Arr (w.setRow B (nums k D).toArray) B e k D := Row.setRow h _
theorem Arr.set_other (h : Arr w B e k A) {p : Addr} (hp : B ≠ p.block) (v : Value) : Arr (w.setCell p v) B e k A := Row.set_other h hp v
end
theorem nums_one' (k : IntKind) (A : List Int) : (nums k A).toArray.all (·.oneCell') = true := by
  rw [Array.all_eq_true_iff_forall_mem]; intro v hv; exact nums_one k A v (by simpa using hv)
section
variable {P : Program}
theorem run_eqItems_nums {e : TypeId} {k : IntKind} (he : P.underlying e = some (.int k)) (hs : (P.info? e).map (·.size) = some 1) (A B : List Int) (n : Nat) (hA : A.length = n) (hB : B.length = n) (d : Nat) (m : Nat) :
    ∀ (s : Nat) (w : World), s + m = n → (Op.eqItems (d + 1) e (P.cellsOf e) (nums k A).toArray (nums k B).toArray (List.range' s m)).run P w = .ok (A.drop s == B.drop s) w := by
  have hagg : ∀ w, (isAgg e).run P w = .ok false w := by intro w; simp [isAgg, run_underlying he]
  obtain ⟨i, hi, h1⟩ : ∃ i, P.info? e = some i ∧ i.size = 1 := by
    cases hi : P.info? e with
    | none => simp [hi] at hs
    | some i => exact ⟨i, rfl, by simpa [hi] using hs⟩
  have hc : P.cellsOf e = 1 := by simp [Program.cellsOf, hi, h1]
  induction m with
  | zero =>
    intro s w h
    rw [List.drop_of_length_le (by omega), List.drop_of_length_le (by omega)]
    simp [Op.eqItems]
  | succ m ih =>
    intro s w h
    have ga := nums_get k A s (by omega)
    have gb := nums_get k B s (by omega)
    have hda : A.drop s = A.getD s 0 :: A.drop (s + 1) := by rw [List.drop_eq_getElem_cons (by omega)]; simp [List.getD, List.getElem?_eq_getElem (show s < A.length by omega)]
    have hdb : B.drop s = B.getD s 0 :: B.drop (s + 1) := by rw [List.drop_eq_getElem_cons (by omega)]; simp [List.getD, List.getElem?_eq_getElem (show s < B.length by omega)]
    have hih := ih (s + 1) w (by omega)
    rw [hc] at hih
    rw [hc, List.range'_succ, hda, hdb]
    simp only [Op.eqItems, Sem.run_bind, part, hagg, Result.andThen_ok, Nat.mul_one]
    simp [ga, gb, Op.equalIn, run_underlying he, hih]
    generalize A[s]?.getD 0 = x
    generalize B[s]?.getD 0 = y
    by_cases hxy : x = y
    · simp [hxy]
    · simp [hxy]
end
/-- A clock's value. -/
def clockV (A : List Int) : Value := .agg (nums .u64 A).toArray
theorem clockV_eq (A : List Int) : Value.agg (nums .u64 A).toArray = clockV A := rfl
theorem size_u64 : (Try.prog.info? 22).map (·.size) = some 1 := by kernel_rfl
theorem size_clock : (Try.prog.info? 24).map (·.size) = some 8 := by kernel_rfl
theorem index_clock (A : List Int) (hA : A.length = 8) (j : Nat) (hj : j < 8) (w : World) : (Instr.index 24 (clockV A) (.int .i64 (j : Int))).run Try.prog w = .ok (.int .u64 (A.getD j 0)) w :=
  run_index_nums Try.underlying24 Try.underlying22 size_u64 A j (by omega) hA w
theorem load_clock {w : World} {ops : Array Oper} {rest : List Oper} {o : Oper} {a : Act} {Q : Exit → Act → World → Prop} (hgd : o.guard = none) (x : Operand) (ho : o.op = .load 24 x)
    (g : Nat) (hx : a.eval x = .pointer (some ⟨g, 0, none⟩)) (A : List Int) (hA : A.length = 8) (hr : Arr w g 24 .u64 A)
    (h : wpList Try.prog ops Q rest (a.put o.dst (clockV A)) w) : wpList Try.prog ops Q (o :: rest) a w :=
  wpList_load_row hgd 24 x ho g hx _ _ _ _ hr Try.underlying24 rfl (by rw [size_clock]; simp [hA]) h
theorem store_clock {w : World} {ops : Array Oper} {rest : List Oper} {o : Oper} {a : Act} {Q : Exit → Act → World → Prop} (hgd : o.guard = none) (x y : Operand) (ho : o.op = .store 24 x y)
    (g : Nat) (hx : a.eval x = .pointer (some ⟨g, 0, none⟩)) (A : List Int) (hy : a.eval y = clockV A) (hA : A.length = 8) (t : TypeId) (B : List Int) (hr : Arr w g t .u64 B) (hB : B.length = 8)
    (h : wpList Try.prog ops Q rest (a.put o.dst undef) (w.setRow g (nums .u64 A).toArray)) : wpList Try.prog ops Q (o :: rest) a w :=
  wpList_store_row hgd 24 x y ho g _ hx hy t _ hr (by rw [size_clock]; simp [hA]) (by simp [hA, hB]) (nums_one' _ _) h
theorem eq_clock (A B : List Int) (hA : A.length = 8) (hB : B.length = 8) (w : World) : (Op.equalIn 10000 24 (clockV A) (clockV B)).run Try.prog w = .ok (A == B) w := by
  obtain ⟨i, hi⟩ : ∃ i, Try.prog.info? 22 = some i := by
    have := size_u64
    cases hi : Try.prog.info? 22 with
    | none => simp [hi] at this
    | some i => exact ⟨i, rfl⟩
  have h1 := run_equalIn_array w 9999 (nums .u64 A).toArray (nums .u64 B).toArray Try.underlying24 hi
  have h2 := run_eqItems_nums Try.underlying22 size_u64 A B 8 hA hB 9998 8 0 w rfl
  unfold clockV
  rw [h1, List.range_eq_range', h2]
  simp
section
variable {P : Program}
theorem ret_clock {fn : Func} {p : Tmp} (h : fn.results = #[.cell p 24]) {R : Ending → World → Prop} {a : Act} {w : World} (hd : a.defers = []) (g : Nat) (hp : a.tmps.getD p undef = .pointer (some ⟨g, 0, none⟩)) (t : TypeId) (A : List Int) (hr : Arr w g t .u64 A) (hA : A.length = 8)
    (hR : R (.returned (clockV A)) w) : bodyPost Try.prog fn R .ret a w :=
  bodyPost_ret (results_cell_row h a.tmps w g t _ _ _ hp hr Try.underlying24 rfl (by rw [size_clock]; simp [hA])) hd hR
theorem ret_clock2 {fn : Func} {p u : Tmp} (h : fn.results = #[.cell p 24, .tmp u]) {R : Ending → World → Prop} {a : Act} {w : World} (hd : a.defers = []) (g : Nat) (hp : a.tmps.getD p undef = .pointer (some ⟨g, 0, none⟩)) (t : TypeId) (A : List Int) (hr : Arr w g t .u64 A) (hA : A.length = 8)
    (hR : R (.returned (.tuple #[clockV A, a.tmps.getD u undef])) w) : bodyPost Try.prog fn R .ret a w := by
  refine bodyPost_ret ?_ hd hR
  rw [results_cell_tmp h, hp]
  have := run_loadVar_row (P := Try.prog) w g t 24 _ _ _ hr Try.underlying24 rfl (by rw [size_clock]; simp [hA])
  simp [asAddr, this, clockV]
end
/-- Eight noughts. -/
def zeros : List Int := [0, 0, 0, 0, 0, 0, 0, 0]
theorem pre1 (A : List Int) (w : World) : ∃ W, (w.alloc (.cells (nums .u64 A).toArray 24)) = W ∧ Hid (Arr W w.heap.size 24 .u64 A) ∧ Hid (Below w.heap.size w W) ∧ Hid (W.heap.size = w.heap.size + 1) :=
  ⟨_, rfl, Row.new _ _ _, balloc (Below.refl _ _) _, show _ = _ by simp⟩
theorem preZ (w : World) : ∃ W, (w.alloc (.cells #[.int .u64 0, .int .u64 0, .int .u64 0, .int .u64 0, .int .u64 0, .int .u64 0, .int .u64 0, .int .u64 0] 24)) = W ∧ Hid (Arr W w.heap.size 24 .u64 zeros) ∧ Hid (Below w.heap.size w W) ∧ Hid (W.heap.size = w.heap.size + 1) :=
  ⟨_, rfl, Row.new w _ (nums .u64 zeros), balloc (Below.refl _ _) _, show _ = _ by simp⟩
theorem pre2 (A B : List Int) (w : World) : ∃ W, ((w.alloc (.cells (nums .u64 A).toArray 24)).alloc (.cells (nums .u64 B).toArray 24)) = W ∧ Hid (Arr W w.heap.size 24 .u64 A) ∧ Hid (Arr W (w.heap.size + 1) 24 .u64 B) ∧ Hid (Below w.heap.size w W) ∧ Hid (W.heap.size = w.heap.size + 1 + 1) := by
  obtain ⟨W1, h1, a1, b1, c1⟩ := pre1 A w
  obtain ⟨W2, h2, a2, b2, c2⟩ := pre1 B W1
  rw [c1.out] at a2 b2 c2
  exact ⟨W2, by rw [h1, h2], Row.below a1.out b2.out (by omega), a2, b1.out.trans (b2.out.mono (by omega)), c2⟩
theorem preAZ (A : List Int) (w : World) : ∃ W, ((w.alloc (.cells (nums .u64 A).toArray 24)).alloc (.cells #[.int .u64 0, .int .u64 0, .int .u64 0, .int .u64 0, .int .u64 0, .int .u64 0, .int .u64 0, .int .u64 0] 24)) = W ∧ Hid (Arr W w.heap.size 24 .u64 A) ∧ Hid (Arr W (w.heap.size + 1) 24 .u64 zeros) ∧ Hid (Below w.heap.size w W) ∧ Hid (W.heap.size = w.heap.size + 1 + 1) := by
  obtain ⟨W1, h1, a1, b1, c1⟩ := pre1 A w
  obtain ⟨W2, h2, a2, b2, c2⟩ := preZ W1
  rw [c1.out] at a2 b2 c2
  exact ⟨W2, by rw [h1, h2], Row.below a1.out b2.out (by omega), a2, b1.out.trans (b2.out.mono (by omega)), c2⟩
theorem pre3 (A B : List Int) (w : World) : ∃ W, (((w.alloc (.cells (nums .u64 A).toArray 24)).alloc (.cells (nums .u64 B).toArray 24)).alloc (.cells #[.int .u64 0, .int .u64 0, .int .u64 0, .int .u64 0, .int .u64 0, .int .u64 0, .int .u64 0, .int .u64 0] 24)) = W ∧ Hid (Arr W w.heap.size 24 .u64 A) ∧ Hid (Arr W (w.heap.size + 1) 24 .u64 B) ∧ Hid (Arr W (w.heap.size + 1 + 1) 24 .u64 zeros) ∧ Hid (Below w.heap.size w W) ∧ Hid (W.heap.size = w.heap.size + 1 + 1 + 1) := by
  obtain ⟨W1, h1, a1, a1', b1, c1⟩ := pre2 A B w
  obtain ⟨W2, h2, a2, b2, c2⟩ := preZ W1
  rw [c1.out] at a2 b2 c2
  exact ⟨W2, by rw [h1, h2], Row.below a1.out b2.out (by omega), Row.below a1'.out b2.out (by omega), a2, b1.out.trans (b2.out.mono (by omega)), c2⟩
end Go.Proofs.Ytadmjhlcdoghpaa
