/- Clocks: what a region that draws asks: loads, stores, '==' as steps; lists of clocks. -/
import Derived.Test.YtadmjhlcdoghpaaClk7
import Derived.Test.YtadmjhlcdoghpaaOpenArr
import Derived.Deep.RegionLaw
namespace Go.Proofs.Ytadmjhlcdoghpaa
set_option linter.unusedVariables false
set_option linter.unusedSimpArgs false
set_option linter.unnecessarySimpa false
open Go.RowKit
set_option maxRecDepth 100000
set_option maxHeartbeats 4000000

section
variable {P : Program}
theorem run_loadVar_at (w : World) (p : Addr) (ty : TypeId) (cs : List Value) (d : TypeDesc) (hc : ∀ j v, cs[j]? = some v → w.cell? (p.add j) = some v)
    (hu : P.underlying ty = some d) (hd : (match d with | .struct _ | .array _ _ => true | _ => false) = true) (hi : (P.info? ty).map (·.size) = some cs.length) :
    (loadVar ty p).run P w = .ok (.agg cs.toArray) w := by
  have hl : (loadCells p cs.length).run P w = .ok cs.toArray w := run_loadCells_list (P := P) w p cs hc
  cases hq : P.info? ty with
  | none => simp [hq] at hi
  | some i =>
    have hs : i.size = cs.length := by simpa [hq] using hi
    have hagg : (isAgg ty).run P w = .ok true w := by
      unfold isAgg
      simp only [Sem.run_bind, run_underlying hu, Result.andThen_ok]
      cases d <;> simp at hd ⊢
    simp [loadVar, Sem.run_bind, hagg, sizeOf, typeInfo, hq, hs, hl]
theorem step_of {o : Oper} {ops : Array Oper} {a : Act} {w : World} {K : Act → World → Prop} {Q : Exit → Act → World → Prop} {E : Prop} (hw : Region.wanted o (yielded ops a.tmps) = true) (h : Oper.wp P o a w K Q) :
    if Region.wanted o (yielded ops a.tmps) = true then Oper.wp P o a w K Q else E := by rw [if_pos hw]; exact h
theorem wp_load_at {o : Oper} {a : Act} {w : World} {K : Act → World → Prop} {Q : Exit → Act → World → Prop} (ty : TypeId) (x : Operand) (ho : o.op = .load ty x)
    (p : Addr) (hx : a.eval x = .pointer (some p)) (cs : List Value) (d : TypeDesc) (hc : ∀ j v, cs[j]? = some v → w.cell? (p.add j) = some v)
    (hu : P.underlying ty = some d) (hd : (match d with | .struct _ | .array _ _ => true | _ => false) = true) (hi : (P.info? ty).map (·.size) = some cs.length)
    (h : K (a.put o.dst (.agg cs.toArray)) w) : o.wp P a w K Q := by
  unfold Oper.wp execOp
  simp only [ho, hx, Instr.loadAt, Instr.sureAddr, Sem.run_bind, Sem.run_pure, Result.andThen_ok, run_loadVar_at w p ty cs d hc hu hd hi]
  exact h
end
/-- The clock that lies at p. -/
def At (w : World) (p : Addr) (A : List Int) : Prop := ∀ j v, (nums .u64 A)[j]? = some v → w.cell? (p.add j) = some v
theorem At.keep {w w' : World} {p : Addr} {A : List Int} (h : At w p A) (hb : Below w.heap.size w w') : At w' p A := fun j v hj => bkeep hb (h j v hj)
theorem wp_load_clock_at {o : Oper} {a : Act} {w : World} {K : Act → World → Prop} {Q : Exit → Act → World → Prop} (x : Operand) (ho : o.op = .load 24 x)
    (p : Addr) (hx : a.eval x = .pointer (some p)) (A : List Int) (hA : A.length = 8) (hc : At w p A) (h : K (a.put o.dst (clockV A)) w) : o.wp Try.prog a w K Q :=
  wp_load_at 24 x ho p hx (nums .u64 A) _ hc Try.underlying24 rfl (by rw [size_clock]; simp [hA]) h
theorem step_load_at {o : Oper} {ops : Array Oper} {a : Act} {w : World} {K : Act → World → Prop} {Q : Exit → Act → World → Prop} {E : Prop} (hw : Region.wanted o (yielded ops a.tmps) = true) (x : Operand) (ho : o.op = .load 24 x)
    (p : Addr) (hx : a.eval x = .pointer (some p)) (A : List Int) (hA : A.length = 8) (hc : At w p A) (h : K (a.put o.dst (clockV A)) w) :
    if Region.wanted o (yielded ops a.tmps) = true then Oper.wp Try.prog o a w K Q else E := step_of hw (wp_load_clock_at x ho p hx A hA hc h)
theorem step_load {o : Oper} {ops : Array Oper} {a : Act} {w : World} {K : Act → World → Prop} {Q : Exit → Act → World → Prop} {E : Prop} (hw : Region.wanted o (yielded ops a.tmps) = true) (x : Operand) (ho : o.op = .load 24 x)
    (g : Nat) (hx : a.eval x = .pointer (some ⟨g, 0, none⟩)) (A : List Int) (hA : A.length = 8) (hr : Arr w g 24 .u64 A) (h : K (a.put o.dst (clockV A)) w) :
    if Region.wanted o (yielded ops a.tmps) = true then Oper.wp Try.prog o a w K Q else E :=
  step_of hw (wp_load_row 24 x ho g hx _ _ _ _ hr Try.underlying24 rfl (by rw [size_clock]; simp [hA]) h)
theorem step_store {o : Oper} {ops : Array Oper} {a : Act} {w : World} {K : Act → World → Prop} {Q : Exit → Act → World → Prop} {E : Prop} (hw : Region.wanted o (yielded ops a.tmps) = true) (x y : Operand) (ho : o.op = .store 24 x y)
    (g : Nat) (hx : a.eval x = .pointer (some ⟨g, 0, none⟩)) (A : List Int) (hy : a.eval y = clockV A) (hA : A.length = 8) (t : TypeId) (B : List Int) (hr : Arr w g t .u64 B) (hB : B.length = 8)
    (h : K (a.put o.dst undef) (w.setRow g (nums .u64 A).toArray)) :
    if Region.wanted o (yielded ops a.tmps) = true then Oper.wp Try.prog o a w K Q else E :=
  step_of hw (wp_store_row 24 x y ho g _ hx hy t _ hr (by rw [size_clock]; simp [hA]) (by simp [hA, hB]) (nums_one' _ _) h)
theorem step_eql {o : Oper} {ops : Array Oper} {a : Act} {w : World} {K : Act → World → Prop} {Q : Exit → Act → World → Prop} {E : Prop} (hw : Region.wanted o (yielded ops a.tmps) = true) (x y : Operand) (ho : o.op = .binOp .eql 24 x y 24) (A B : List Int) (hx : a.eval x = clockV A) (hy : a.eval y = clockV B) (hA : A.length = 8) (hB : B.length = 8) (b : Bool) (hb : (A == B) = b)
    (h : K (a.put o.dst (.bool b)) w) : if Region.wanted o (yielded ops a.tmps) = true then Oper.wp Try.prog o a w K Q else E :=
  step_of hw (by unfold Oper.wp; rw [exec_eql x y ho A B hx hy hA hB w, hb]; exact h)

/-! ### lists of clocks -/
def Clocks (w : World) (v : Value) (L : List (List Int)) : Prop := Shows w 8 v L.length (flat .u64 L)
theorem Clocks.below {w w' : World} {v : Value} {L : List (List Int)} (h : Clocks w v L) (hb : Below w.heap.size w w') : Clocks w' v L := Shows.below h hb
theorem Clocks.at {w : World} {a : Option Addr} {n cap : Nat} {L : List (List Int)} (h : Clocks w (.slice a n cap) L) (hL : ∀ A ∈ L, A.length = 8) (hl : 0 < L.length) :
    ∃ b off, a = some ⟨b, off, none⟩ ∧ n = L.length ∧ ∀ i, i < L.length → At w ⟨b, off + i * 8, none⟩ (L.getD i []) := by
  obtain ⟨h1, a', cap', he, h2, h3, h4, h5⟩ := h
  simp only [Value.slice.injEq] at he
  obtain ⟨rfl, rfl, rfl⟩ := he
  cases a with
  | none => have := h4 rfl; omega
  | some x =>
    have hget := fun i j (hi : i < L.length) (hj : j < 8) => flat_get (k := .u64) L hL i j hi hj
    have h0 := h5 x rfl 0 _ (hget 0 0 hl (by omega))
    obtain ⟨b, off, spot⟩ := x
    have : spot = none := by simpa [Addr.add] using World.cell?_spot h0
    subst this
    refine ⟨b, off, rfl, rfl, fun i hi j v hv => ?_⟩
    have hj : j < 8 := by
      have := (List.getElem?_eq_some_iff.1 hv).1
      rw [nums_length, show (L.getD i []).length = 8 by simp only [List.getD, List.getElem?_eq_getElem hi, Option.getD_some]; exact hL _ (List.getElem_mem hi)] at this
      exact this
    have hv2 : v = .int .u64 ((L.getD i []).getD j 0) := by
      rw [nums_get .u64 _ j (by simpa using (List.getElem?_eq_some_iff.1 hv).1)] at hv
      simpa using hv.symm
    have := h5 _ rfl (i * 8 + j) _ (hget i j hi hj)
    rw [Addr.add_lit] at this ⊢
    rw [hv2, Nat.add_assoc]
    exact this
/-- What many know together. -/
def joined (Z : List Int) (L : List (List Int)) : List Int := L.foldl merged Z
theorem joined_length {Z : List Int} (hZ : Z.length = 8) (L : List (List Int)) (hL : ∀ A ∈ L, A.length = 8) : (joined Z L).length = 8 := by
  induction L generalizing Z with
  | nil => exact hZ
  | cons A L ih => exact ih (merged_length hZ (hL A (List.mem_cons_self ..))) fun B hB => hL B (List.mem_cons_of_mem _ hB)
theorem joined_take {Z : List Int} (L : List (List Int)) (j : Nat) (hj : j < L.length) : joined Z (L.take (j + 1)) = merged (joined Z (L.take j)) (L.getD j []) := by
  unfold joined
  rw [List.take_add_one, List.getElem?_eq_getElem hj]
  rw [List.foldl_append]
  simp [List.getD, List.getElem?_eq_getElem hj]
theorem Leq.trans {A B C : List Int} (h : Leq A B) (k : Leq B C) : Leq A C := fun j hj => by have := h j hj; have := k j hj; omega
theorem Leq.refl (A : List Int) : Leq A A := fun j hj => by omega
theorem leq_antisymm {A B : List Int} (hA : A.length = 8) (hB : B.length = 8) (h1 : Leq A B) (h2 : Leq B A) : A = B := eq_of_less hA hB (leq_less.2 h2) (leq_less.2 h1)
theorem joined_above {Z : List Int} (hZ : Z.length = 8) (L : List (List Int)) (hL : ∀ A ∈ L, A.length = 8) : Leq Z (joined Z L) ∧ ∀ A ∈ L, Leq A (joined Z L) := by
  induction L generalizing Z with
  | nil => exact ⟨Leq.refl _, by simp⟩
  | cons A L ih =>
    have hA := hL A (List.mem_cons_self ..)
    obtain ⟨h1, h2⟩ := ih (merged_length hZ hA) fun B hB => hL B (List.mem_cons_of_mem _ hB)
    refine ⟨(leq_merged1 hZ hA).trans h1, fun B hB => ?_⟩
    rcases List.mem_cons.1 hB with rfl | hB
    · exact (leq_merged2 hZ hA).trans h1
    · exact h2 B hB
theorem joined_least {Z C : List Int} (hZ : Z.length = 8) (L : List (List Int)) (hL : ∀ A ∈ L, A.length = 8) (h1 : Leq Z C) (h2 : ∀ A ∈ L, Leq A C) : Leq (joined Z L) C := by
  induction L generalizing Z with
  | nil => exact h1
  | cons A L ih =>
    have hA := hL A (List.mem_cons_self ..)
    exact ih (merged_length hZ hA) (fun B hB => hL B (List.mem_cons_of_mem _ hB)) (merged_leq hZ hA h1 (h2 A (List.mem_cons_self ..))) fun B hB => h2 B (List.mem_cons_of_mem _ hB)
theorem getD_mem {L : List (List Int)} {i : Nat} (hi : i < L.length) : L.getD i [] ∈ L := by
  simp only [List.getD, List.getElem?_eq_getElem hi, Option.getD_some]; exact List.getElem_mem hi
end Go.Proofs.Ytadmjhlcdoghpaa
