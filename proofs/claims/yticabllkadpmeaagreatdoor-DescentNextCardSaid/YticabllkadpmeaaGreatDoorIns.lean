/- Package slices: Insert of one item among items. (printed by gen/ins.py) -/
import Derived.Test.YticabllkadpmeaaGreatDoorOpenI
import Derived.Test.YticabllkadpmeaaGreatDoorCopyS
import Derived.Lib.AppendZerosOnto
import Derived.Lib.Overlaps
import Derived.ArgAppend
import Derived.OwnWalk
import Derived.Laws.Externs
import Derived.RegionTactic
import Derived.Deep.Cut
import Derived.IntWalk
namespace Go.Proofs.YticabllkadpmeaaGreatDoor
set_option linter.unusedVariables false
set_option linter.unusedSimpArgs false
set_option linter.unnecessarySimpa false
open Go.RowKit
open Tre (It)
set_option maxRecDepth 100000
set_option maxHeartbeats 4000000

section
variable {P : Program}
theorem wp_copy_run (w : World) {o : Oper} {a : Act} {K : Act → World → Prop} {Q : Exit → Act → World → Prop} (d s : Operand) (t t' : TypeId)
    (ho : o.op = .call { callee := .builtin .copy, args := #[d, s], argTypes := #[t, t'] }) (v u : Value) (hd : a.eval d = v) (hs : a.eval s = u) {v' : Value} {w' : World}
    (hr : (Builtin.copy_ #[t, t'] o.type #[v, u]).run P w = .ok v' w') (h : K (a.put o.dst v') w') : o.wp P a w K Q := by
  unfold Oper.wp execOp
  simp only [ho, resolve, invoke, builtin, Sem.run_bind, Sem.run_pure, Result.andThen_ok, List.map_toArray, List.map_cons, List.map_nil, hd, hs, hr]
  exact h
theorem step_copy_run {ops : Array Oper} {o : Oper} {a : Act} {w : World} {K : Act → World → Prop} {Q : Exit → Act → World → Prop} {E : Prop}
    (hg : o.guard = none) (d x : Operand) (dT sT : TypeId) (hop : o.op = Op.call { callee := Callee.builtin Builtin.copy, args := #[d, x], argTypes := #[dT, sT] })
    (v u : Value) (hd : a.eval d = v) (hx : a.eval x = u) {v' : Value} {w' : World} (hr : (Builtin.copy_ #[dT, sT] o.type #[v, u]).run P w = .ok v' w') (hK : K (a.put o.dst v') w') :
    if Region.wanted o (yielded ops a.tmps) = true then Oper.wp P o a w K Q else E := by
  have hw : Region.wanted o (yielded ops a.tmps) = true := by simp [Region.wanted, hg]
  rw [if_pos hw]
  exact wp_copy_run w d x dT sT hop v u hd hx hr hK
theorem wpList_copy_run (w : World) {ops : Array Oper} {rest : List Oper} {o : Oper} {a : Act} {Q : Exit → Act → World → Prop} (hgd : o.guard = none) (d s : Operand) (t t' : TypeId)
    (ho : o.op = .call { callee := .builtin .copy, args := #[d, s], argTypes := #[t, t'] }) (v u : Value) (hd : a.eval d = v) (hs : a.eval s = u) {v' : Value} {w' : World}
    (hr : (Builtin.copy_ #[t, t'] o.type #[v, u]).run P w = .ok v' w') (h : wpList P ops Q rest (a.put o.dst v') w') : wpList P ops Q (o :: rest) a w :=
  wpList_plain hgd fun _ hK => wp_copy_run w d s t t' ho v u hd hs hr (hK _ _ h)
end
theorem Row.shape {w : World} {B : Nat} {e : TypeId} {C : List Value} (h : Row w B e C) : w.shape? B = some (e, C.length) := by
  unfold World.shape?; unfold Row at h; rw [h]; simp
/-- The call owns the row behind v (of a block from 'base' on); it holds the items l. -/
def OwnI (w : World) (base : Nat) (v : Value) (l : List It) : Prop := w.ownsRow base 38 34 v l.length (itsC l)
theorem OwnI.its {w : World} {base : Nat} {v : Value} {l : List It} (h : OwnI w base v l) : Its w v l := Shows.of_own h
theorem OwnI.nil (w : World) (base : Nat) : OwnI w base (.slice none 0 0) [] := World.ownsRow_nil _ _ _ _
theorem OwnI.grown {w w' : World} {base : Nat} {v : Value} {l : List It} {row : Option Nat} (h : OwnI w base v l) (hg : w.grownBy w' row) (hn : ∀ k, v.ownBlock = some k → some k ≠ row) : OwnI w' base v l := by
  refine ⟨h.1, ?_⟩
  rcases h.2 with hv | ⟨g, cap, cur, hv, h1, h2, h3⟩
  · exact .inl hv
  · exact .inr ⟨g, cap, cur, hv, h1, (hg.block g (Array.getElem?_eq_some_iff.1 h2).1 (hn g (by rw [hv]; rfl))).trans h2, h3⟩
theorem OwnI.below {w w' : World} {B base : Nat} {v : Value} {l : List It} (h : OwnI w base v l) (hb : Below B w w') (hB : w.heap.size ≤ B) : OwnI w' base v l := by
  refine ⟨h.1, ?_⟩
  rcases h.2 with hv | ⟨g, cap, cur, hv, h1, h2, h3⟩
  · exact .inl hv
  · exact .inr ⟨g, cap, cur, hv, h1, (hb.block g (by have := (Array.getElem?_eq_some_iff.1 h2).1; omega)).trans h2, h3⟩
theorem OwnI.setRow_apart {w : World} {base : Nat} {v : Value} {l : List It} (h : OwnI w base v l) {b : Nat} {T : TypeId} {C : List Value} (hr : Row w b T C) (hT : T ≠ 38) (cs : Array Value) : OwnI (w.setRow b cs) base v l := by
  refine ⟨h.1, ?_⟩
  rcases h.2 with hv | ⟨g, cap, cur, hv, h1, h2, h3⟩
  · exact .inl hv
  · refine .inr ⟨g, cap, cur, hv, h1, ?_, h3⟩
    have hne : g ≠ b := by
      rintro rfl
      unfold Row at hr
      rw [h2] at hr
      simp only [Option.some.injEq, Obj.cells.injEq] at hr
      exact hT hr.2.1.symm
    rw [setRow_other w b g cs hne]; exact h2
theorem OwnI.lt {w : World} {base : Nat} {v : Value} {l : List It} (h : OwnI w base v l) (k : Nat) (hk : v.ownBlock = some k) : base ≤ k ∧ k < w.heap.size := World.ownsRow.lt h k hk
/-- What an insertion leaves. -/
def InsQ (w : World) (B : Nat) (v : Value) (L' : List It) (e : Ending) (w' : World) : Prop :=
  ∃ v', e = .returned v' ∧ OwnI w' B v' L' ∧ w.grownBy w' v.ownBlock ∧ (v'.ownBlock = v.ownBlock ∨ ∃ k, v'.ownBlock = some k ∧ w.heap.size ≤ k)
theorem item_info : (Tryz.prog.info? 38).map (fun i => (i.zero, i.size, i.bytes)) = some (some (.agg (itC dIt).toArray), 34, 56) := by kernel_rfl
theorem item_size1 : (Tryz.prog.info? 38).map (·.size) = some 34 := by kernel_rfl
theorem zl (n : Nat) : (Builtin.zeroCells (Value.agg (itC dIt).toArray).cells n).size = n * 34 := by
  rw [size_zeroCells]
  exact congrArg (n * ·) (by kernel_rfl)
theorem ins_cells (cur A X D : List Value) (p q : Nat) (hA : A.length = p) (hX : X.length = q) (h : cur.take p = A) (hl : p + q + D.length ≤ cur.length) :
    (splice (splice cur (p + q) D) p X).take (p + q + D.length) = A ++ X ++ D := by
  have e1 : (splice cur (p + q) D).take p = A := by
    unfold splice
    rw [List.take_append_of_le_length (by simp; omega), List.take_take, Nat.min_eq_left (by omega)]
    exact h
  have e2 : (splice cur (p + q) D).drop (p + X.length) = D ++ cur.drop (p + q + D.length) := by
    unfold splice
    rw [hX, List.drop_append_of_le_length (by simp; omega), List.drop_eq_nil_of_le (by simp; omega)]
    rfl
  have e3 : splice (splice cur (p + q) D) p X = A ++ X ++ D ++ cur.drop (p + q + D.length) := by
    conv => lhs; unfold splice
    rw [show List.take p (List.take (p + q) cur ++ (D ++ List.drop (p + q + D.length) cur)) = A from e1,
      show List.drop (p + X.length) (List.take (p + q) cur ++ (D ++ List.drop (p + q + D.length) cur)) = _ from e2]
    simp
  rw [e3]
  exact List.take_left' (by simp [hA, hX]; omega)
theorem ins_cells2 (cur A X D : List Value) (p q : Nat) (hA : A.length = p) (hX : X.length = q) (h : cur.take p = A) (hl : p + q + D.length ≤ cur.length) :
    (splice (splice cur p X) (p + q) D).take (p + q + D.length) = A ++ X ++ D := by
  have e1 : (splice cur p X).take (p + q) = A ++ X := by
    unfold splice
    rw [h, ← List.append_assoc]
    exact List.take_left' (by simp [hA, hX])
  have e3 : (splice (splice cur p X) (p + q) D).take (p + q + D.length) = (splice cur p X).take (p + q) ++ D := by
    have hc : p + q ≤ (splice cur p X).length := by rw [length_splice _ _ _ (by omega)]; omega
    generalize splice cur p X = C at hc ⊢
    unfold splice
    rw [← List.append_assoc]
    exact List.take_left' (by simp; omega)
  rw [e3, e1]

/-- There is room, and it stands ahead of others: in place. -/
theorem ins_shift (w : World) (B g cap : Nat) (L : List It) (i : Nat) (x : It) (vb : Nat) (hv : OwnI w B (.slice (some ⟨g, 0, none⟩) L.length cap) L) (hok : Oks L) (hx : ItOk x)
    (hi : i < L.length) (hcap : L.length + 1 ≤ cap) (hvb : Row w vb 38 (itC x)) (hne : vb ≠ g) :
    Calls Tryz.prog 26 #[.slice (some ⟨g, 0, none⟩) L.length cap, .int .i64 (i : Int), .slice (some ⟨vb, 0, none⟩) 1 1] w (InsQ w B (.slice (some ⟨g, 0, none⟩) L.length cap) (L.take i ++ x :: L.drop i)) := by
  rcases hv.2 with hn | ⟨g', cap', cur, hve, hB, hg, hnc, hcm, hcs, htk⟩
  · exact absurd hn.1 (by simp)
  simp only [Value.slice.injEq, Option.some.injEq, Addr.mk.injEq, and_true, true_and] at hve
  obtain ⟨rfl, rfl⟩ := hve
  have hrow : Row w g 38 cur.toList := by unfold Row; simpa using hg
  have hcl : cur.toList.length = cap * 34 := by simpa using hcs
  unfold maxLen at hcm
  have hdo : Oks (L.drop i) := fun y hy => hok y (List.mem_of_mem_drop hy)
  have hD : (itsC (L.drop i)).length = (L.length - i) * 34 := by rw [itsC_length hdo]; simp
  have hX := itC_length hx
  have hAl : (itsC (L.take i)).length = i * 34 := by rw [itsC_length (fun y hy => hok y (List.mem_of_mem_take hy)), List.length_take, Nat.min_eq_left (by omega)]
  have hcap0 : cur.toList.take (i * 34) = itsC (L.take i) := by
    rw [← itsC_take hok, ← htk, List.take_take, Nat.min_eq_left (by omega)]
  have hsrc : ∀ j v, (itsC (L.drop i))[j]? = some v → w.drew.cell? ⟨g, i * 34 + j, none⟩ = some v := fun j v hj => by
    show w.cell? ⟨g, i * 34 + j, none⟩ = some v
    rw [hrow.cell]
    have hj2 : j < (L.length - i) * 34 := by have := (List.getElem?_eq_some_iff.1 hj).1; omega
    rw [← itsC_drop hok, List.getElem?_drop, ← htk, List.getElem?_take, if_pos (by omega)] at hj
    exact hj
  have hov : ∀ lb cb, (callFunc 48 #[.slice (some ⟨vb, 0, none⟩) 1 1, .slice (some ⟨g, (i + 1) * 34, none⟩) lb cb]).run Tryz.prog w = .ok (.value (.bool false)) w := fun lb cb => by
    rw [run_callFunc_extern Tryz.func48 (by kernel_rfl) (by kernel_rfl) (by kernel_rfl) (e := Extern.SlicesOverlaps.overlaps #[22, 22] #[4]) (by kernel_rfl),
      Lib.run_overlaps_apart w 22 4 38 Tryz.underlying22 34 (fun w => by
        obtain ⟨i0, hi0, h0, h1, h2⟩ := info_parts item_info
        simp [sizeOf, typeInfo, hi0, h1]) ⟨vb, 0, none⟩ ⟨g, (i + 1) * 34, none⟩ 1 1 lb cb hne 38 38 (itC x).length cur.toList.length hvb.shape hrow.shape (by omega) (hvb.frozen 0) (hvb.frozen _)]
    rfl
  obtain ⟨D, hDd⟩ : ∃ D, itsC (L.drop i) = D := ⟨_, rfl⟩
  have hD1 : ∀ v ∈ D, v.oneCell' = true := by rw [← hDd]; exact itsC_one _
  have hfin : itsC (L.take i ++ x :: L.drop i) = itsC (L.take i) ++ itC x ++ D := by rw [itsC_append, ← hDd]; simp [itsC]
  have hlen : (L.take i ++ x :: L.drop i).length = L.length + 1 := by simp; omega
  rw [hDd] at hD hsrc
  obtain ⟨W1, hW1⟩ : ∃ W1, w.drew.setRow g (splice cur.toList ((i + 1) * 34) D).toArray = W1 := ⟨_, rfl⟩
  have hr1 : Row W1 g 38 (splice cur.toList ((i + 1) * 34) D) := by rw [← hW1]; exact setRow_heap w.drew g _ _ _ _ hrow
  have hvb1 : Row W1 vb 38 (itC x) := by rw [← hW1]; unfold Row; rw [setRow_other w.drew g vb _ hne]; exact hvb
  obtain ⟨W2, hW2⟩ : ∃ W2, W1.setRow g (splice (splice cur.toList ((i + 1) * 34) D) (i * 34) (itC x)).toArray = W2 := ⟨_, rfl⟩
  have hr2 : Row W2 g 38 (splice (splice cur.toList ((i + 1) * 34) D) (i * 34) (itC x)) := by rw [← hW2]; exact setRow_heap W1 g _ _ _ _ hr1
  have hcp1 := run_copy_rows w.drew 22 22 3 38 34 g ((i + 1) * 34) (L.length - i) (cap - (i + 1)) (some ⟨g, i * 34, none⟩) (L.length + 1 - i) (cap - i) cur.toList 38 D Tryz.underlying22 item_size1 hrow
    (by rw [show Nat.min (L.length + 1 - i) (L.length - i) = L.length - i from Nat.min_eq_right (by omega)]; exact hD) (fun y hy j v hj => by simp only [Option.some.injEq] at hy; subst hy; rw [Addr.add_lit]; exact hsrc j v hj) (fun h => by simp at h) (by omega) hD1
  have hcp2 := run_copy_rows W1 22 22 3 38 34 g (i * 34) (L.length + 1 - i) (cap - i) (some ⟨vb, 0, none⟩) 1 1 (splice cur.toList ((i + 1) * 34) D) 38 (itC x) Tryz.underlying22 item_size1 hr1
    (by rw [show Nat.min 1 (L.length + 1 - i) = 1 from Nat.min_eq_left (by omega)]; exact hX) (fun y hy j v hj => by simp only [Option.some.injEq] at hy; subst hy; rw [Addr.add_lit, Nat.zero_add, hvb1.cell]; exact hj) (fun h => by simp at h) (by rw [length_splice _ _ _ (by omega)]; omega) (itC_one x)
  rw [hW1] at hcp1
  rw [hW2] at hcp2
  have HEND : Hid (InsQ w B (.slice (some ⟨g, 0, none⟩) L.length cap) (L.take i ++ x :: L.drop i) (.returned (.slice (some ⟨g, 0, none⟩) (L.length + 1) cap)) W2) := by
    refine ⟨_, rfl, ⟨by rw [hfin, hlen]; simp only [List.length_append]; rw [hAl, hX, hD]; omega, .inr ⟨g, cap, (splice (splice cur.toList ((i + 1) * 34) D) (i * 34) (itC x)).toArray, by rw [hlen], hB, hr2, by omega, by unfold maxLen; omega, ?_, ?_⟩⟩, ?_, .inl rfl⟩
    · rw [List.size_toArray, length_splice _ _ _ (by rw [length_splice _ _ _ (by omega)]; omega), length_splice _ _ _ (by omega), hcl]
    · rw [hlen, hfin, List.toList_toArray]
      have := ins_cells cur.toList (itsC (L.take i)) (itC x) D (i * 34) 34 hAl hX hcap0 (by omega)
      rw [show i * 34 + 34 = (i + 1) * 34 by omega, hD, show (i + 1) * 34 + (L.length - i) * 34 = (L.length + 1) * 34 by omega] at this
      exact this
    · refine ⟨by rw [← hW2, ← hW1]; rfl, by rw [← hW2, ← hW1]; rfl, by rw [← hW2, ← hW1]; rfl, by rw [← hW2, ← hW1]; simp [World.setRow], fun k hk hnk => ?_⟩
      have hkg : k ≠ g := fun e => hnk (by subst e; rfl)
      rw [← hW2, ← hW1, setRow_other _ g k _ hkg, setRow_other _ g k _ hkg]
      rfl
  have HC1 := Lib.hid hcp1
  have HC2 := Lib.hid hcp2
  have HOV := hov
  have hcI : (L.length : Int) + 1 ≤ (cap : Int) := by omega
  have hiI : (i : Int) < (L.length : Int) := by omega
  have hc1 : ¬ cap = i := by omega
  have hc2 : ¬ cap = i + 1 := by omega
  have hc3 : ¬ (i : Int) = (L.length : Int) := by omega
  have hc4 : ¬ (L.length : Int) + 1 > (cap : Int) := by omega
  generalize L.length = n at *
  clear hok hdo hD hX hAl hcap0 hsrc hD1 hfin hlen hr1 hvb1 hr2 hcp1 hcp2 hov hDd hcl hrow htk hcs hg hv hx hvb hW1 hW2
  go_enter Tryz.func26, Tryz.ntmps26
  go_upto_region 15 with fail
  have k1 : IntKind.i64.wrap ((i : Int) + 1) = (i : Int) + 1 := IntWalk.i64_in _ ⟨by omega, by omega⟩
  have k2 : (0 : Int) ≤ (i : Int) + 1 := by omega
  have k3 : ((i : Int) + 1).toNat = i + 1 := by omega
  have k4 : (i : Int) + 1 ≤ (n : Int) + 1 := by omega
  have k5 : (i : Int) ≤ (n : Int) + 1 := by omega
  refine wp_region_any (by kernel_rfl) ?_
  try (change wpAny _ _ _ _ _ _ _ (World.drew _))
  refine wpAny_take (i := 0) (v := ?_) (by simp only [List.getElem?_toArray, List.getElem?_cons_zero, List.getElem?_cons_succ] <;> rfl) (by kernel_rfl) (by kernel_rfl) (by kernel_rfl) (by intro _ _ _ h; exact h) (Or.inl ⟨by rfl, ?_⟩) ?_
  rotate_left
  · intro w; go_simp; try with_reducible rfl
  try simp only [Act.put, List.setIfInBounds_toArray, List.set_cons_zero, List.set_cons_succ, Array.replicate]
  refine wpAny_take (i := 1) (v := ?_) (by simp only [List.getElem?_toArray, List.getElem?_cons_zero, List.getElem?_cons_succ] <;> rfl) (by kernel_rfl) (by kernel_rfl) (by kernel_rfl) (by intro _ _ _ h; exact h) (Or.inl ⟨by rfl, ?_⟩) ?_
  rotate_left
  · intro w; go_simp; try with_reducible rfl
  try simp only [Act.put, List.setIfInBounds_toArray, List.set_cons_zero, List.set_cons_succ, Array.replicate]
  refine wpAny_take (i := 2) (v := ?_) (by simp only [List.getElem?_toArray, List.getElem?_cons_zero, List.getElem?_cons_succ] <;> rfl) (by kernel_rfl) (by kernel_rfl) (by kernel_rfl) (by intro _ _ _ h; exact h) (Or.inl ⟨by rfl, ?_⟩) ?_
  rotate_left
  · intro w; go_simp; try with_reducible rfl
  try simp only [Act.put, List.setIfInBounds_toArray, List.set_cons_zero, List.set_cons_succ, Array.replicate]
  refine wpAny_take (i := 3) (v := ?_) (by simp only [List.getElem?_toArray, List.getElem?_cons_zero, List.getElem?_cons_succ] <;> rfl) (by kernel_rfl) (by kernel_rfl) (by kernel_rfl) (by intro _ _ _ h; exact h) (Or.inl ⟨by rfl, ?_⟩) ?_
  rotate_left
  · intro w; go_simp; try with_reducible rfl
  try simp only [Act.put, List.setIfInBounds_toArray, List.set_cons_zero, List.set_cons_succ, Array.replicate]
  refine wpAny_take (i := 4) (v := ?_) (by simp only [List.getElem?_toArray, List.getElem?_cons_zero, List.getElem?_cons_succ] <;> rfl) (by kernel_rfl) (by kernel_rfl) (by kernel_rfl) (by intro _ _ _ h; exact h) (Or.inl ⟨by rfl, ?_⟩) ?_
  rotate_left
  · intro w; go_simp; try with_reducible rfl
  try simp only [Act.put, List.setIfInBounds_toArray, List.set_cons_zero, List.set_cons_succ, Array.replicate]
  refine wpAny_take (i := 5) (v := ?_) (by simp only [List.getElem?_toArray, List.getElem?_cons_zero, List.getElem?_cons_succ] <;> rfl) (by kernel_rfl) (by kernel_rfl) (by kernel_rfl) (by intro _ _ _ h; exact h) (Or.inl ⟨by rfl, ?_⟩) ?_
  rotate_left
  · intro w; go_simp; try with_reducible rfl
  try simp only [Act.put, List.setIfInBounds_toArray, List.set_cons_zero, List.set_cons_succ, Array.replicate]
  refine wpAny_take (i := 6) (v := ?_) (by simp only [List.getElem?_toArray, List.getElem?_cons_zero, List.getElem?_cons_succ] <;> rfl) (by kernel_rfl) (by kernel_rfl) (by kernel_rfl) (by intro _ _ _ h; exact h) (Or.inl ⟨by rfl, ?_⟩) ?_
  rotate_left
  · intro w; go_simp; try with_reducible rfl
  try simp only [Act.put, List.setIfInBounds_toArray, List.set_cons_zero, List.set_cons_succ, Array.replicate]
  refine wpAny_take (i := 7) (v := ?_) (by simp only [List.getElem?_toArray, List.getElem?_cons_zero, List.getElem?_cons_succ] <;> rfl) (by kernel_rfl) (by kernel_rfl) (by kernel_rfl) (by intro _ _ _ h; exact h) (Or.inl ⟨by rfl, ?_⟩) ?_
  rotate_left
  · intro w; go_simp; try with_reducible rfl
  try simp only [Act.put, List.setIfInBounds_toArray, List.set_cons_zero, List.set_cons_succ, Array.replicate]
  refine wpAny_ready (rs := [8]) (by kernel_rfl) (by simp) ?_
  refine AllReady.cons (by simp only [List.getElem?_toArray, List.getElem?_cons_zero, List.getElem?_cons_succ] <;> rfl) (fun K hK => ?_) ?_
  · refine step_copy_run rfl (.tmp 73) (.tmp 76) _ _ rfl (.slice (some ⟨g, (i + 1) * 34, none⟩) (n - i) (cap - (i + 1))) (.slice (some ⟨g, i * 34, none⟩) (n + 1 - i) (cap - i)) rfl rfl HC1.out ?_
    refine hK _ _ ?_
    clear hK K
    try simp only [Act.put, List.setIfInBounds_toArray, List.set_cons_zero, List.set_cons_succ, Array.replicate]
    refine wpAny_done (by kernel_rfl) ?_ _
    clear k1 k2 k3 k4
    go_wp2_with (with_reducible refine wpList_copy_run _ rfl (.tmp 80) (.tmp 81) _ _ rfl (.slice (some ⟨g, i * 34, none⟩) (n + 1 - i) (cap - i)) (.slice (some ⟨vb, 0, none⟩) 1 1) rfl rfl HC2.out ?_)
    go_ret
    exact HEND.out
  exact AllReady.nil

/-- At the end: an append. -/
theorem ins_end (w : World) (B : Nat) (v : Value) (L : List It) (x : It) (vb : Nat) (hv : OwnI w B v L) (hok : Oks L) (hx : ItOk x) (hsz : L.length ≤ 1000000)
    (hvb : Row w vb 38 (itC x)) (hB : B ≤ w.heap.size) :
    Calls Tryz.prog 26 #[v, .int .i64 (L.length : Int), .slice (some ⟨vb, 0, none⟩) 1 1] w (InsQ w B v (L ++ [x])) := by
  obtain ⟨i0, hi0, hz0, hz1, hz2⟩ := info_parts item_info
  have hnews : ∀ j u, (itC x)[j]? = some u → w.cell? ((⟨vb, 0, none⟩ : Addr).add j) = some u := fun j u hu => by
    rw [Addr.add_lit, Nat.zero_add, hvb.cell]; exact hu
  have hX := itC_length hx
  have hfin : itsC (L ++ [x]) = itsC L ++ itC x := by rw [itsC_append]; simp [itsC]
  have hlen : (L ++ [x]).length = L.length + 1 := by simp
  have hzc : (Value.agg (itC dIt).toArray).cells.size = 34 := by kernel_rfl
  rcases hv.2 with ⟨hn, hn0⟩ | ⟨g, cap, cur, hve, hBg, hg, hnc, hcm, hcs, htk⟩
  · subst hn
    obtain rfl : L = [] := List.eq_nil_of_length_eq_zero hn0
    have HN := Lib.hid hnews
    have HX := Lib.hid hX
    have HZ0 := Lib.hid hz0
    have HZ1 := Lib.hid hz1
    have HZ2 := Lib.hid hz2
    have HI0 := Lib.hid hi0
    have HZC := Lib.hid hzc
    have h1c := Lib.hid (itC_one x)
    clear hnews hX hfin hlen hn0 hok hx hvb hv hz0 hz1 hz2 hi0 hzc
    go_enter Tryz.func26, Tryz.ntmps26
    go_wp2_with (at_builtin; refine wpList_append_grows _ rfl (.tmp 23) (.tmp 24) 22 rfl 38 i0 (.agg (itC dIt).toArray) 34 56 Tryz.underlying22 HI0.out HZ0.out HZ1.out HZ2.out HZC.out (by decide) none 0 0 [] rfl (fun _ => ⟨rfl, rfl⟩) rfl (fun b hb => by cases hb) ⟨vb, 0, none⟩ 1 1 (itC x) rfl HX.out HN.out h1c.out (by decide) (by decide) (by decide) ?_; intro v' w' k1 k2; have K1 := Lib.hid k1; have K2 := Lib.hid k2; clear k1 k2)
    go_ret
    refine ⟨v', rfl, ?_, ?_, ?_⟩
    · have := K1.out
      simp only [Nat.zero_add, List.nil_append] at this
      have h2 : OwnI w' w.heap.size v' [x] := by unfold OwnI; simpa [itsC] using this
      refine ⟨h2.1, ?_⟩
      rcases h2.2 with h | ⟨g, cap, cur, a1, a2, a3⟩
      · exact .inl h
      · exact .inr ⟨g, cap, cur, a1, Nat.le_trans hB a2, a3⟩
    · exact ⟨K2.out.os, K2.out.tape, K2.out.output, K2.out.size, fun k hk _ => K2.out.block k hk (by simp)⟩
    · rcases (show OwnI w' w.heap.size v' [x] by unfold OwnI; simpa [itsC] using K1.out).2 with h | ⟨g, cap, cur, a1, a2, a3⟩
      · exact absurd h.2 (by simp)
      · exact .inr ⟨g, by rw [a1]; rfl, a2⟩
  · subst hve
    unfold maxLen at hcm
    obtain ⟨z, hz⟩ : ∃ z, (if cap = L.length then (some ⟨g, 0, none⟩ : Option Addr) else some ⟨g, L.length * 34, none⟩) = z := ⟨_, rfl⟩
    have hcells : ∀ b, (some ⟨g, 0, none⟩ : Option Addr) = some b → ∀ j u, (itsC L)[j]? = some u → w.cell? (b.add j) = some u := fun b hb j u hu => by
      obtain ⟨_, a2, c2, he2, _, _, _, hc⟩ := hv.its
      simp only [Value.slice.injEq] at he2
      exact hc b (by rw [← he2.1]; exact hb) j u hu
    have HC := Lib.hid hcells
    have HO := Lib.hid hv
    have HL := Lib.hid (itsC_length hok)
    have HN := Lib.hid hnews
    have HX := Lib.hid hX
    have HZ0 := Lib.hid hz0
    have HZ1 := Lib.hid hz1
    have HZ2 := Lib.hid hz2
    have HI0 := Lib.hid hi0
    have HZC := Lib.hid hzc
    have h1c := Lib.hid (itC_one x)
    have HF := Lib.hid hfin
    have HLN := Lib.hid hlen
    clear hnews hX hfin hlen hok hx hvb hv hcells hg hcs htk hz0 hz1 hz2 hi0 hzc
    by_cases hfit : L.length + 1 ≤ cap
    · go_enter Tryz.func26, Tryz.ntmps26
      go_wp2_with (at_builtin; refine wpList_append_fits_any _ rfl (.tmp 23) (.tmp 24) 22 rfl B 38 i0 34 Tryz.underlying22 HI0.out HZ1.out g L.length cap (itsC L) rfl HO.out (some ⟨vb, 0, none⟩) 1 1 (itC x) rfl HX.out (fun h => by cases h) (fun ad hd => by cases hd; exact HN.out) h1c.out hfit ?_; intro w' k1 k2; have K1 := Lib.hid k1; have K2 := Lib.hid k2; clear k1 k2)
      go_ret
      refine ⟨_, rfl, ?_, K2.out, .inl rfl⟩
      unfold OwnI
      rw [HLN.out, HF.out]
      exact K1.out
    · go_enter Tryz.func26, Tryz.ntmps26
      go_wp2_with (at_builtin; refine wpList_append_grows _ rfl (.tmp 23) (.tmp 24) 22 rfl 38 i0 (.agg (itC dIt).toArray) 34 56 Tryz.underlying22 HI0.out HZ0.out HZ1.out HZ2.out HZC.out (by decide) (some ⟨g, 0, none⟩) L.length cap (itsC L) rfl (fun h => by cases h) HL.out HC.out ⟨vb, 0, none⟩ 1 1 (itC x) rfl HX.out HN.out h1c.out (by omega) (by unfold maxLen; omega) (by omega) ?_; intro v' w' k1 k2; have K1 := Lib.hid k1; have K2 := Lib.hid k2; clear k1 k2)
      go_ret
      have h2 : OwnI w' w.heap.size v' (L ++ [x]) := by unfold OwnI; rw [HLN.out, HF.out]; exact K1.out
      refine ⟨v', rfl, ⟨h2.1, ?_⟩, ⟨K2.out.os, K2.out.tape, K2.out.output, K2.out.size, fun k hk _ => K2.out.block k hk (by simp)⟩, ?_⟩
      · rcases h2.2 with h | ⟨g, cap, cur, a1, a2, a3⟩
        · exact .inl h
        · exact .inr ⟨g, cap, cur, a1, Nat.le_trans hB a2, a3⟩
      · rcases h2.2 with h | ⟨g, cap, cur, a1, a2, a3⟩
        · exact absurd h.2 (by simp)
        · exact .inr ⟨g, by rw [a1]; rfl, a2⟩

/-- There is no room, and it stands ahead of others: a new row. -/
theorem ins_grow (w : World) (B g cap : Nat) (L : List It) (i : Nat) (x : It) (vb : Nat) (hv : OwnI w B (.slice (some ⟨g, 0, none⟩) L.length cap) L) (hok : Oks L) (hx : ItOk x) (hsz : L.length ≤ 1000000)
    (hi : i < L.length) (hcap : cap < L.length + 1) (hvb : Row w vb 38 (itC x)) (hB : B ≤ w.heap.size) :
    Calls Tryz.prog 26 #[.slice (some ⟨g, 0, none⟩) L.length cap, .int .i64 (i : Int), .slice (some ⟨vb, 0, none⟩) 1 1] w (InsQ w B (.slice (some ⟨g, 0, none⟩) L.length cap) (L.take i ++ x :: L.drop i)) := by
  obtain ⟨i0, hi0, hz0, hz1, hz2⟩ := info_parts item_info
  rcases hv.2 with hn | ⟨g', cap', cur, hve, hBg, hg, hnc, hcm, hcs, htk⟩
  · exact absurd hn.1 (by simp)
  simp only [Value.slice.injEq, Option.some.injEq, Addr.mk.injEq, and_true, true_and] at hve
  obtain ⟨rfl, rfl⟩ := hve
  obtain rfl : cap = L.length := by omega
  have hrow : Row w g 38 cur.toList := by unfold Row; simpa using hg
  have hcl : cur.toList.length = L.length * 34 := by simpa using hcs
  have hcur : cur.toList = itsC L := by rw [← htk, List.take_of_length_le (by omega)]
  have hdo : Oks (L.drop i) := fun y hy => hok y (List.mem_of_mem_drop hy)
  have hto : Oks (L.take i) := fun y hy => hok y (List.mem_of_mem_take hy)
  have hD : (itsC (L.drop i)).length = (L.length - i) * 34 := by rw [itsC_length hdo]; simp
  have hX := itC_length hx
  have hAl : (itsC (L.take i)).length = i * 34 := by rw [itsC_length hto, List.length_take, Nat.min_eq_left (by omega)]
  have hLl := itsC_length hok
  have hlen : (L.take i ++ x :: L.drop i).length = L.length + 1 := by simp; omega
  obtain ⟨gc, hgc⟩ : ∃ gc, grownCap w (i + (L.length + 1 - i)) L.length 38 = gc := ⟨_, rfl⟩
  have hgc1 : L.length + 1 ≤ gc := by rw [← hgc]; have := grownCap_ge w (i + (L.length + 1 - i)) L.length 38; omega
  have hgc2 : gc ≤ maxLen := by rw [← hgc]; exact grownCap_le_maxLen w _ _ _ (by unfold maxLen; omega)
  obtain ⟨C0, hC0⟩ : ∃ C0 : List Value, ((itsC (L.take i)).toArray ++ Builtin.zeroCells (Value.agg (itC dIt).toArray).cells (L.length + 1 - i) ++ Builtin.zeroCells (Value.agg (itC dIt).toArray).cells (gc - (i + (L.length + 1 - i)))).toList = C0 := ⟨_, rfl⟩
  have hzl : ∀ n : Nat, (Builtin.zeroCells (Value.agg (itC dIt).toArray).cells n).size = n * 34 := by intro n; exact zl n
  have hC0l : C0.length = gc * 34 := by
    rw [← hC0, Array.length_toList, Array.size_append, Array.size_append, hzl, hzl, List.size_toArray, hAl, ← Nat.add_mul, ← Nat.add_mul]
    congr 1; omega
  have hC0t : C0.take (i * 34) = itsC (L.take i) := by
    rw [← hC0, Array.append_assoc, Array.toList_append]
    rw [← hAl]; simp
  obtain ⟨W1, hW1⟩ : ∃ W1, w.drew.alloc (.cells ((itsC (L.take i)).toArray ++ Builtin.zeroCells (Value.agg (itC dIt).toArray).cells (L.length + 1 - i) ++ Builtin.zeroCells (Value.agg (itC dIt).toArray).cells (gc - (i + (L.length + 1 - i)))) 38) = W1 := ⟨_, rfl⟩
  have hr1 : Row W1 w.heap.size 38 C0 := by rw [← hW1]; unfold Row; rw [← hC0, Array.toArray_toList]; exact heap_alloc_new w.drew _
  have hb1 : Below w.heap.size w W1 := by rw [← hW1]; exact (Below.refl _ w).drew.alloc (Nat.le_refl _) _
  have hvb1 : Row W1 vb 38 (itC x) := hvb.below hb1 hvb.lt
  have hrun : (Builtin.append_ #[22, 3] 22 #[.slice (some ⟨g, 0, none⟩) i L.length, .int .i64 ((L.length + 1 - i : Nat) : Int)]).run Tryz.prog w = .ok (.slice (some ⟨w.heap.size, 0, none⟩) (L.length + 1) gc) W1 := by
    have := Lib.run_append_grow_zeros (P := Tryz.prog) w 22 3 22 38 i0 (.agg (itC dIt).toArray) .i64 .i64 Tryz.underlying22 Tryz.underlying3 hi0 hz0 (some ⟨g, 0, none⟩) i L.length (itsC (L.take i))
      (by
        have hl := run_loadCells_list (P := Tryz.prog) w.drew ⟨g, 0, none⟩ (itsC (L.take i)) (fun j u hu => by
          rw [Addr.add_lit, Nat.zero_add]
          show w.cell? ⟨g, j, none⟩ = some u
          rw [hrow.cell, hcur]
          have hj : j < i * 34 := by have := (List.getElem?_eq_some_iff.1 hu).1; omega
          rw [← itsC_take hok, List.getElem?_take, if_pos hj] at hu
          exact hu)
        rw [hAl] at hl
        unfold Builtin.firstCells
        rw [hz1]
        exact hl)
      (L.length + 1 - i) (by omega) (by rw [hz1]; decide) (by omega) (by omega) (by rw [hz2]; omega) (by rw [hz2]; have := nextslicecap_le (need := i + (L.length + 1 - i)) (old := L.length) (by omega); omega)
    rw [hgc, hW1] at this
    rw [this]
    rw [show i + (L.length + 1 - i) = L.length + 1 by omega]
  obtain ⟨D, hDd⟩ : ∃ D, itsC (L.drop i) = D := ⟨_, rfl⟩
  have hD1 : ∀ v ∈ D, v.oneCell' = true := by rw [← hDd]; exact itsC_one _
  have hsrc : ∀ j v, D[j]? = some v → w.cell? ⟨g, i * 34 + j, none⟩ = some v := fun j v hj => by
    rw [hrow.cell, hcur]
    rw [← hDd, ← itsC_drop hok, List.getElem?_drop] at hj
    exact hj
  have hfin : itsC (L.take i ++ x :: L.drop i) = itsC (L.take i) ++ itC x ++ D := by rw [itsC_append, ← hDd]; simp [itsC]
  rw [hDd] at hD
  have hgl := hrow.lt
  have hcp1 := run_copy_rows W1 22 22 3 38 34 w.heap.size (i * 34) (L.length + 1 - i) (gc - i) (some ⟨vb, 0, none⟩) 1 1 C0 38 (itC x) Tryz.underlying22 item_size1 hr1
    (by rw [show Nat.min 1 (L.length + 1 - i) = 1 from Nat.min_eq_left (by omega)]; exact hX) (fun y hy j v hj => by simp only [Option.some.injEq] at hy; subst hy; rw [Addr.add_lit, Nat.zero_add, hvb1.cell]; exact hj) (fun h => by simp at h) (by omega) (itC_one x)
  obtain ⟨W2, hW2⟩ : ∃ W2, W1.setRow w.heap.size (splice C0 (i * 34) (itC x)).toArray = W2 := ⟨_, rfl⟩
  rw [hW2] at hcp1
  have hr2 : Row W2 w.heap.size 38 (splice C0 (i * 34) (itC x)) := by rw [← hW2]; exact setRow_heap W1 _ _ _ _ _ hr1
  have hb2 : Below w.heap.size w W2 := by rw [← hW2]; exact below_setRow hb1 (Nat.le_refl _) _
  have hcp2 := run_copy_rows W2.drew 22 22 3 38 34 w.heap.size ((i + 1) * 34) (L.length - i) (gc - (i + 1)) (some ⟨g, i * 34, none⟩) (L.length - i) (L.length - i) (splice C0 (i * 34) (itC x)) 38 D Tryz.underlying22 item_size1 hr2
    (by rw [show Nat.min (L.length - i) (L.length - i) = L.length - i from Nat.min_self _]; exact hD) (fun y hy j v hj => by simp only [Option.some.injEq] at hy; subst hy; rw [Addr.add_lit]; exact bcell hb2.drew (hsrc j v hj) hgl) (fun h => by simp at h) (by rw [length_splice _ _ _ (by omega)]; omega) hD1
  obtain ⟨W3, hW3⟩ : ∃ W3, W2.drew.setRow w.heap.size (splice (splice C0 (i * 34) (itC x)) ((i + 1) * 34) D).toArray = W3 := ⟨_, rfl⟩
  rw [hW3] at hcp2
  have hr3 : Row W3 w.heap.size 38 (splice (splice C0 (i * 34) (itC x)) ((i + 1) * 34) D) := by rw [← hW3]; exact setRow_heap W2.drew _ _ _ _ _ hr2
  have hb3 : Below w.heap.size w W3 := by rw [← hW3]; exact below_setRow hb2.drew (Nat.le_refl _) _
  have HEND : Hid (InsQ w B (.slice (some ⟨g, 0, none⟩) L.length L.length) (L.take i ++ x :: L.drop i) (.returned (.slice (some ⟨w.heap.size, 0, none⟩) (L.length + 1) gc)) W3) := by
    refine ⟨_, rfl, ⟨by rw [hfin, hlen]; simp only [List.length_append]; rw [hAl, hX, hD]; omega, .inr ⟨w.heap.size, gc, (splice (splice C0 (i * 34) (itC x)) ((i + 1) * 34) D).toArray, by rw [hlen], hB, hr3, by omega, hgc2, ?_, ?_⟩⟩, bgrow hb3 _, .inr ⟨_, rfl, Nat.le_refl _⟩⟩
    · rw [List.size_toArray, length_splice _ _ _ (by rw [length_splice _ _ _ (by omega)]; omega), length_splice _ _ _ (by omega), hC0l]
    · rw [hlen, hfin, List.toList_toArray]
      have := ins_cells2 C0 (itsC (L.take i)) (itC x) D (i * 34) 34 hAl hX hC0t (by omega)
      rw [show i * 34 + 34 = (i + 1) * 34 by omega, hD, show (i + 1) * 34 + (L.length - i) * 34 = (L.length + 1) * 34 by omega] at this
      exact this
  have HR := Lib.hid hrun
  have HC1 := Lib.hid hcp1
  have HC2 := Lib.hid hcp2
  have hiI : (i : Int) < (L.length : Int) := by omega
  have hc1 : ¬ L.length = i := by omega
  have hc3 : ¬ (i : Int) = (L.length : Int) := by omega
  have hc5 : ¬ gc = i := by omega
  have hc6 : ¬ gc = i + 1 := by omega
  have hc4 : (L.length : Int) < (L.length : Int) + 1 := by omega
  have hgcI : (L.length : Int) + 1 ≤ (gc : Int) := by omega
  have HV : Hid (Value.int .i64 ((L.length : Int) + 1 - (i : Int)) = .int .i64 ((L.length + 1 - i : Nat) : Int)) := congrArg (Value.int .i64) (by omega)
  unfold maxLen at hgc2
  generalize L.length = n at *
  clear hok hdo hto hD hX hAl hLl hlen hgc hC0 hzl hC0l hC0t hW1 hr1 hb1 hvb1 hrun hDd hD1 hsrc hfin hcp1 hW2 hr2 hb2 hcp2 hW3 hr3 hb3 hcur hcl hrow htk hcs hg hv hx hvb hz0 hz1 hz2 hi0 hgl
  go_enter Tryz.func26, Tryz.ntmps26
  go_wp2_with (first
    | (at_builtin; refine Lib.wpList_append_run _ rfl (.tmp 34) (.tmp 39) _ _ rfl (.slice (some ⟨g, 0, none⟩) i n) (.int .i64 ((n + 1 - i : Nat) : Int)) rfl HV.out _ _ HR.out ?_)
    | (with_reducible refine wpList_copy_run _ rfl (.tmp 43) (.tmp 44) _ _ rfl (.slice (some ⟨w.heap.size, i * 34, none⟩) (n + 1 - i) (gc - i)) (.slice (some ⟨vb, 0, none⟩) 1 1) rfl rfl HC1.out ?_))
  have k1 : IntKind.i64.wrap ((i : Int) + 1) = (i : Int) + 1 := IntWalk.i64_in _ ⟨by omega, by omega⟩
  have k2 : (0 : Int) ≤ (i : Int) + 1 := by omega
  have k3 : ((i : Int) + 1).toNat = i + 1 := by omega
  have k4 : (i : Int) + 1 ≤ (n : Int) + 1 := by omega
  have k6 : (i : Int) ≤ (n : Int) := by omega
  have k5 : (i : Int) ≤ (n : Int) + 1 := by omega
  refine wp_region_any (by kernel_rfl) ?_
  try (change wpAny _ _ _ _ _ _ _ (World.drew _))
  refine wpAny_take (i := 0) (v := ?_) (by simp only [List.getElem?_toArray, List.getElem?_cons_zero, List.getElem?_cons_succ] <;> rfl) (by kernel_rfl) (by kernel_rfl) (by kernel_rfl) (by intro _ _ _ h; exact h) (Or.inl ⟨by rfl, ?_⟩) ?_
  rotate_left
  · intro w; go_simp; try with_reducible rfl
  try simp only [Act.put, List.setIfInBounds_toArray, List.set_cons_zero, List.set_cons_succ, Array.replicate]
  refine wpAny_take (i := 1) (v := ?_) (by simp only [List.getElem?_toArray, List.getElem?_cons_zero, List.getElem?_cons_succ] <;> rfl) (by kernel_rfl) (by kernel_rfl) (by kernel_rfl) (by intro _ _ _ h; exact h) (Or.inl ⟨by rfl, ?_⟩) ?_
  rotate_left
  · intro w; go_simp; try with_reducible rfl
  try simp only [Act.put, List.setIfInBounds_toArray, List.set_cons_zero, List.set_cons_succ, Array.replicate]
  refine wpAny_take (i := 2) (v := ?_) (by simp only [List.getElem?_toArray, List.getElem?_cons_zero, List.getElem?_cons_succ] <;> rfl) (by kernel_rfl) (by kernel_rfl) (by kernel_rfl) (by intro _ _ _ h; exact h) (Or.inl ⟨by rfl, ?_⟩) ?_
  rotate_left
  · intro w; go_simp; try with_reducible rfl
  try simp only [Act.put, List.setIfInBounds_toArray, List.set_cons_zero, List.set_cons_succ, Array.replicate]
  refine wpAny_take (i := 3) (v := ?_) (by simp only [List.getElem?_toArray, List.getElem?_cons_zero, List.getElem?_cons_succ] <;> rfl) (by kernel_rfl) (by kernel_rfl) (by kernel_rfl) (by intro _ _ _ h; exact h) (Or.inl ⟨by rfl, ?_⟩) ?_
  rotate_left
  · intro w; go_simp; try with_reducible rfl
  try simp only [Act.put, List.setIfInBounds_toArray, List.set_cons_zero, List.set_cons_succ, Array.replicate]
  refine wpAny_take (i := 4) (v := ?_) (by simp only [List.getElem?_toArray, List.getElem?_cons_zero, List.getElem?_cons_succ] <;> rfl) (by kernel_rfl) (by kernel_rfl) (by kernel_rfl) (by intro _ _ _ h; exact h) (Or.inl ⟨by rfl, ?_⟩) ?_
  rotate_left
  · intro w; go_simp; try with_reducible rfl
  try simp only [Act.put, List.setIfInBounds_toArray, List.set_cons_zero, List.set_cons_succ, Array.replicate]
  refine wpAny_take (i := 5) (v := ?_) (by simp only [List.getElem?_toArray, List.getElem?_cons_zero, List.getElem?_cons_succ] <;> rfl) (by kernel_rfl) (by kernel_rfl) (by kernel_rfl) (by intro _ _ _ h; exact h) (Or.inl ⟨by rfl, ?_⟩) ?_
  rotate_left
  · intro w; go_simp; try with_reducible rfl
  try simp only [Act.put, List.setIfInBounds_toArray, List.set_cons_zero, List.set_cons_succ, Array.replicate]
  refine wpAny_take (i := 6) (v := ?_) (by simp only [List.getElem?_toArray, List.getElem?_cons_zero, List.getElem?_cons_succ] <;> rfl) (by kernel_rfl) (by kernel_rfl) (by kernel_rfl) (by intro _ _ _ h; exact h) (Or.inl ⟨by rfl, ?_⟩) ?_
  rotate_left
  · intro w; go_simp; try with_reducible rfl
  try simp only [Act.put, List.setIfInBounds_toArray, List.set_cons_zero, List.set_cons_succ, Array.replicate]
  refine wpAny_take (i := 7) (v := ?_) (by simp only [List.getElem?_toArray, List.getElem?_cons_zero, List.getElem?_cons_succ] <;> rfl) (by kernel_rfl) (by kernel_rfl) (by kernel_rfl) (by intro _ _ _ h; exact h) (Or.inl ⟨by rfl, ?_⟩) ?_
  rotate_left
  · intro w; go_simp; try with_reducible rfl
  try simp only [Act.put, List.setIfInBounds_toArray, List.set_cons_zero, List.set_cons_succ, Array.replicate]
  refine wpAny_ready (rs := [8]) (by kernel_rfl) (by simp) ?_
  refine AllReady.cons (by simp only [List.getElem?_toArray, List.getElem?_cons_zero, List.getElem?_cons_succ] <;> rfl) (fun K hK => ?_) ?_
  · refine step_copy_run rfl (.tmp 50) (.tmp 53) _ _ rfl (.slice (some ⟨w.heap.size, (i + 1) * 34, none⟩) (n - i) (gc - (i + 1))) (.slice (some ⟨g, i * 34, none⟩) (n - i) (n - i)) rfl rfl HC2.out ?_
    refine hK _ _ ?_
    clear hK K
    try simp only [Act.put, List.setIfInBounds_toArray, List.set_cons_zero, List.set_cons_succ, Array.replicate]
    refine wpAny_done (by kernel_rfl) ?_ _
    clear k1 k2 k3 k4
    go_wp2_with fail
    go_ret
    exact HEND.out
  exact AllReady.nil
/-- slices.Insert(l, i, x). -/
theorem ins_any (w : World) (B : Nat) (v : Value) (L : List It) (i : Nat) (x : It) (vb : Nat) (hv : OwnI w B v L) (hok : Oks L) (hx : ItOk x) (hsz : L.length ≤ 1000000)
    (hi : i ≤ L.length) (hvb : Row w vb 38 (itC x)) (hne : v.ownBlock ≠ some vb) (hB : B ≤ w.heap.size) :
    Calls Tryz.prog 26 #[v, .int .i64 (i : Int), .slice (some ⟨vb, 0, none⟩) 1 1] w (InsQ w B v (L.take i ++ x :: L.drop i)) := by
  by_cases h : i = L.length
  · subst h
    rw [List.take_length, List.drop_length]
    exact ins_end w B v L x vb hv hok hx hsz hvb hB
  · have hv' := hv
    rcases hv.2 with hn | ⟨g, cap, cur, hve, -⟩
    · omega
    · subst hve
      by_cases hc : L.length + 1 ≤ cap
      · exact ins_shift w B g cap L i x vb hv' hok hx (by omega) hc hvb (fun e => hne (by subst e; rfl))
      · exact ins_grow w B g cap L i x vb hv' hok hx hsz (by omega) (by omega) hvb hB
end Go.Proofs.YticabllkadpmeaaGreatDoor
