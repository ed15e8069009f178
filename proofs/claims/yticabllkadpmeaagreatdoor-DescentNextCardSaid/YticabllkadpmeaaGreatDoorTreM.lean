/- Trees in memory. -/
import Derived.Test.YticabllkadpmeaaGreatDoorTre9
import Derived.Test.YticabllkadpmeaaGreatDoorIns
import Derived.Great.BuildSlice
import Derived.Test.YticabllkadpmeaaGreatDoorRng
namespace Go.Proofs.YticabllkadpmeaaGreatDoor
set_option linter.unusedVariables false
set_option linter.unusedSimpArgs false
set_option linter.unnecessarySimpa false
open Go.RowKit
open Tre (It)
set_option maxRecDepth 100000
set_option maxHeartbeats 4000000

/-! ### stores in the middle of a row -/
theorem splice_cons (C r : List Value) (v : Value) (o : Nat) (hl : o + (r.length + 1) ≤ C.length) : splice (C.set o v) (o + 1) r = splice C o (v :: r) := by
  apply List.ext_getElem?
  intro j
  rw [splice_at (by simp; omega), splice_at (by simp; omega)]
  simp only [List.length_cons, List.getElem?_set]
  by_cases h1 : j < o
  · rw [if_pos (by omega), if_pos h1, if_neg (by omega)]
  · rw [if_neg h1]
    by_cases h2 : j = o
    · subst h2
      rw [if_pos (by omega), if_pos rfl, if_pos (by omega), if_pos (by omega)]
      simp
    · rw [if_neg (by omega)]
      by_cases h3 : j < o + 1 + r.length
      · rw [if_pos h3, if_pos (by omega), show j - o = (j - (o + 1)) + 1 by omega, List.getElem?_cons_succ]
      · rw [if_neg h3, if_neg (by omega), if_neg (by omega)]
theorem fold_set : ∀ (l : List Value) (k : Nat) (z : Array Value), k + l.length ≤ z.size → ((l.zipIdx k).foldl (fun acc (x : Value × Nat) => acc.setIfInBounds x.2 x.1) z).toList = splice z.toList k l
  | [], k, z, _ => by simp [splice]
  | v :: r, k, z, h => by
    simp only [List.length_cons] at h
    have := fold_set r (k + 1) (z.setIfInBounds k v) (by simp; omega)
    rw [List.zipIdx_cons, List.foldl_cons, this, Array.toList_setIfInBounds]
    exact splice_cons _ _ _ _ (by simp; omega)
theorem fill_one (z : Array Value) (cs : List Value) (n : Nat) (hz : z.size = n) (hc : cs.length = n) : Instr.fill (fun i => some (i * n, n)) z [(0, .agg cs.toArray)] = some cs.toArray := by
  have h := fold_set cs 0 z (by omega)
  have e : splice z.toList 0 cs = cs := by unfold splice; simp [hz, hc]
  rw [e] at h
  have h2 : (cs.zipIdx 0).foldl (fun acc (x : Value × Nat) => acc.setIfInBounds x.2 x.1) z = cs.toArray := by
    apply Array.toList_inj.1
    rw [h]
  simp only [Instr.fill]
  rw [if_neg (by simp [Value.cells, hz, hc])]
  refine congrArg some ?_
  refine Eq.trans ?_ h2
  simp only [Value.cells, Nat.zero_mul, Nat.zero_add]
  rw [← Array.foldl_toList, Array.toList_zipIdx]
theorem step_build_item {w : World} {ops : Array Oper} {o : Oper} {a : Act} {K : Act → World → Prop} {Q : Exit → Act → World → Prop} {E : Prop} (hgd : o.guard = none) (x : Operand) (ho : o.op = .buildSlice 22 1 #[(0, x)])
    (z : It) (hz : ItOk z) (hx : a.eval x = .agg (itC z).toArray) (h : K (a.put o.dst (.slice (some ⟨w.heap.size, 0, none⟩) 1 1)) (w.alloc (.cells (itC z).toArray 38))) :
    if Region.wanted o (yielded ops a.tmps) = true then Oper.wp Tryz.prog o a w K Q else E := by
  obtain ⟨i0, hi0, hz0, hz1, hz2⟩ := info_parts item_info
  rw [if_pos (by simp [Region.wanted, hgd])]
  refine wp_buildSlice 22 38 1 #[(0, x)] ho (itC z).toArray i0 (.agg (itC dIt).toArray) Tryz.underlying22 hi0 hz0 (by rw [hz1]; decide) (by rw [hz1]; decide) ?_ h
  rw [hz1]
  have e : (Array.map (fun (x : Nat × Operand) => (x.1, a.eval x.2)) #[(0, x)]).toList = [(0, .agg (itC z).toArray)] := by simp [hx]
  refine (congrArg (Instr.fill _ _) e).trans ?_
  exact fill_one _ _ 34 (by simp) (itC_length hz)
theorem Row.setCells {b : Nat} {t : TypeId} : ∀ (cs : List Value) (o : Nat) {w : World} {C : List Value}, Row w b t C → o + cs.length ≤ C.length → Row (w.setCells b o cs) b t (splice C o cs)
  | [], o, w, C, h, _ => by simpa [World.setCells, splice] using h
  | v :: r, o, w, C, h, hl => by
    simp only [List.length_cons] at hl
    have h1 := Row.setCells r (o + 1) (h.set o v) (by simp; omega)
    have e := splice_cons C r v o (by omega)
    rw [← e]
    exact h1
theorem grown_setCells (b : Nat) : ∀ (cs : List Value) (o : Nat) (w : World), w.grownBy (w.setCells b o cs) (some b)
  | [], _, _ => ⟨rfl, rfl, rfl, Nat.le_refl _, fun _ _ _ => rfl⟩
  | v :: r, o, w => by
    have h := grown_setCells b r (o + 1) (w.setCell ⟨b, o, none⟩ v)
    have hs : (w.setCell ⟨b, o, none⟩ v).heap.size = w.heap.size := by simp
    refine ⟨h.os, h.tape, h.output, by have := h.size; show w.heap.size ≤ ((w.setCell ⟨b, o, none⟩ v).setCells b (o + 1) r).heap.size; omega, fun k hk hn => ?_⟩
    rw [World.setCells]
    rw [h.block k (by omega) hn]
    exact heap_setCell_other w ⟨b, o, none⟩ k v (fun e => hn (by subst e; rfl))
theorem below_setCells {N : Nat} {w0 w : World} (hb : Below N w0 w) (b o : Nat) (cs : List Value) (hN : N ≤ b) : Below N w0 (w.setCells b o cs) := by
  have h := grown_setCells b cs o w
  exact hb.trans ⟨h.os, h.tape, h.output, h.size, fun k hk => by
    by_cases hkw : k < w.heap.size
    · exact h.block k hkw (fun e => by cases e; omega)
    · have hl : (w.setCells b o cs).heap.size = w.heap.size := by
        clear h hb hk
        induction cs generalizing o w with
        | nil => rfl
        | cons v r ih =>
          rw [World.setCells, ih (o + 1) (by simpa using hkw)]
          simp
      rw [Array.getElem?_eq_none (by omega), Array.getElem?_eq_none (by omega)]⟩
theorem Row.there {w : World} {b : Nat} {t : TypeId} {C : List Value} (h : Row w b t C) (o n : Nat) (hn : o + n ≤ C.length) : w.there b o n := fun j hj =>
  ⟨by rw [h.cell, List.getElem?_eq_getElem (by omega)]; rfl, h.frozen _⟩
/-- Rows of other types than those that a tree writes. -/
def St (t : TypeId) : Prop := t ≠ 44 ∧ t ≠ 38
theorem st_tree : ¬ St 44 := fun h => h.1 rfl
theorem st_item : ¬ St 38 := fun h => h.2 rfl
theorem kpt_setCells {w : World} {b : Nat} {t : TypeId} {C : List Value} (h : Row w b t C) (ht : ¬ St t) (o : Nat) (cs : List Value) : Kpt St w (w.setCells b o cs) :=
  Kpt.grown (grown_setCells b cs o w) (fun r hr => by cases hr; exact ⟨_, _, h⟩) ht
theorem Row.kst {A B : World} {b : Nat} {t : TypeId} {C : List Value} (h : Row A b t C) (hk : Kpt St A B) (ht : St t) : Row B b t C := hk.rows b _ t ht h
/-- The store of a sum in the middle of a row. -/
theorem store_sum_mid {w : World} {ops : Array Oper} {rest : List Oper} {o : Oper} {a : Act} {Q : Exit → Act → World → Prop} (hgd : o.guard = none) (x y : Operand) (ho : o.op = .store 36 x y)
    (b off : Nat) (hx : a.eval x = .pointer (some ⟨b, off, none⟩)) (l : List UInt8) (hy : a.eval y = sumV l) (hl : l.length = 32) (t : TypeId) (C : List Value) (hr : Row w b t C) (hC : off + 32 ≤ C.length)
    (h : wpList Tryz.prog ops Q rest (a.put o.dst undef) (w.setCells b off (bytes l))) : wpList Tryz.prog ops Q (o :: rest) a w :=
  wpList_store_mid hgd 36 x y ho b off (bytes l).toArray hx hy (hr.there off _ (by simp [hl]; omega)) (by rw [size_sum]; simp [hl]) (all_oneCell_toArray (bytes_one l)) h
theorem step_sum_mid {w : World} {ops : Array Oper} {o : Oper} {a : Act} {K : Act → World → Prop} {Q : Exit → Act → World → Prop} {E : Prop} (hgd : o.guard = none) (x y : Operand) (ho : o.op = .store 36 x y)
    (b off : Nat) (hx : a.eval x = .pointer (some ⟨b, off, none⟩)) (l : List UInt8) (hy : a.eval y = sumV l) (hl : l.length = 32) (t : TypeId) (C : List Value) (hr : Row w b t C) (hC : off + 32 ≤ C.length)
    (h : K (a.put o.dst undef) (w.setCells b off (bytes l))) : if Region.wanted o (yielded ops a.tmps) = true then Oper.wp Tryz.prog o a w K Q else E := by
  rw [if_pos (by simp [Region.wanted, hgd])]
  exact wp_store_mid 36 x y ho b off (bytes l).toArray hx hy (hr.there off _ (by simp [hl]; omega)) (by rw [size_sum]; simp [hl]) (all_oneCell_toArray (bytes_one l)) h
/-- The store of an item in the middle of a row. -/
theorem step_item_mid {w : World} {ops : Array Oper} {o : Oper} {a : Act} {K : Act → World → Prop} {Q : Exit → Act → World → Prop} {E : Prop} (hgd : o.guard = none) (x y : Operand) (ho : o.op = .store 38 x y)
    (b off : Nat) (hx : a.eval x = .pointer (some ⟨b, off, none⟩)) (z : It) (hy : a.eval y = .agg (itC z).toArray) (hz : ItOk z) (t : TypeId) (C : List Value) (hr : Row w b t C) (hC : off + 34 ≤ C.length)
    (h : K (a.put o.dst undef) (w.setCells b off (itC z))) : if Region.wanted o (yielded ops a.tmps) = true then Oper.wp Tryz.prog o a w K Q else E := by
  rw [if_pos (by simp [Region.wanted, hgd])]
  exact wp_store_mid 38 x y ho b off (itC z).toArray hx hy (hr.there off _ (by simp [itC_length hz]; omega)) (by rw [item_size1]; simp [itC_length hz]) (all_oneCell_toArray (itC_one z)) h

/-! ### cells -/
theorem splice_mid {α : Type} (A M R cs : List α) (o : Nat) (h : o + cs.length ≤ M.length) : splice (A ++ (M ++ R)) (A.length + o) cs = A ++ (splice M o cs ++ R) := by
  unfold splice
  rw [List.take_append, List.take_of_length_le (by omega), show A.length + o - A.length = o by omega, List.take_append_of_le_length (by omega)]
  rw [List.drop_append, List.drop_eq_nil_of_le (by omega), show A.length + o + cs.length - A.length = o + cs.length by omega, List.drop_append_of_le_length (by omega)]
  simp
theorem splice_head {α : Type} (M R cs : List α) (o : Nat) (h : o + cs.length ≤ M.length) : splice (M ++ R) o cs = splice M o cs ++ R := by
  have := splice_mid [] M R cs o h
  simpa using this
theorem splice_whole {α : Type} (A M cs : List α) (h : cs.length = M.length) : splice (A ++ M) A.length cs = A ++ cs := by
  unfold splice
  simp [h]
theorem sumsC_set {L : List (List UInt8)} (h : L32 L) (i : Nat) (hi : i < L.length) (x : List UInt8) (hx : x.length = 32) : sumsC (L.set i x) = splice (sumsC L) (i * 32) (bytes x) := by
  have ht : L32 (L.take i) := fun y hy => h y (List.mem_of_mem_take hy)
  have hd : L32 (L.drop (i + 1)) := fun y hy => h y (List.mem_of_mem_drop hy)
  have hm : (L[i]).length = 32 := h _ (List.getElem_mem hi)
  have e0 : L = L.take i ++ (L[i] :: L.drop (i + 1)) := by rw [← List.drop_eq_getElem_cons hi, List.take_append_drop]
  have e1 : sumsC L = sumsC (L.take i) ++ (bytes L[i] ++ sumsC (L.drop (i + 1))) := by
    refine (congrArg sumsC e0).trans ?_
    simp only [sumsC, List.flatMap_append, List.flatMap_cons]
  have e2 : sumsC (L.set i x) = sumsC (L.take i) ++ (bytes x ++ sumsC (L.drop (i + 1))) := by
    rw [List.set_eq_take_append_cons_drop, if_pos hi]
    simp [sumsC]
  have e3 : (sumsC (L.take i)).length = i * 32 := by rw [sumsC_length ht, List.length_take, Nat.min_eq_left (by omega)]
  have e4 : splice (bytes L[i]) 0 (bytes x) = bytes x := by unfold splice; simp [hm, hx]
  rw [e1, e2, ← e3]
  have := splice_mid (sumsC (L.take i)) (bytes L[i]) (sumsC (L.drop (i + 1))) (bytes x) 0 (by simp [hm, hx])
  rw [Nat.add_zero, e4] at this
  exact this.symm
theorem itsC_set {L : List It} (h : Oks L) (i : Nat) (hi : i < L.length) (x : It) (hx : ItOk x) : itsC (L.set i x) = splice (itsC L) (i * 34) (itC x) := by
  have ht : Oks (L.take i) := fun y hy => h y (List.mem_of_mem_take hy)
  have hm : (itC L[i]).length = 34 := itC_length (h _ (List.getElem_mem hi))
  have hx4 := itC_length hx
  have e0 : L = L.take i ++ (L[i] :: L.drop (i + 1)) := by rw [← List.drop_eq_getElem_cons hi, List.take_append_drop]
  have e1 : itsC L = itsC (L.take i) ++ (itC L[i] ++ itsC (L.drop (i + 1))) := by
    refine (congrArg itsC e0).trans ?_
    simp only [itsC, List.flatMap_append, List.flatMap_cons]
  have e2 : itsC (L.set i x) = itsC (L.take i) ++ (itC x ++ itsC (L.drop (i + 1))) := by
    rw [List.set_eq_take_append_cons_drop, if_pos hi]
    simp [itsC]
  have e3 : (itsC (L.take i)).length = i * 34 := by rw [itsC_length ht, List.length_take, Nat.min_eq_left (by omega)]
  have e4 : splice (itC L[i]) 0 (itC x) = itC x := by unfold splice; simp [hm, hx4]
  rw [e1, e2, ← e3]
  have := splice_mid (itsC (L.take i)) (itC L[i]) (itsC (L.drop (i + 1))) (itC x) 0 (by omega)
  rw [Nat.add_zero, e4] at this
  exact this.symm
/-! ### the tree -/
/-- A tree's parts: the slices of its leaves' items; these items; the sums of leaves, of nodes, of the root; how many items a leaf has at most. -/
structure TS where
  vs : List Value
  L : List (List It)
  S : List (List UInt8)
  A : List (List UInt8)
  R : List UInt8
  N : Nat
def TS.cells (T : TS) : List Value := T.vs ++ (sumsC T.S ++ (sumsC T.A ++ bytes T.R))
/-- An item whose name is not long. -/
def ItS (x : It) : Prop := ItOk x ∧ x.name.size ≤ 1000000
theorem ItS.oks {l : List It} (h : ∀ x ∈ l, ItS x) : Oks l := fun x hx => (h x hx).1
structure TS.Ok (T : TS) : Prop where
  nv : T.vs.length = 16
  nL : T.L.length = 16
  nS : T.S.length = 16
  s32 : L32 T.S
  nA : T.A.length = 4
  a32 : L32 T.A
  r32 : T.R.length = 32
  its : ∀ l ∈ T.L, ∀ x ∈ l, ItS x
  rise : ∀ l ∈ T.L, Tre.Rise l
  few : ∀ l ∈ T.L, l.length ≤ T.N
  small : T.N ≤ 1000000
/-- Block b is the tree T; all that it has lies at or beyond block B, and is its own. -/
structure Tr (w : World) (B b : Nat) (T : TS) : Prop where
  row : Row w b 44 T.cells
  hb : B ≤ b
  ok : T.Ok
  own : ∀ i, i < 16 → OwnI w B (T.vs.getD i undef) (T.L.getD i [])
  apart : ∀ i j k, i < 16 → j < 16 → i ≠ j → (T.vs.getD i undef).ownBlock = some k → (T.vs.getD j undef).ownBlock ≠ some k
section
variable {w w' : World} {B b : Nat} {T : TS}
theorem TS.Ok.sl (h : T.Ok) : (sumsC T.S).length = 512 := by rw [sumsC_length h.s32, h.nS]
theorem TS.Ok.al (h : T.Ok) : (sumsC T.A).length = 128 := by rw [sumsC_length h.a32, h.nA]
theorem TS.Ok.len (h : T.Ok) : T.cells.length = 688 := by unfold TS.cells; simp [h.nv, h.sl, h.al, h.r32]
theorem TS.Ok.leaf (h : T.Ok) (i : Nat) (hi : i < 16) : T.L.getD i [] ∈ T.L := by simp [List.getD, List.getElem?_eq_getElem (show i < T.L.length by rw [h.nL]; exact hi)]
theorem TS.Ok.slice (h : T.Ok) (i : Nat) (hi : i < 16) : T.cells[i]? = some (T.vs.getD i undef) := by
  have : i < T.vs.length := by rw [h.nv]; exact hi
  unfold TS.cells
  rw [List.getElem?_append_left this]
  simp [List.getD, List.getElem?_eq_getElem this]
theorem Tr.slice (h : Tr w B b T) (i : Nat) (hi : i < 16) : w.cell? ⟨b, i, none⟩ = some (T.vs.getD i undef) := by rw [h.row.cell, h.ok.slice i hi]
theorem range_of_row {t : TypeId} {C A M R : List Value} (h : Row w b t C) (hC : C = A ++ (M ++ R)) : w.rangeAt b A.length M := fun j v hv => by
  have hj : j < M.length := (List.getElem?_eq_some_iff.1 hv).1
  rw [h.cell, hC, List.getElem?_append_right (by omega), show A.length + j - A.length = j by omega, List.getElem?_append_left hj]
  exact hv
/-- Sums in the middle of a row. -/
theorem sms_of_row {t : TypeId} {C A : List Value} {R : List Value} {L : List (List UInt8)} {cap : Nat} (h : Row w b t C) (hC : C = A ++ (sumsC L ++ R)) (h32 : L32 L) (hc : L.length ≤ cap) (hcm : cap ≤ maxLen) : Sms w (.slice (some ⟨b, A.length, none⟩) L.length cap) L := by
  refine ⟨sumsC_length h32, _, _, rfl, hc, hcm, fun e => by simp at e, fun x hx j u hu => ?_⟩
  simp only [Option.some.injEq] at hx
  subst hx
  rw [Addr.add_lit]
  exact range_of_row h hC j u hu
/-- The four sums below a node. -/
theorem TS.Ok.four (h : T.Ok) (i : Nat) (hi : i < 4) : ∃ A R, T.cells = A ++ (sumsC ((T.S.drop (4 * i)).take 4) ++ R) ∧ A.length = 16 + 4 * i * 32 := by
  refine ⟨T.vs ++ sumsC (T.S.take (4 * i)), sumsC ((T.S.drop (4 * i)).drop 4) ++ (sumsC T.A ++ bytes T.R), ?_, ?_⟩
  · have e : sumsC T.S = sumsC (T.S.take (4 * i)) ++ (sumsC ((T.S.drop (4 * i)).take 4) ++ sumsC ((T.S.drop (4 * i)).drop 4)) := by
      unfold sumsC
      rw [← List.flatMap_append, List.take_append_drop, ← List.flatMap_append, List.take_append_drop]
    unfold TS.cells
    rw [e]
    simp
  · rw [List.length_append, h.nv, sumsC_length (fun y hy => h.s32 y (List.mem_of_mem_take hy)), List.length_take, h.nS, Nat.min_eq_left (show 4 * i ≤ 16 by omega)]
theorem TS.Ok.four32 (h : T.Ok) (i : Nat) : L32 ((T.S.drop (4 * i)).take 4) := fun y hy => h.s32 y (List.mem_of_mem_drop (List.mem_of_mem_take hy))
theorem Tr.sms4 (h : Tr w B b T) (i : Nat) (hi : i < 4) : Sms w (.slice (some ⟨b, 16 + 4 * i * 32, none⟩) 4 (16 - 4 * i)) ((T.S.drop (4 * i)).take 4) := by
  obtain ⟨A, R, hC, hA⟩ := h.ok.four i hi
  have hl : ((T.S.drop (4 * i)).take 4).length = 4 := by rw [List.length_take, List.length_drop, h.ok.nS]; omega
  have := sms_of_row (cap := 16 - 4 * i) h.row hC (h.ok.four32 i) (by omega) (by unfold maxLen; omega)
  rw [hA, hl] at this
  exact this
theorem Tr.smsA (h : Tr w B b T) : Sms w (.slice (some ⟨b, 528, none⟩) 4 4) T.A := by
  have := sms_of_row (A := T.vs ++ sumsC T.S) (R := bytes T.R) (cap := 4) h.row (by unfold TS.cells; simp) h.ok.a32 (by rw [h.ok.nA]; exact Nat.le_refl _) (by decide)
  rw [List.length_append, h.ok.nv, h.ok.sl, h.ok.nA] at this
  exact this
theorem sumsC_at {L : List (List UInt8)} (h32 : L32 L) (i : Nat) (hi : i < L.length) : ∃ A R, sumsC L = A ++ (bytes (L.getD i []) ++ R) ∧ A.length = i * 32 := by
  refine ⟨sumsC (L.take i), sumsC (L.drop (i + 1)), ?_, ?_⟩
  · have e0 : L = L.take i ++ (L[i] :: L.drop (i + 1)) := by rw [← List.drop_eq_getElem_cons hi, List.take_append_drop]
    have : L.getD i [] = L[i] := by simp [List.getD, List.getElem?_eq_getElem hi]
    rw [this]
    refine (congrArg sumsC e0).trans ?_
    simp only [sumsC, List.flatMap_append, List.flatMap_cons]
  · rw [sumsC_length (fun y hy => h32 y (List.mem_of_mem_take hy)), List.length_take, Nat.min_eq_left (by omega)]
theorem Tr.rangeS (h : Tr w B b T) (i : Nat) (hi : i < 16) : w.rangeAt b (16 + i * 32) (bytes (T.S.getD i [])) := by
  obtain ⟨A, R, hC, hA⟩ := sumsC_at h.ok.s32 i (by rw [h.ok.nS]; exact hi)
  have := range_of_row (A := T.vs ++ A) (M := bytes (T.S.getD i [])) (R := R ++ (sumsC T.A ++ bytes T.R)) h.row (by unfold TS.cells; rw [hC]; simp)
  rw [List.length_append, h.ok.nv, hA] at this
  exact this
theorem Tr.rangeA (h : Tr w B b T) (i : Nat) (hi : i < 4) : w.rangeAt b (528 + i * 32) (bytes (T.A.getD i [])) := by
  obtain ⟨A, R, hC, hA⟩ := sumsC_at h.ok.a32 i (by rw [h.ok.nA]; exact hi)
  have := range_of_row (A := T.vs ++ (sumsC T.S ++ A)) (M := bytes (T.A.getD i [])) (R := R ++ bytes T.R) h.row (by unfold TS.cells; rw [hC]; simp)
  rw [List.length_append, List.length_append, h.ok.nv, h.ok.sl, hA] at this
  rw [show 528 + i * 32 = 16 + (512 + i * 32) by omega]
  exact this
theorem Tr.rangeR (h : Tr w B b T) : w.rangeAt b 656 (bytes T.R) := by
  have := range_of_row (A := T.vs ++ (sumsC T.S ++ sumsC T.A)) (M := bytes T.R) (R := []) h.row (by unfold TS.cells; simp)
  rw [List.length_append, List.length_append, h.ok.nv, h.ok.sl, h.ok.al] at this
  exact this
theorem TS.Ok.S32 (h : T.Ok) (i : Nat) (hi : i < 16) : (T.S.getD i []).length = 32 := h.s32 _ (by simp [List.getD, List.getElem?_eq_getElem (show i < T.S.length by rw [h.nS]; exact hi)])
theorem TS.Ok.A32 (h : T.Ok) (i : Nat) (hi : i < 4) : (T.A.getD i []).length = 32 := h.a32 _ (by simp [List.getD, List.getElem?_eq_getElem (show i < T.A.length by rw [h.nA]; exact hi)])
theorem Tr.below (h : Tr w B b T) {N : Nat} (hb : Below N w w') (hN : w.heap.size ≤ N) : Tr w' B b T :=
  ⟨h.row.below hb (by have := h.row.lt; omega), h.hb, h.ok, fun i hi => (h.own i hi).below hb hN, h.apart⟩
theorem Tr.its (h : Tr w B b T) (i : Nat) (hi : i < 16) : Its w (T.vs.getD i undef) (T.L.getD i []) := (h.own i hi).its
theorem tree_ne : 44 ≠ 38 := by decide
theorem Tr.noblock (h : Tr w B b T) (i : Nat) (hi : i < 16) : (T.vs.getD i undef).ownBlock ≠ some b := fun e => by
  rcases (h.own i hi).2 with ⟨hv, -⟩ | ⟨g, cap, cur, hv, h1, h2, -⟩
  · rw [hv] at e; cases e
  · rw [hv] at e
    have : g = b := by simpa [Value.ownBlock] using e
    subst this
    have := h.row
    unfold Row at this
    rw [h2] at this
    simp only [Option.some.injEq, Obj.cells.injEq] at this
    exact tree_ne this.2.1.symm
/-- A new sum, in its place. -/
theorem Tr.store (h : Tr w B b T) (off : Nat) (x : List UInt8) (hx : x.length = 32) (T' : TS) (hC : T'.cells = splice T.cells off (bytes x)) (hl : off + 32 ≤ 688) (hv : T'.vs = T.vs) (hL : T'.L = T.L) (hok : T'.Ok) : Tr (w.setCells b off (bytes x)) B b T' := by
  refine ⟨by rw [hC]; exact Row.setCells _ _ h.row (by rw [h.ok.len]; simp [hx]; omega), h.hb, hok, fun i hi => ?_, by rw [hv]; exact h.apart⟩
  rw [hv, hL]
  exact (h.own i hi).grown (grown_setCells b (bytes x) off w) fun k hk e => h.noblock i hi (by rw [hk, e])
def TS.setS (T : TS) (i : Nat) (x : List UInt8) : TS := { T with S := T.S.set i x }
def TS.setA (T : TS) (i : Nat) (x : List UInt8) : TS := { T with A := T.A.set i x }
def TS.setR (T : TS) (x : List UInt8) : TS := { T with R := x }
theorem L32.set {L : List (List UInt8)} (h : L32 L) (i : Nat) {x : List UInt8} (hx : x.length = 32) : L32 (L.set i x) := fun y hy => by
  rcases List.mem_or_eq_of_mem_set hy with h1 | rfl
  · exact h y h1
  · exact hx
theorem TS.Ok.setS (h : T.Ok) (i : Nat) {x : List UInt8} (hx : x.length = 32) : (T.setS i x).Ok := ⟨h.nv, h.nL, by show (T.S.set i x).length = 16; rw [List.length_set]; exact h.nS, h.s32.set i hx, h.nA, h.a32, h.r32, h.its, h.rise, h.few, h.small⟩
theorem TS.Ok.setA (h : T.Ok) (i : Nat) {x : List UInt8} (hx : x.length = 32) : (T.setA i x).Ok := ⟨h.nv, h.nL, h.nS, h.s32, by show (T.A.set i x).length = 4; rw [List.length_set]; exact h.nA, h.a32.set i hx, h.r32, h.its, h.rise, h.few, h.small⟩
theorem TS.Ok.setR (h : T.Ok) {x : List UInt8} (hx : x.length = 32) : (T.setR x).Ok := ⟨h.nv, h.nL, h.nS, h.s32, h.nA, h.a32, hx, h.its, h.rise, h.few, h.small⟩
theorem Tr.storeS (h : Tr w B b T) (i : Nat) (hi : i < 16) (x : List UInt8) (hx : x.length = 32) : Tr (w.setCells b (16 + i * 32) (bytes x)) B b (T.setS i x) := by
  refine h.store _ x hx _ ?_ (by omega) rfl rfl (h.ok.setS i hx)
  show T.vs ++ (sumsC (T.S.set i x) ++ (sumsC T.A ++ bytes T.R)) = splice (T.vs ++ (sumsC T.S ++ (sumsC T.A ++ bytes T.R))) (16 + i * 32) (bytes x)
  rw [sumsC_set h.ok.s32 i (by rw [h.ok.nS]; exact hi) x hx, ← h.ok.nv]
  exact (splice_mid _ _ _ _ _ (by rw [h.ok.sl]; simp [hx]; omega)).symm
theorem Tr.storeA (h : Tr w B b T) (i : Nat) (hi : i < 4) (x : List UInt8) (hx : x.length = 32) : Tr (w.setCells b (528 + i * 32) (bytes x)) B b (T.setA i x) := by
  refine h.store _ x hx _ ?_ (by omega) rfl rfl (h.ok.setA i hx)
  show T.vs ++ (sumsC T.S ++ (sumsC (T.A.set i x) ++ bytes T.R)) = splice (T.vs ++ (sumsC T.S ++ (sumsC T.A ++ bytes T.R))) (528 + i * 32) (bytes x)
  rw [sumsC_set h.ok.a32 i (by rw [h.ok.nA]; exact hi) x hx]
  have key := splice_mid (T.vs ++ sumsC T.S) (sumsC T.A) (bytes T.R) (bytes x) (i * 32) (by rw [h.ok.al]; simp [hx]; omega)
  rw [List.length_append, h.ok.nv, h.ok.sl] at key
  simp only [List.append_assoc] at key ⊢
  exact key.symm
theorem Tr.storeR (h : Tr w B b T) (x : List UInt8) (hx : x.length = 32) : Tr (w.setCells b 656 (bytes x)) B b (T.setR x) := by
  refine h.store _ x hx _ ?_ (by omega) rfl rfl (h.ok.setR hx)
  show T.vs ++ (sumsC T.S ++ (sumsC T.A ++ bytes x)) = splice (T.vs ++ (sumsC T.S ++ (sumsC T.A ++ bytes T.R))) 656 (bytes x)
  have e : 656 = (T.vs ++ (sumsC T.S ++ sumsC T.A)).length := by rw [List.length_append, List.length_append, h.ok.nv, h.ok.sl, h.ok.al]
  rw [e]
  have := splice_whole (T.vs ++ (sumsC T.S ++ sumsC T.A)) (bytes T.R) (bytes x) (by simp [hx, h.ok.r32])
  simp only [List.append_assoc] at this ⊢
  exact this.symm
/-- Other items in a leaf. -/
def TS.setL (T : TS) (i : Nat) (v : Value) (l : List It) : TS := { T with vs := T.vs.set i v, L := T.L.set i l, N := T.N + 1 }
theorem TS.Ok.setL (h : T.Ok) (i : Nat) (v : Value) (l : List It) (h1 : ∀ x ∈ l, ItS x) (h2 : Tre.Rise l) (h3 : l.length ≤ T.N + 1) (h4 : T.N + 1 ≤ 1000000) : (T.setL i v l).Ok := by
  refine ⟨by show (T.vs.set i v).length = 16; rw [List.length_set]; exact h.nv, by show (T.L.set i l).length = 16; rw [List.length_set]; exact h.nL, h.nS, h.s32, h.nA, h.a32, h.r32, ?_, ?_, ?_, h4⟩
  · intro m hm
    rcases List.mem_or_eq_of_mem_set hm with h5 | rfl
    · exact h.its m h5
    · exact h1
  · intro m hm
    rcases List.mem_or_eq_of_mem_set hm with h5 | rfl
    · exact h.rise m h5
    · exact h2
  · intro m hm
    rcases List.mem_or_eq_of_mem_set hm with h5 | rfl
    · have := h.few m h5; show _ ≤ T.N + 1; omega
    · exact h3
theorem Tr.setV (h : Tr w B b T) (i : Nat) (hi : i < 16) (v : Value) (l : List It) (w1 : World) (hg : w.grownBy w1 (T.vs.getD i undef).ownBlock) (ho : OwnI w1 B v l) (hv : v.ownBlock = (T.vs.getD i undef).ownBlock ∨ ∃ k, v.ownBlock = some k ∧ w.heap.size ≤ k)
    (hok : (T.setL i v l).Ok) : Tr (w1.setCell ⟨b, i, none⟩ v) B b (T.setL i v l) := by
  have hbl : b < w.heap.size := h.row.lt
  have hrow1 : Row w1 b 44 T.cells := (hg.block b hbl (fun e => h.noblock i hi e.symm)).trans h.row
  have hvn : v.ownBlock ≠ some b := by
    rcases hv with e | ⟨k, e, hk⟩
    · rw [e]; exact h.noblock i hi
    · rw [e]; intro e2; cases e2; omega
  have hgs : w1.grownBy (w1.setCell ⟨b, i, none⟩ v) (some b) := grown_setCells b [v] i w1
  have hget : ∀ j, j ≠ i → (T.vs.set i v).getD j undef = T.vs.getD j undef := fun j hj => by simp [List.getD, List.getElem?_set, Ne.symm hj]
  have hgeti : (T.vs.set i v).getD i undef = v := by simp [List.getD, List.getElem?_set, h.ok.nv, hi]
  have hgetL : ∀ j, j ≠ i → (T.L.set i l).getD j [] = T.L.getD j [] := fun j hj => by simp [List.getD, List.getElem?_set, Ne.symm hj]
  have hgetLi : (T.L.set i l).getD i [] = l := by simp [List.getD, List.getElem?_set, h.ok.nL, hi]
  refine ⟨?_, h.hb, hok, fun j hj => ?_, fun j k q hj hk hjk e => ?_⟩
  · have := hrow1.set i v
    have e : T.cells.set i v = (T.setL i v l).cells := by
      unfold TS.cells TS.setL
      rw [List.set_append_left _ _ (by rw [h.ok.nv]; exact hi)]
    rw [← e]; exact this
  · show OwnI _ B ((T.vs.set i v).getD j undef) ((T.L.set i l).getD j [])
    by_cases hji : j = i
    · subst hji
      rw [hgeti, hgetLi]
      exact ho.grown hgs fun k hk e => hvn (by rw [hk, e])
    · rw [hget j hji, hgetL j hji]
      refine ((h.own j hj).grown hg fun k hk e => ?_).grown hgs fun k hk e => h.noblock j hj (by rw [hk, e])
      exact h.apart j i k hj hi hji hk e.symm
  · show ((T.vs.set i v).getD k undef).ownBlock ≠ some q
    have e' : ((T.vs.set i v).getD j undef).ownBlock = some q := e
    by_cases hji : j = i
    · subst hji
      rw [hgeti] at e'
      rw [hget k (Ne.symm hjk)]
      intro e2
      rcases hv with e3 | ⟨q', e3, hq⟩
      · exact h.apart k j q hk hj (Ne.symm hjk) e2 (by rw [← e3]; exact e')
      · have := (h.own k hk).lt q e2
        rw [e3] at e'
        cases e'
        omega
    · rw [hget j hji] at e'
      by_cases hki : k = i
      · subst hki
        rw [hgeti]
        intro e2
        rcases hv with e3 | ⟨q', e3, hq⟩
        · exact h.apart j k q hj hk hjk e' (by rw [← e3]; exact e2)
        · have := (h.own j hj).lt q e'
          rw [e3] at e2
          cases e2
          omega
      · rw [hget k hki]
        exact h.apart j k q hj hk hjk e'
/-- An item in the place of one. -/
theorem OwnI.set {l : List It} {g n cap : Nat} (h : OwnI w B (.slice (some ⟨g, 0, none⟩) n cap) l) (hok : Oks l) (j : Nat) (hj : j < l.length) (x : It) (hx : ItOk x) : OwnI (w.setCells g (j * 34) (itC x)) B (.slice (some ⟨g, 0, none⟩) n cap) (l.set j x) ∧ ∃ C, Row w g 38 C ∧ j * 34 + 34 ≤ C.length := by
  have hx4 := itC_length hx
  rcases h.2 with ⟨hv, -⟩ | ⟨g', cap', cur, hv, h1, h2, h3, h4, h5, h6⟩
  · cases hv
  · simp only [Value.slice.injEq, Option.some.injEq, Addr.mk.injEq, and_true] at hv
    obtain ⟨rfl, rfl, rfl⟩ := hv
    have hr : Row w g 38 cur.toList := by unfold Row; simpa using h2
    have hl : cur.toList.length = cap * 34 := by simpa using h5
    have hll := itsC_length hok
    have hr2 := Row.setCells (itC x) (j * 34) hr (by omega)
    refine ⟨⟨?_, .inr ⟨g, cap, (splice cur.toList (j * 34) (itC x)).toArray, by rw [List.length_set], h1, hr2, by rw [List.length_set]; exact h3, h4, ?_, ?_⟩⟩, cur.toList, hr, by omega⟩
    · rw [itsC_set hok j hj x hx, length_splice _ _ _ (by omega), List.length_set, hll]
    · rw [List.size_toArray, length_splice _ _ _ (by omega), hl]
    · rw [List.length_set, List.toList_toArray, itsC_set hok j hj x hx, ← h6]
      apply List.ext_getElem?
      intro k
      rw [splice_at (by rw [h6]; omega), List.getElem?_take, splice_at (by omega)]
      simp only [List.getElem?_take]
      by_cases hk : k < l.length * 34
      · rw [if_pos hk, if_pos hk]
      · rw [if_neg hk, if_neg hk, if_neg (by omega), if_neg (by omega)]
end
end Go.Proofs.YticabllkadpmeaaGreatDoor
