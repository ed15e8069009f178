/- Of no program: what two trees have not in common, plainly. -/
import Derived.Test.YticabllkadpmeaaGreatDoorTreQ
import Derived.Test.YticabllkadpmeaaGreatDoorRPut
namespace Go.Proofs.YticabllkadpmeaaGreatDoor
set_option linter.unusedVariables false
set_option linter.unusedSimpArgs false
set_option linter.unnecessarySimpa false
namespace Tre
open Go.Op (bytesLess)

/-- All items, leaf by leaf. -/
def leaves (A : List It) (n : Nat) : List It := (List.range n).flatMap (leafItems A)
theorem leaves_succ (A : List It) (n : Nat) : leaves A (n + 1) = leaves A n ++ leafItems A n := by
  unfold leaves; rw [List.range_succ, List.flatMap_append]; simp
theorem leaves_perm' (A : List It) (n : Nat) : (leaves A n).Perm (A.filter fun x => decide (slot x.nm < n)) := by
  induction n with
  | zero => simp [leaves]
  | succ n ih =>
    rw [leaves_succ]
    have h1 : (A.filter fun x => decide (slot x.nm < n + 1)).Perm ((A.filter fun x => decide (slot x.nm < n)) ++ leafItems A n) := by
      unfold leafItems
      clear ih
      induction A with
      | nil => simp
      | cons x r ih =>
        simp only [List.filter_cons]
        by_cases h : slot x.nm < n
        · have h2 : slot x.nm < n + 1 := by omega
          have h3 : ¬ (slot x.nm == n) = true := by simp; omega
          rw [if_pos (by simp [h2]), if_pos (by simp [h]), if_neg h3]
          exact List.Perm.cons x ih
        · by_cases h3 : slot x.nm = n
          · have h2 : slot x.nm < n + 1 := by omega
            have h4 : (slot x.nm == n) = true := by simp [h3]
            rw [if_pos (by simp [h2]), if_neg (by simp [h]), if_pos h4]
            exact (List.Perm.cons x ih).trans List.perm_middle.symm
          · have h2 : ¬ slot x.nm < n + 1 := by omega
            rw [if_neg (by simp [h2]), if_neg (by simp [h]), if_neg (by simp [h3])]
            exact ih
    exact (List.Perm.append_right _ ih).trans h1.symm
theorem leaves_perm (A : List It) : (leaves A 16).Perm A := by
  have h := leaves_perm' A 16
  have : (A.filter fun x => decide (slot x.nm < 16)) = A := by
    apply List.filter_eq_self.2
    intro x _
    simp [slot_lt]
  rwa [this] at h

/-! ### what is missing -/
/-- One step of the sum that stops at the greatest number. -/
def satStep (M n d : Nat) : Nat := n + min d (M - n)
theorem satStep_le {M n d : Nat} (h : n ≤ M) : satStep M n d ≤ M := by unfold satStep; omega
theorem sat_fold (M : Nat) : ∀ (l : List Nat) (n : Nat), n ≤ M → l.foldl (satStep M) n = min (n + l.sum) M
  | [], n, h => by simp; omega
  | d :: r, n, h => by
    rw [List.foldl_cons, sat_fold M r _ (satStep_le h), List.sum_cons]
    unfold satStep
    omega
theorem sat_perm (M : Nat) {l m : List Nat} (h : l.Perm m) : l.foldl (satStep M) 0 = m.foldl (satStep M) 0 := by
  rw [sat_fold M l 0 (Nat.zero_le _), sat_fold M m 0 (Nat.zero_le _), h.sum_nat]

/-! ### names in order -/
theorem less_lt : ∀ a b : List UInt8, bytesLess a b = true ↔ a < b
  | _, [] => by simp [bytesLess]
  | [], _ :: _ => by simp [bytesLess]
  | a :: x, b :: y => by
    simp only [bytesLess, Bool.or_eq_true, decide_eq_true_eq, Bool.and_eq_true, beq_iff_eq, List.cons_lt_cons_iff, less_lt x y]
theorem names_sorted {B : List It} (h : Rise B) : (B.map It.nm).Pairwise (fun a b => a ≤ b) := by
  rw [List.pairwise_map]
  exact h.imp fun hab => List.le_of_lt ((less_lt _ _).1 hab)
/-- Names of some items, leaf by leaf, in order: as the items stand. -/
theorem behind_eq {B : List It} (hB : Rise B) (p : It → Bool) : (((leaves B 16).filter p).map It.nm).mergeSort (fun x y => decide (x ≤ y)) = (B.filter p).map It.nm := by
  have hperm : (((leaves B 16).filter p).map It.nm).Perm ((B.filter p).map It.nm) := ((leaves_perm B).filter p).map _
  refine List.Perm.eq_of_pairwise (le := fun a b : List UInt8 => a ≤ b) (fun a b _ _ h1 h2 => List.le_antisymm h1 h2) ?_ (names_sorted (filter_rise p B hB)) ((List.mergeSort_perm _ _).trans hperm)
  have := List.pairwise_mergeSort (le := fun x y : List UInt8 => decide (x ≤ y)) (by intro a b c h1 h2; simp only [decide_eq_true_eq] at *; exact List.le_trans h1 h2) (by intro a b; simp only [Bool.or_eq_true, decide_eq_true_eq]; exact List.le_total a b) (((leaves B 16).filter p).map It.nm)
  exact this.imp fun h => by simpa using h

/-! ### what two trees have -/
/-- The item of a name; one of nothing, if there is none. -/
def haveOf (A : List It) (n : ByteArray) : It := match find A n.data.toList with
  | some x => x
  | none => { name := n, len := 0, sum := nought }
theorem haveOf_name (A : List It) (n : ByteArray) : (haveOf A n).name = n := by
  unfold haveOf
  split
  · rename_i x h
    unfold find at h
    have := List.find?_some h
    simp only [beq_iff_eq] at this
    cases n with
    | mk a =>
      cases hx : x.name with
      | mk b =>
        unfold It.nm at this
        rw [hx] at this
        rw [show b = a from Array.toList_inj.1 this]
  · rfl
def wantsF (A items : List It) : List It := items.filterMap fun x => if (haveOf A x.name).len < x.len then some (haveOf A x.name) else none
theorem wantsF_snoc (A L : List It) (x : It) : wantsF A (L ++ [x]) = wantsF A L ++ (if (haveOf A x.name).len < x.len then [haveOf A x.name] else []) := by
  unfold wantsF
  rw [List.filterMap_append]
  congr 1
  simp only [List.filterMap_cons, List.filterMap_nil]
  split <;> rename_i h <;> split at h <;> simp_all
theorem wantsF_length (A L : List It) : (wantsF A L).length ≤ L.length := by unfold wantsF; exact List.length_filterMap_le _ _
/-- How much is missing of each. -/
def lackF (A L : List It) : List Nat := L.filterMap fun x => if (haveOf A x.name).len < x.len then some (x.len - (haveOf A x.name).len) else none
def missF (A L : List It) : Nat := (lackF A L).foldl (satStep 4611686018427387903) 0
theorem lackF_snoc (A L : List It) (x : It) : lackF A (L ++ [x]) = lackF A L ++ (if (haveOf A x.name).len < x.len then [x.len - (haveOf A x.name).len] else []) := by
  unfold lackF
  rw [List.filterMap_append]
  congr 1
  simp only [List.filterMap_cons, List.filterMap_nil]
  split <;> rename_i h <;> split at h <;> simp_all
theorem missF_snoc (A L : List It) (x : It) : missF A (L ++ [x]) = if (haveOf A x.name).len < x.len then satStep 4611686018427387903 (missF A L) (x.len - (haveOf A x.name).len) else missF A L := by
  unfold missF
  rw [lackF_snoc, List.foldl_append]
  split <;> rfl
theorem missF_le (A L : List It) : missF A L ≤ 4611686018427387903 := by
  unfold missF
  rw [sat_fold _ _ _ (Nat.zero_le _)]
  exact Nat.min_le_right _ _
theorem missF_leaves (A B : List It) : missF A (leaves B 16) = missF A B := sat_perm _ ((leaves_perm B).filterMap _)
end Tre
end Go.Proofs.YticabllkadpmeaaGreatDoor
namespace Go.Proofs.YticabllkadpmeaaGreatDoor
set_option linter.unusedVariables false
set_option linter.unusedSimpArgs false
set_option linter.unnecessarySimpa false
open Go.RowKit
open Tre (It)
set_option maxRecDepth 100000
set_option maxHeartbeats 8000000

theorem ret_item1 {fn : Func} {p : Tmp} (h : fn.results = #[.cell p 38]) {R : Ending → World → Prop} {a : Act} {w : World} (hd : a.defers = []) (g : Nat) (hp : a.tmps.getD p undef = .pointer (some ⟨g, 0, none⟩)) (t : TypeId) (x : It) (hr : Row w g t (itC x)) (hx : ItOk x)
    (hR : R (.returned (.agg (itC x).toArray)) w) : bodyPost Tryz.prog fn R .ret a w :=
  bodyPost_ret (results_cell_row h a.tmps w g t _ _ _ hp hr Tryz.underlying38 rfl (by rw [size_item]; simp [itC_length hx])) hd hR
theorem haveOf_cells (A : List It) (n : ByteArray) : itC (Tre.haveOf A n) = (itC (optIt (Tre.find A n.data.toList))).set 0 (.string n) := by
  have hn := Tre.haveOf_name A n
  unfold Tre.haveOf at hn ⊢
  cases h : Tre.find A n.data.toList with
  | none => rfl
  | some x =>
    rw [h] at hn
    simp only at hn
    subst hn
    rfl
theorem find_mem {A : List It} {n : List UInt8} {x : It} (h : Tre.find A n = some x) : x ∈ A := List.mem_of_find?_eq_some h
theorem haveOf_ok {A : List It} (h : Oks A) (n : ByteArray) (hn : n.size ≤ 140737488351232) : ItOk (Tre.haveOf A n) := by
  have hnm := Tre.haveOf_name A n
  have : (Tre.haveOf A n).len < 18446744073709551616 ∧ (Tre.haveOf A n).sum.length = 32 := by
    unfold Tre.haveOf
    split
    · rename_i x hx; exact ⟨(h x (find_mem hx)).1, (h x (find_mem hx)).2.1⟩
    · exact ⟨show (0 : Nat) < _ by decide, nought_len⟩
  refine ⟨this.1, this.2, ?_⟩
  rw [hnm]; unfold maxLen; omega
theorem optIt_ok {A : List It} (h : Oks A) (n : List UInt8) : ItOk (optIt (Tre.find A n)) := by
  cases hf : Tre.find A n with
  | none => exact dit_ok
  | some x => exact h x (find_mem hf)
theorem some_some (w : World) (b : Nat) : Calls Tryz.prog 12 #[.pointer (some ⟨b, 0, none⟩)] w fun e w' => e = .returned (.pointer (some ⟨b, 0, none⟩)) ∧ w = w' := by
  go_enter Tryz.func12, Tryz.ntmps12
  go_wp2
  go_ret
  exact ⟨rfl, rfl⟩
theorem some_none (w : World) (hg : Glob w) : Calls Tryz.prog 12 #[.pointer none] w (BuildQ w [] 0) := by
  have HG := Lib.hid hg
  clear hg
  go_enter Tryz.func12, Tryz.ntmps12
  go_wp2_with (go_at_call 6; refine (Build_any (.slice none 0 0) [] _ HG.out (Its.nil _) (fun x hx => by cases hx) (by decide)).mono ?_; rintro e w1 ⟨T, rfl, ht, hi, hn, hb⟩; have HT := Lib.hid ht; have HI := Lib.hid hi; have HN := Lib.hid hn; have HB := Lib.hid hb; clear ht hi hn hb)
  go_ret
  exact ⟨T, rfl, HT.out, HI.out, HN.out, HB.out⟩
/-- Names that a call can be handed. -/
def NmOk (L : List It) : Prop := ∀ x ∈ L, ItOk x ∧ x.name.size ≤ 140737488351232
theorem NmOk.oks {L : List It} (h : NmOk L) : Oks L := fun x hx => (h x hx).1
theorem take_snocI (L : List It) (j : Nat) (hj : j < L.length) : L.take (j + 1) = L.take j ++ [L.getD j dIt] := by
  rw [List.take_add_one, List.getElem?_eq_getElem hj]
  simp [List.getD, List.getElem?_eq_getElem hj]
theorem builtN (n : ByteArray) : Tryz.prog.built 38 [(0, .string n)] = some (itC { dIt with name := n }).toArray := by rfl
theorem build_named {w : World} {ops : Array Oper} {rest : List Oper} {o : Oper} {a : Act} {Q : Exit → Act → World → Prop} (z : It) (n : ByteArray) (hz : z = { dIt with name := n }) (hgd : o.guard = none) (x : Operand) (ho : o.op = .build 38 #[(0, x)]) (hx : a.eval x = .string n)
    (h : wpList Tryz.prog ops Q rest (a.put o.dst (.agg (itC z).toArray)) w) : wpList Tryz.prog ops Q (o :: rest) a w :=
  wpList_plain hgd fun K hK => by
    unfold Oper.wp execOp
    subst hz
    have e : (#[(0, x)] : Array (Nat × Operand)).map (fun (i, y) => (i, a.eval y)) = #[(0, .string n)] := by simp [hx]
    simp only [ho, Sem.run_bind, e, run_build w _ #[(0, .string n)] _ (builtN n), Result.andThen_ok, Sem.run_pure]
    exact hK _ _ h
theorem find_none {L : List It} {n : List UInt8} (h : ∀ k, k < L.length → (L.getD k dIt).nm ≠ n) : Tre.find L n = none := by
  unfold Tre.find
  rw [List.find?_eq_none]
  intro x hx
  obtain ⟨k, hk, rfl⟩ := List.getElem_of_mem hx
  have := h k hk
  simpa [List.getD, List.getElem?_eq_getElem hk] using this
theorem find_first {L : List It} {n : List UInt8} {j : Nat} (hj : j < L.length) (h : ∀ k, k < j → (L.getD k dIt).nm ≠ n) (he : (L.getD j dIt).nm = n) : Tre.find L n = some (L.getD j dIt) := by
  induction L generalizing j with
  | nil => simp at hj
  | cons y r ih =>
    unfold Tre.find
    rw [List.find?_cons]
    cases j with
    | zero =>
      have : (y.nm == n) = true := by simpa using he
      rw [this]; rfl
    | succ j =>
      have h0 : (y.nm == n) = false := by simpa using h 0 (by omega)
      rw [h0]
      exact ih (j := j) (by simpa using hj) (fun k hk => by simpa using h (k + 1) (by omega)) (by simpa using he)
/-- What 'Have' leaves. -/
def HavQ (w : World) (z : It) (e : Ending) (w' : World) : Prop := ∃ q : Bool, e = .returned (.tuple #[.agg (itC z).toArray, .bool q]) ∧ Below w.heap.size w w'
end Go.Proofs.YticabllkadpmeaaGreatDoor
