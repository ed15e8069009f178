/- Of no program: what two trees have not in common, plainly. -/
import Derived.Test.YticabllkadpmeaaDoorTreP
namespace Go.Proofs.YticabllkadpmeaaDoor
set_option linter.unusedVariables false
set_option linter.unusedSimpArgs false
set_option linter.unnecessarySimpa false
namespace Tre
open Go.Op (bytesLess)

/-- All items, leaf by leaf. -/
def leaves (A : List It) (n : Nat) : List It := (List.range n).flatMap (leafItems A)
theorem leaves_succ (A : List It) (n : Nat) : leaves A (n + 1) = leaves A n ++ leafItems A n := by
  unfold leaves; rw [List.range_succ, List.flatMap_append]; simp
theorem leaves_perm' (A : List It) (n : Nat) : (leaves A n).Perm (A.filter fun x => decide (slot x.nm < n)) := by
  induction n with
  | zero => simp [leaves]
  | succ n ih =>
    rw [leaves_succ]
    have h1 : (A.filter fun x => decide (slot x.nm < n + 1)).Perm ((A.filter fun x => decide (slot x.nm < n)) ++ leafItems A n) := by
      unfold leafItems
      clear ih
      induction A with
      | nil => simp
      | cons x r ih =>
        simp only [List.filter_cons]
        by_cases h : slot x.nm < n
        · have h2 : slot x.nm < n + 1 := by omega
          have h3 : ¬ (slot x.nm == n) = true := by simp; omega
          rw [if_pos (by simp [h2]), if_pos (by simp [h]), if_neg h3]
          exact List.Perm.cons x ih
        · by_cases h3 : slot x.nm = n
          · have h2 : slot x.nm < n + 1 := by omega
            have h4 : (slot x.nm == n) = true := by simp [h3]
            rw [if_pos (by simp [h2]), if_neg (by simp [h]), if_pos h4]
            exact (List.Perm.cons x ih).trans List.perm_middle.symm
          · have h2 : ¬ slot x.nm < n + 1 := by omega
            rw [if_neg (by simp [h2]), if_neg (by simp [h]), if_neg (by simp [h3])]
            exact ih
    exact (List.Perm.append_right _ ih).trans h1.symm
theorem leaves_perm (A : List It) : (leaves A 16).Perm A := by
  have h := leaves_perm' A 16
  have : (A.filter fun x => decide (slot x.nm < 16)) = A := by
    apply List.filter_eq_self.2
    intro x _
    simp [slot_lt]
  rwa [this] at h

/-! ### what is missing -/
/-- One step of the sum that stops at the greatest number. -/
def satStep (M n d : Nat) : Nat := n + min d (M - n)
theorem satStep_le {M n d : Nat} (h : n ≤ M) : satStep M n d ≤ M := by unfold satStep; omega
theorem sat_fold (M : Nat) : ∀ (l : List Nat) (n : Nat), n ≤ M → l.foldl (satStep M) n = min (n + l.sum) M
  | [], n, h => by simp; omega
  | d :: r, n, h => by
    rw [List.foldl_cons, sat_fold M r _ (satStep_le h), List.sum_cons]
    unfold satStep
    omega
theorem sat_perm (M : Nat) {l m : List Nat} (h : l.Perm m) : l.foldl (satStep M) 0 = m.foldl (satStep M) 0 := by
  rw [sat_fold M l 0 (Nat.zero_le _), sat_fold M m 0 (Nat.zero_le _), h.sum_nat]

/-! ### names in order -/
theorem less_lt : ∀ a b : List UInt8, bytesLess a b = true ↔ a < b
  | _, [] => by simp [bytesLess]
  | [], _ :: _ => by simp [bytesLess]
  | a :: x, b :: y => by
    simp only [bytesLess, Bool.or_eq_true, decide_eq_true_eq, Bool.and_eq_true, beq_iff_eq, List.cons_lt_cons_iff, less_lt x y]
theorem names_sorted {B : List It} (h : Rise B) : (B.map It.nm).Pairwise (fun a b => a ≤ b) := by
  rw [List.pairwise_map]
  exact h.imp fun hab => List.le_of_lt ((less_lt _ _).1 hab)
/-- Names of some items, leaf by leaf, in order: as the items stand. -/
theorem behind_eq {B : List It} (hB : Rise B) (p : It → Bool) : (((leaves B 16).filter p).map It.nm).mergeSort (fun x y => decide (x ≤ y)) = (B.filter p).map It.nm := by
  have hperm : (((leaves B 16).filter p).map It.nm).Perm ((B.filter p).map It.nm) := ((leaves_perm B).filter p).map _
  refine List.Perm.eq_of_pairwise (le := fun a b : List UInt8 => a ≤ b) (fun a b _ _ h1 h2 => List.le_antisymm h1 h2) ?_ (names_sorted (filter_rise p B hB)) ((List.mergeSort_perm _ _).trans hperm)
  have := List.pairwise_mergeSort (le := fun x y : List UInt8 => decide (x ≤ y)) (by intro a b c h1 h2; simp only [decide_eq_true_eq] at *; exact List.le_trans h1 h2) (by intro a b; simp only [Bool.or_eq_true, decide_eq_true_eq]; exact List.le_total a b) (((leaves B 16).filter p).map It.nm)
  exact this.imp fun h => by simpa using h

/-! ### what two trees have -/
/-- The item of a name; one of nothing, if there is none. -/
def haveOf (A : List It) (n : ByteArray) : It := match find A n.data.toList with
  | some x => x
  | none => { name := n, len := 0, sum := nought }
theorem haveOf_name (A : List It) (n : ByteArray) : (haveOf A n).name = n := by
  unfold haveOf
  split
  · rename_i x h
    unfold find at h
    have := List.find?_some h
    simp only [beq_iff_eq] at this
    cases n with
    | mk a =>
      cases hx : x.name with
      | mk b =>
        unfold It.nm at this
        rw [hx] at this
        rw [show b = a from Array.toList_inj.1 this]
  · rfl
def wantsF (A items : List It) : List It := items.filterMap fun x => if (haveOf A x.name).len < x.len then some (haveOf A x.name) else none
theorem wantsF_snoc (A L : List It) (x : It) : wantsF A (L ++ [x]) = wantsF A L ++ (if (haveOf A x.name).len < x.len then [haveOf A x.name] else []) := by
  unfold wantsF
  rw [List.filterMap_append]
  congr 1
  simp only [List.filterMap_cons, List.filterMap_nil]
  split <;> rename_i h <;> split at h <;> simp_all
theorem wantsF_length (A L : List It) : (wantsF A L).length ≤ L.length := by unfold wantsF; exact List.length_filterMap_le _ _
/-- How much is missing of each. -/
def lackF (A L : List It) : List Nat := L.filterMap fun x => if (haveOf A x.name).len < x.len then some (x.len - (haveOf A x.name).len) else none
def missF (A L : List It) : Nat := (lackF A L).foldl (satStep 4611686018427387903) 0
theorem lackF_snoc (A L : List It) (x : It) : lackF A (L ++ [x]) = lackF A L ++ (if (haveOf A x.name).len < x.len then [x.len - (haveOf A x.name).len] else []) := by
  unfold lackF
  rw [List.filterMap_append]
  congr 1
  simp only [List.filterMap_cons, List.filterMap_nil]
  split <;> rename_i h <;> split at h <;> simp_all
theorem missF_snoc (A L : List It) (x : It) : missF A (L ++ [x]) = if (haveOf A x.name).len < x.len then satStep 4611686018427387903 (missF A L) (x.len - (haveOf A x.name).len) else missF A L := by
  unfold missF
  rw [lackF_snoc, List.foldl_append]
  split <;> rfl
theorem missF_le (A L : List It) : missF A L ≤ 4611686018427387903 := by
  unfold missF
  rw [sat_fold _ _ _ (Nat.zero_le _)]
  exact Nat.min_le_right _ _
theorem missF_leaves (A B : List It) : missF A (leaves B 16) = missF A B := sat_perm _ ((leaves_perm B).filterMap _)
end Tre
end Go.Proofs.YticabllkadpmeaaDoor
