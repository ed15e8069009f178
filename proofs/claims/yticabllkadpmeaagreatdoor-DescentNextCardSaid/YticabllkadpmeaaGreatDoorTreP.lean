/- Hash trees, plainly: items that rise by name, and the sums of leaves, of nodes, of the root. Of no program. -/
import Derived.Test.YticabllkadpmeaaGreatDoorShaP
import Derived.Test.YticabllkadpmeaaGreatDoorPlain
import GoSem.Op.String
namespace Go.Proofs.YticabllkadpmeaaGreatDoor
set_option linter.unusedVariables false
set_option linter.unusedSimpArgs false
set_option linter.unnecessarySimpa false
namespace Tre
open Go.Op (bytesLess)

/-! ### the order of bytes -/
theorem less_irrefl : ∀ a : List UInt8, bytesLess a a = false
  | [] => rfl
  | a :: r => by simp [bytesLess, less_irrefl r]
theorem less_asymm : ∀ a b : List UInt8, bytesLess a b = true → bytesLess b a = false
  | _, [], h => by simp [bytesLess] at h
  | [], _ :: _, _ => rfl
  | a :: x, b :: y, h => by
    simp only [bytesLess, Bool.or_eq_true, decide_eq_true_eq, Bool.and_eq_true, beq_iff_eq] at h
    simp only [bytesLess, Bool.or_eq_false_iff, decide_eq_false_iff_not, Bool.and_eq_false_iff]
    rcases h with h | ⟨rfl, h⟩
    · exact ⟨fun k => by have := UInt8.lt_iff_toNat_lt.1 h; have := UInt8.lt_iff_toNat_lt.1 k; omega, .inl (by simp; rintro rfl; exact absurd h (UInt8.lt_irrefl _))⟩
    · exact ⟨UInt8.lt_irrefl _, .inr (less_asymm x y h)⟩
theorem less_trans : ∀ a b c : List UInt8, bytesLess a b = true → bytesLess b c = true → bytesLess a c = true
  | _, [], _, h, _ => by simp [bytesLess] at h
  | _, _ :: _, [], _, h => by simp [bytesLess] at h
  | [], _ :: _, _ :: _, _, _ => rfl
  | a :: x, b :: y, c :: z, h, k => by
    simp only [bytesLess, Bool.or_eq_true, decide_eq_true_eq, Bool.and_eq_true, beq_iff_eq] at h k ⊢
    rcases h with h | ⟨rfl, h⟩
    · rcases k with k | ⟨rfl, k⟩
      · exact .inl (by have := UInt8.lt_iff_toNat_lt.1 h; have := UInt8.lt_iff_toNat_lt.1 k; exact UInt8.lt_iff_toNat_lt.2 (by omega))
      · exact .inl h
    · rcases k with k | ⟨rfl, k⟩
      · exact .inl k
      · exact .inr ⟨rfl, less_trans x y z h k⟩
theorem less_total : ∀ a b : List UInt8, bytesLess a b = false → bytesLess b a = false → a = b
  | [], [], _, _ => rfl
  | [], _ :: _, h, _ => by simp [bytesLess] at h
  | _ :: _, [], _, h => by simp [bytesLess] at h
  | a :: x, b :: y, h, k => by
    simp only [bytesLess, Bool.or_eq_false_iff, decide_eq_false_iff_not, Bool.and_eq_false_iff, beq_eq_false_iff_ne] at h k
    have hab : a = b := by
      have h1 := h.1
      have k1 := k.1
      rw [UInt8.lt_iff_toNat_lt] at h1 k1
      exact UInt8.toNat_inj.1 (by omega)
    subst hab
    rcases h.2 with e | h2
    · exact absurd rfl e
    rcases k.2 with e | k2
    · exact absurd rfl e
    rw [less_total x y h2 k2]

/-! ### items -/
/-- An item: its name, how long it is, its sum. -/
structure It where
  name : ByteArray
  len : Nat
  sum : List UInt8
/-- The bytes of its name. -/
def It.nm (x : It) : List UInt8 := x.name.data.toList
theorem name_eq {x y : It} (h : x.nm = y.nm) : x.name = y.name := by
  cases x with
  | mk xn _ _ => cases y with
    | mk yn _ _ =>
      cases xn with
      | mk a => cases yn with
        | mk b => have : a = b := Array.toList_inj.1 h; rw [this]
/-- Items that rise by name. -/
def Rise (l : List It) : Prop := l.Pairwise fun x y => bytesLess x.nm y.nm = true
/-- One more item, in the place of one of its name. -/
def put : List It → It → List It
  | [], x => [x]
  | y :: r, x => if bytesLess y.nm x.nm then y :: put r x else if bytesLess x.nm y.nm then x :: y :: r else x :: r
/-- The last one of each name, rising. -/
def all (l : List It) : List It := l.foldl put []
theorem mem_put (l : List It) (x : It) : ∀ y ∈ put l x, y = x ∨ y ∈ l := by
  induction l with
  | nil => intro y hy; simp [put] at hy; exact .inl hy
  | cons z r ih =>
    intro y hy
    unfold put at hy
    split at hy
    · rcases List.mem_cons.1 hy with rfl | hy
      · exact .inr (List.mem_cons_self ..)
      · rcases ih y hy with h | h
        · exact .inl h
        · exact .inr (List.mem_cons_of_mem _ h)
    · split at hy
      · rcases List.mem_cons.1 hy with rfl | hy
        · exact .inl rfl
        · exact .inr hy
      · rcases List.mem_cons.1 hy with rfl | hy
        · exact .inl rfl
        · exact .inr (List.mem_cons_of_mem _ hy)
theorem put_rise (l : List It) (x : It) (h : Rise l) : Rise (put l x) := by
  induction l with
  | nil => simp [put, Rise]
  | cons y r ih =>
    obtain ⟨h1, h2⟩ := List.pairwise_cons.1 h
    unfold put
    split
    · rename_i hlt
      refine List.pairwise_cons.2 ⟨fun z hz => ?_, ih h2⟩
      rcases mem_put r x z hz with rfl | hz
      · exact hlt
      · exact h1 z hz
    · rename_i hlt
      split
      · rename_i hgt
        refine List.pairwise_cons.2 ⟨fun z hz => ?_, h⟩
        rcases List.mem_cons.1 hz with rfl | hz
        · exact hgt
        · exact less_trans _ _ _ hgt (h1 z hz)
      · rename_i hgt
        have e := less_total _ _ (by simpa using hlt) (by simpa using hgt)
        exact List.pairwise_cons.2 ⟨fun z hz => by rw [← e]; exact h1 z hz, h2⟩
theorem all_rise (l : List It) : Rise (all l) := by
  have : ∀ (l a : List It), Rise a → Rise (l.foldl put a) := by
    intro l
    induction l with
    | nil => intro a h; exact h
    | cons x r ih => intro a h; exact ih _ (put_rise a x h)
  exact this l [] List.Pairwise.nil
theorem all_snoc (l : List It) (x : It) : all (l ++ [x]) = put (all l) x := by simp [all, List.foldl_append]
theorem all_append (l m : List It) : all (l ++ m) = m.foldl put (all l) := by simp [all, List.foldl_append]
theorem put_length (l : List It) (x : It) : (put l x).length ≤ l.length + 1 := by
  induction l with
  | nil => simp [put]
  | cons y r ih =>
    unfold put
    split
    · simp; omega
    · split <;> simp
theorem all_length (l : List It) : (all l).length ≤ l.length := by
  have : ∀ (l a : List It), (l.foldl put a).length ≤ a.length + l.length := by
    intro l
    induction l with
    | nil => intro a; simp
    | cons x r ih => intro a; have := ih (put a x); have := put_length a x; simp; omega
  simpa [all] using this l []

/-! ### where an item is put -/
/-- How many items stand ahead of a name. -/
def ahead (l : List It) (n : List UInt8) : Nat := (l.takeWhile fun y => bytesLess y.nm n).length
/-- Whether an item has the name. -/
def has (l : List It) (n : List UInt8) : Bool := l.any fun y => y.nm == n
theorem ahead_le (l : List It) (n : List UInt8) : ahead l n ≤ l.length := by
  unfold ahead; exact (List.takeWhile_prefix _).length_le
/-- Items of which none has the name: it is inserted. Else: it is replaced. -/
theorem put_at (l : List It) (x : It) (h : Rise l) :
    put l x = if has l x.nm then l.set (ahead l x.nm) x else l.take (ahead l x.nm) ++ x :: l.drop (ahead l x.nm) := by
  induction l with
  | nil => simp [put, has, ahead]
  | cons y r ih =>
    obtain ⟨h1, h2⟩ := List.pairwise_cons.1 h
    unfold put
    by_cases hlt : bytesLess y.nm x.nm = true
    · have hne : (y.nm == x.nm) = false := by
        simp only [beq_eq_false_iff_ne]; intro e; rw [e, less_irrefl] at hlt; simp at hlt
      rw [if_pos hlt, ih h2]
      have ha : ahead (y :: r) x.nm = ahead r x.nm + 1 := by simp [ahead, List.takeWhile_cons, hlt]
      have hb : has (y :: r) x.nm = has r x.nm := by simp only [has, List.any_cons, hne, Bool.false_or]
      rw [ha, hb]
      split <;> simp
    · have ha : ahead (y :: r) x.nm = 0 := by simp [ahead, List.takeWhile_cons, hlt]
      rw [if_neg hlt, ha]
      by_cases hgt : bytesLess x.nm y.nm = true
      · rw [if_pos hgt]
        have hb : has (y :: r) x.nm = false := by
          simp only [has, List.any_eq_false, List.mem_cons]
          rintro z (rfl | hz) e
          · rw [beq_iff_eq.1 e, less_irrefl] at hgt; simp at hgt
          · have := less_trans _ _ _ hgt (h1 z hz)
            rw [beq_iff_eq.1 e, less_irrefl] at this; simp at this
        rw [hb]; simp
      · rw [if_neg hgt]
        have e := less_total _ _ (by simpa using hlt) (by simpa using hgt)
        have hb : has (y :: r) x.nm = true := by simp [has, e]
        rw [hb]; simp
/-- Items of one kind, of names told by the name. -/
theorem put_filter (p : List UInt8 → Bool) (l : List It) (x : It) (h : Rise l) :
    (put l x).filter (fun y => p y.nm) = if p x.nm then put (l.filter fun y => p y.nm) x else l.filter fun y => p y.nm := by
  induction l with
  | nil => simp only [put, List.filter_nil, List.filter_cons]
  | cons y r ih =>
    obtain ⟨h1, h2⟩ := List.pairwise_cons.1 h
    have ih := ih h2
    by_cases hlt : bytesLess y.nm x.nm = true
    · simp only [put, if_pos hlt, List.filter_cons]
      by_cases hy : p y.nm = true
      · simp only [if_pos hy, ih]
        split
        · rw [put, if_pos hlt]
        · rfl
      · simp only [if_neg hy, ih]
    · by_cases hgt : bytesLess x.nm y.nm = true
      · simp only [put, if_neg hlt, if_pos hgt]
        by_cases hx : p x.nm = true
        · rw [if_pos hx, List.filter_cons, if_pos hx]
          by_cases hy : p y.nm = true
          · rw [List.filter_cons, if_pos hy, put, if_neg hlt, if_pos hgt]
          · rw [List.filter_cons, if_neg hy]
            cases hr : r.filter fun y => p y.nm with
            | nil => rfl
            | cons z q =>
              have hz : z ∈ r := (List.mem_filter.1 (hr ▸ List.mem_cons_self ..)).1
              have k := less_trans _ _ _ hgt (h1 z hz)
              rw [put, if_neg (by rw [less_asymm _ _ k]; simp), if_pos k]
        · rw [if_neg hx, List.filter_cons, if_neg hx]
      · have e := less_total _ _ (by simpa using hlt) (by simpa using hgt)
        simp only [put, if_neg hlt, if_neg hgt, List.filter_cons]
        by_cases hx : p x.nm = true
        · have hy : p y.nm = true := by rw [e]; exact hx
          rw [if_pos hx, if_pos hx, if_pos hy, put, if_neg hlt, if_neg hgt]
        · have hy : ¬ p y.nm = true := by rw [e]; exact hx
          rw [if_neg hx, if_neg hx, if_neg hy]
theorem filter_rise (p : It → Bool) (l : List It) (h : Rise l) : Rise (l.filter p) := List.Pairwise.filter p h

/-! ### sums -/
/-- A name's leaf, of sixteen. -/
def slot (n : List UInt8) : Nat := ((Sha.sum n).getD 0 0).toNat / 16
theorem slot_lt (n : List UInt8) : slot n < 16 := by
  unfold slot; have := ((Sha.sum n).getD 0 0).toNat_lt; omega
/-- The items of a leaf. -/
def leafItems (A : List It) (i : Nat) : List It := A.filter fun y => slot y.nm == i
/-- What is summed of an item. -/
def It.bytes (x : It) : List UInt8 := enc x.nm.length ++ x.nm ++ enc (min x.len 4611686018427387903) ++ x.sum
def nought : List UInt8 := List.replicate 32 0
/-- The sum of a leaf of such items. -/
def leafSum (L : List It) : List UInt8 := if L = [] then nought else Sha.sum (L.flatMap It.bytes)
/-- The sum of a node of such sums below. -/
def joined (l : List (List UInt8)) : List UInt8 := if l.all (· == nought) then nought else Sha.sum l.flatten
/-- The sums of the leaves; of the nodes; of the root. -/
def leafAt (A : List It) (i : Nat) : List UInt8 := leafSum (leafItems A i)
def nodeAt (A : List It) (a : Nat) : List UInt8 := joined [leafAt A (4 * a), leafAt A (4 * a + 1), leafAt A (4 * a + 2), leafAt A (4 * a + 3)]
def rootAt (A : List It) : List UInt8 := joined [nodeAt A 0, nodeAt A 1, nodeAt A 2, nodeAt A 3]
theorem nought_length : nought.length = 32 := by simp [nought]
theorem leafSum_length (L : List It) : (leafSum L).length = 32 := by unfold leafSum; split <;> simp [nought_length, Sha.sum_length]
theorem joined_length (l : List (List UInt8)) : (joined l).length = 32 := by unfold joined; split <;> simp [nought_length, Sha.sum_length]
/-- Only the leaf of its name has other items behind an item's coming. -/
theorem leafItems_put (A : List It) (x : It) (h : Rise A) (i : Nat) : leafItems (put A x) i = if slot x.nm = i then put (leafItems A i) x else leafItems A i := by
  unfold leafItems
  rw [put_filter (fun n => slot n == i) A x h]
  simp only [beq_iff_eq]
end Tre
end Go.Proofs.YticabllkadpmeaaGreatDoor
