/- SHA-256, plainly: words as UInt32. Of no program. -/
import Derived.Test.YticabllkadpmeaaDoorPlain
import GoSem.Op.String
namespace Go.Proofs.YticabllkadpmeaaDoor
set_option linter.unusedVariables false
set_option linter.unusedSimpArgs false
set_option linter.unnecessarySimpa false
namespace Sha

/-- A word, turned right. -/
def rot (x : UInt32) (k : UInt32) : UInt32 := x >>> k ||| x <<< (32 - k)
def s0 (x : UInt32) : UInt32 := rot x 7 ^^^ rot x 18 ^^^ x >>> 3
def s1 (x : UInt32) : UInt32 := rot x 17 ^^^ rot x 19 ^^^ x >>> 10
def S0 (x : UInt32) : UInt32 := rot x 2 ^^^ rot x 13 ^^^ rot x 22
def S1 (x : UInt32) : UInt32 := rot x 6 ^^^ rot x 11 ^^^ rot x 25
def ch (e f g : UInt32) : UInt32 := e &&& f ^^^ ~~~e &&& g
def mj (a b c : UInt32) : UInt32 := a &&& b ^^^ a &&& c ^^^ b &&& c
/-- The words at first. -/
def first : List UInt32 := [0x6a09e667, 0xbb67ae85, 0x3c6ef372, 0xa54ff53a, 0x510e527f, 0x9b05688c, 0x1f83d9ab, 0x5be0cd19]
/-- The numbers of the rounds. -/
def roots : List UInt32 := [
  0x428a2f98, 0x71374491, 0xb5c0fbcf, 0xe9b5dba5, 0x3956c25b, 0x59f111f1, 0x923f82a4, 0xab1c5ed5,
  0xd807aa98, 0x12835b01, 0x243185be, 0x550c7dc3, 0x72be5d74, 0x80deb1fe, 0x9bdc06a7, 0xc19bf174,
  0xe49b69c1, 0xefbe4786, 0x0fc19dc6, 0x240ca1cc, 0x2de92c6f, 0x4a7484aa, 0x5cb0a9dc, 0x76f988da,
  0x983e5152, 0xa831c66d, 0xb00327c8, 0xbf597fc7, 0xc6e00bf3, 0xd5a79147, 0x06ca6351, 0x14292967,
  0x27b70a85, 0x2e1b2138, 0x4d2c6dfc, 0x53380d13, 0x650a7354, 0x766a0abb, 0x81c2c92e, 0x92722c85,
  0xa2bfe8a1, 0xa81a664b, 0xc24b8b70, 0xc76c51a3, 0xd192e819, 0xd6990624, 0xf40e3585, 0x106aa070,
  0x19a4c116, 0x1e376c08, 0x2748774c, 0x34b0bcb5, 0x391c0cb3, 0x4ed8aa4a, 0x5b9cca4f, 0x682e6ff3,
  0x748f82ee, 0x78a5636f, 0x84c87814, 0x8cc70208, 0x90befffa, 0xa4506ceb, 0xbef9a3f7, 0xc67178f2]
/-- The word at place i of a block. -/
def wordAt (b : List UInt8) (i : Nat) : UInt32 :=
  (b.getD (4 * i) 0).toUInt32 <<< 24 ||| (b.getD (4 * i + 1) 0).toUInt32 <<< 16 ||| (b.getD (4 * i + 2) 0).toUInt32 <<< 8 ||| (b.getD (4 * i + 3) 0).toUInt32
/-- The next word of those of a block. -/
def next (l : List UInt32) : UInt32 := l.getD (l.length - 16) 0 + s0 (l.getD (l.length - 15) 0) + l.getD (l.length - 7) 0 + s1 (l.getD (l.length - 2) 0)
/-- The first n words of a block's 64 (n from 16 on: 16 and more). -/
def wordsTo (b : List UInt8) (n : Nat) : List UInt32 := (List.range n).map (wordAt b)
def more (l : List UInt32) : Nat → List UInt32
  | 0 => l
  | n + 1 => more l n ++ [next (more l n)]
def sched (b : List UInt8) : List UInt32 := more (wordsTo b 16) 48
/-- Eight words. -/
structure St where
  (a b c d e f g h : UInt32)
def St.list (s : St) : List UInt32 := [s.a, s.b, s.c, s.d, s.e, s.f, s.g, s.h]
def St.t1 (s : St) (k w : UInt32) : UInt32 := s.h + S1 s.e + ch s.e s.f s.g + k + w
def St.t2 (s : St) : UInt32 := S0 s.a + mj s.a s.b s.c
def St.step (s : St) (k w : UInt32) : St := ⟨s.t1 k w + s.t2, s.a, s.b, s.c, s.d + s.t1 k w, s.e, s.f, s.g⟩
def St.plus (s t : St) : St := ⟨s.a + t.a, s.b + t.b, s.c + t.c, s.d + t.d, s.e + t.e, s.f + t.f, s.g + t.g, s.h + t.h⟩
def St.first : St := ⟨0x6a09e667, 0xbb67ae85, 0x3c6ef372, 0xa54ff53a, 0x510e527f, 0x9b05688c, 0x1f83d9ab, 0x5be0cd19⟩
/-- Behind j rounds. -/
def St.steps (s : St) (w : List UInt32) : Nat → St
  | 0 => s
  | j + 1 => (s.steps w j).step (roots.getD j 0) (w.getD j 0)
/-- A block is taken. -/
def St.take (s : St) (b : List UInt8) : St := s.plus (s.steps (sched b) 64)
/-- n blocks of some bytes are taken. -/
def St.takes (s : St) (l : List UInt8) : Nat → St
  | 0 => s
  | n + 1 => (s.takes l n).take ((l.drop (64 * n)).take 64)
/-- The eight bytes of a number, the highest first. -/
def be64 (n : Nat) : List UInt8 := (List.range 8).map fun i => UInt8.ofNat (n / 256 ^ (7 - i))
/-- How many zeros are put behind. -/
def zeros (n : Nat) : Nat := (119 - n % 64) % 64
/-- What is put behind bytes. -/
def pad (l : List UInt8) : List UInt8 := l ++ [128] ++ List.replicate (zeros l.length) 0 ++ be64 (l.length * 8 % 18446744073709551616)
/-- The bytes of words. -/
def out (s : St) : List UInt8 := (List.range 32).map fun i => UInt8.ofNat ((s.list.getD (i / 4) 0).toNat / 2 ^ (24 - 8 * (i % 4)))
/-- The hash of bytes. -/
def sum (l : List UInt8) : List UInt8 := out (St.first.takes (pad l) ((pad l).length / 64))

theorem more_length (l : List UInt32) : ∀ n, (more l n).length = l.length + n
  | 0 => rfl
  | n + 1 => by simp [more, more_length l n]; omega
theorem wordsTo_length (b : List UInt8) (n : Nat) : (wordsTo b n).length = n := by simp [wordsTo]
theorem sched_length (b : List UInt8) : (sched b).length = 64 := by simp [sched, more_length, wordsTo_length]
theorem sum_length (l : List UInt8) : (sum l).length = 32 := by simp [sum, out]
theorem be64_length (n : Nat) : (be64 n).length = 8 := by simp [be64]
theorem pad_length (l : List UInt8) : (pad l).length % 64 = 0 := by
  simp only [pad, List.length_append, List.length_replicate, be64_length, List.length_singleton, zeros]
  omega
end Sha
end Go.Proofs.YticabllkadpmeaaDoor
namespace Go.Proofs.YticabllkadpmeaaDoor
set_option linter.unusedVariables false
set_option linter.unusedSimpArgs false
set_option linter.unnecessarySimpa false
namespace Tre
open Go.Op (bytesLess)

/-! ### the order of bytes -/
theorem less_irrefl : ∀ a : List UInt8, bytesLess a a = false
  | [] => rfl
  | a :: r => by simp [bytesLess, less_irrefl r]
theorem less_asymm : ∀ a b : List UInt8, bytesLess a b = true → bytesLess b a = false
  | _, [], h => by simp [bytesLess] at h
  | [], _ :: _, _ => rfl
  | a :: x, b :: y, h => by
    simp only [bytesLess, Bool.or_eq_true, decide_eq_true_eq, Bool.and_eq_true, beq_iff_eq] at h
    simp only [bytesLess, Bool.or_eq_false_iff, decide_eq_false_iff_not, Bool.and_eq_false_iff]
    rcases h with h | ⟨rfl, h⟩
    · exact ⟨fun k => by have := UInt8.lt_iff_toNat_lt.1 h; have := UInt8.lt_iff_toNat_lt.1 k; omega, .inl (by simp; rintro rfl; exact absurd h (UInt8.lt_irrefl _))⟩
    · exact ⟨UInt8.lt_irrefl _, .inr (less_asymm x y h)⟩
theorem less_trans : ∀ a b c : List UInt8, bytesLess a b = true → bytesLess b c = true → bytesLess a c = true
  | _, [], _, h, _ => by simp [bytesLess] at h
  | _, _ :: _, [], _, h => by simp [bytesLess] at h
  | [], _ :: _, _ :: _, _, _ => rfl
  | a :: x, b :: y, c :: z, h, k => by
    simp only [bytesLess, Bool.or_eq_true, decide_eq_true_eq, Bool.and_eq_true, beq_iff_eq] at h k ⊢
    rcases h with h | ⟨rfl, h⟩
    · rcases k with k | ⟨rfl, k⟩
      · exact .inl (by have := UInt8.lt_iff_toNat_lt.1 h; have := UInt8.lt_iff_toNat_lt.1 k; exact UInt8.lt_iff_toNat_lt.2 (by omega))
      · exact .inl h
    · rcases k with k | ⟨rfl, k⟩
      · exact .inl k
      · exact .inr ⟨rfl, less_trans x y z h k⟩
theorem less_total : ∀ a b : List UInt8, bytesLess a b = false → bytesLess b a = false → a = b
  | [], [], _, _ => rfl
  | [], _ :: _, h, _ => by simp [bytesLess] at h
  | _ :: _, [], _, h => by simp [bytesLess] at h
  | a :: x, b :: y, h, k => by
    simp only [bytesLess, Bool.or_eq_false_iff, decide_eq_false_iff_not, Bool.and_eq_false_iff, beq_eq_false_iff_ne] at h k
    have hab : a = b := by
      have h1 := h.1
      have k1 := k.1
      rw [UInt8.lt_iff_toNat_lt] at h1 k1
      exact UInt8.toNat_inj.1 (by omega)
    subst hab
    rcases h.2 with e | h2
    · exact absurd rfl e
    rcases k.2 with e | k2
    · exact absurd rfl e
    rw [less_total x y h2 k2]

/-! ### items -/
/-- An item: its name, how long it is, its sum. -/
structure It where
  name : ByteArray
  len : Nat
  sum : List UInt8
/-- The bytes of its name. -/
def It.nm (x : It) : List UInt8 := x.name.data.toList
theorem name_eq {x y : It} (h : x.nm = y.nm) : x.name = y.name := by
  cases x with
  | mk xn _ _ => cases y with
    | mk yn _ _ =>
      cases xn with
      | mk a => cases yn with
        | mk b => have : a = b := Array.toList_inj.1 h; rw [this]
/-- Items that rise by name. -/
def Rise (l : List It) : Prop := l.Pairwise fun x y => bytesLess x.nm y.nm = true
/-- One more item, in the place of one of its name. -/
def put : List It → It → List It
  | [], x => [x]
  | y :: r, x => if bytesLess y.nm x.nm then y :: put r x else if bytesLess x.nm y.nm then x :: y :: r else x :: r
/-- The last one of each name, rising. -/
def all (l : List It) : List It := l.foldl put []
theorem mem_put (l : List It) (x : It) : ∀ y ∈ put l x, y = x ∨ y ∈ l := by
  induction l with
  | nil => intro y hy; simp [put] at hy; exact .inl hy
  | cons z r ih =>
    intro y hy
    unfold put at hy
    split at hy
    · rcases List.mem_cons.1 hy with rfl | hy
      · exact .inr (List.mem_cons_self ..)
      · rcases ih y hy with h | h
        · exact .inl h
        · exact .inr (List.mem_cons_of_mem _ h)
    · split at hy
      · rcases List.mem_cons.1 hy with rfl | hy
        · exact .inl rfl
        · exact .inr hy
      · rcases List.mem_cons.1 hy with rfl | hy
        · exact .inl rfl
        · exact .inr (List.mem_cons_of_mem _ hy)
theorem put_rise (l : List It) (x : It) (h : Rise l) : Rise (put l x) := by
  induction l with
  | nil => simp [put, Rise]
  | cons y r ih =>
    obtain ⟨h1, h2⟩ := List.pairwise_cons.1 h
    unfold put
    split
    · rename_i hlt
      refine List.pairwise_cons.2 ⟨fun z hz => ?_, ih h2⟩
      rcases mem_put r x z hz with rfl | hz
      · exact hlt
      · exact h1 z hz
    · rename_i hlt
      split
      · rename_i hgt
        refine List.pairwise_cons.2 ⟨fun z hz => ?_, h⟩
        rcases List.mem_cons.1 hz with rfl | hz
        · exact hgt
        · exact less_trans _ _ _ hgt (h1 z hz)
      · rename_i hgt
        have e := less_total _ _ (by simpa using hlt) (by simpa using hgt)
        exact List.pairwise_cons.2 ⟨fun z hz => by rw [← e]; exact h1 z hz, h2⟩
theorem all_rise (l : List It) : Rise (all l) := by
  have : ∀ (l a : List It), Rise a → Rise (l.foldl put a) := by
    intro l
    induction l with
    | nil => intro a h; exact h
    | cons x r ih => intro a h; exact ih _ (put_rise a x h)
  exact this l [] List.Pairwise.nil
theorem all_snoc (l : List It) (x : It) : all (l ++ [x]) = put (all l) x := by simp [all, List.foldl_append]
theorem all_append (l m : List It) : all (l ++ m) = m.foldl put (all l) := by simp [all, List.foldl_append]
theorem put_length (l : List It) (x : It) : (put l x).length ≤ l.length + 1 := by
  induction l with
  | nil => simp [put]
  | cons y r ih =>
    unfold put
    split
    · simp; omega
    · split <;> simp
theorem all_length (l : List It) : (all l).length ≤ l.length := by
  have : ∀ (l a : List It), (l.foldl put a).length ≤ a.length + l.length := by
    intro l
    induction l with
    | nil => intro a; simp
    | cons x r ih => intro a; have := ih (put a x); have := put_length a x; simp; omega
  simpa [all] using this l []

/-! ### where an item is put -/
/-- How many items stand ahead of a name. -/
def ahead (l : List It) (n : List UInt8) : Nat := (l.takeWhile fun y => bytesLess y.nm n).length
/-- Whether an item has the name. -/
def has (l : List It) (n : List UInt8) : Bool := l.any fun y => y.nm == n
theorem ahead_le (l : List It) (n : List UInt8) : ahead l n ≤ l.length := by
  unfold ahead; exact (List.takeWhile_prefix _).length_le
/-- Items of which none has the name: it is inserted. Else: it is replaced. -/
theorem put_at (l : List It) (x : It) (h : Rise l) :
    put l x = if has l x.nm then l.set (ahead l x.nm) x else l.take (ahead l x.nm) ++ x :: l.drop (ahead l x.nm) := by
  induction l with
  | nil => simp [put, has, ahead]
  | cons y r ih =>
    obtain ⟨h1, h2⟩ := List.pairwise_cons.1 h
    unfold put
    by_cases hlt : bytesLess y.nm x.nm = true
    · have hne : (y.nm == x.nm) = false := by
        simp only [beq_eq_false_iff_ne]; intro e; rw [e, less_irrefl] at hlt; simp at hlt
      rw [if_pos hlt, ih h2]
      have ha : ahead (y :: r) x.nm = ahead r x.nm + 1 := by simp [ahead, List.takeWhile_cons, hlt]
      have hb : has (y :: r) x.nm = has r x.nm := by simp only [has, List.any_cons, hne, Bool.false_or]
      rw [ha, hb]
      split <;> simp
    · have ha : ahead (y :: r) x.nm = 0 := by simp [ahead, List.takeWhile_cons, hlt]
      rw [if_neg hlt, ha]
      by_cases hgt : bytesLess x.nm y.nm = true
      · rw [if_pos hgt]
        have hb : has (y :: r) x.nm = false := by
          simp only [has, List.any_eq_false, List.mem_cons]
          rintro z (rfl | hz) e
          · rw [beq_iff_eq.1 e, less_irrefl] at hgt; simp at hgt
          · have := less_trans _ _ _ hgt (h1 z hz)
            rw [beq_iff_eq.1 e, less_irrefl] at this; simp at this
        rw [hb]; simp
      · rw [if_neg hgt]
        have e := less_total _ _ (by simpa using hlt) (by simpa using hgt)
        have hb : has (y :: r) x.nm = true := by simp [has, e]
        rw [hb]; simp
/-- Items of one kind, of names told by the name. -/
theorem put_filter (p : List UInt8 → Bool) (l : List It) (x : It) (h : Rise l) :
    (put l x).filter (fun y => p y.nm) = if p x.nm then put (l.filter fun y => p y.nm) x else l.filter fun y => p y.nm := by
  induction l with
  | nil => simp only [put, List.filter_nil, List.filter_cons]
  | cons y r ih =>
    obtain ⟨h1, h2⟩ := List.pairwise_cons.1 h
    have ih := ih h2
    by_cases hlt : bytesLess y.nm x.nm = true
    · simp only [put, if_pos hlt, List.filter_cons]
      by_cases hy : p y.nm = true
      · simp only [if_pos hy, ih]
        split
        · rw [put, if_pos hlt]
        · rfl
      · simp only [if_neg hy, ih]
    · by_cases hgt : bytesLess x.nm y.nm = true
      · simp only [put, if_neg hlt, if_pos hgt]
        by_cases hx : p x.nm = true
        · rw [if_pos hx, List.filter_cons, if_pos hx]
          by_cases hy : p y.nm = true
          · rw [List.filter_cons, if_pos hy, put, if_neg hlt, if_pos hgt]
          · rw [List.filter_cons, if_neg hy]
            cases hr : r.filter fun y => p y.nm with
            | nil => rfl
            | cons z q =>
              have hz : z ∈ r := (List.mem_filter.1 (hr ▸ List.mem_cons_self ..)).1
              have k := less_trans _ _ _ hgt (h1 z hz)
              rw [put, if_neg (by rw [less_asymm _ _ k]; simp), if_pos k]
        · rw [if_neg hx, List.filter_cons, if_neg hx]
      · have e := less_total _ _ (by simpa using hlt) (by simpa using hgt)
        simp only [put, if_neg hlt, if_neg hgt, List.filter_cons]
        by_cases hx : p x.nm = true
        · have hy : p y.nm = true := by rw [e]; exact hx
          rw [if_pos hx, if_pos hx, if_pos hy, put, if_neg hlt, if_neg hgt]
        · have hy : ¬ p y.nm = true := by rw [e]; exact hx
          rw [if_neg hx, if_neg hx, if_neg hy]
theorem filter_rise (p : It → Bool) (l : List It) (h : Rise l) : Rise (l.filter p) := List.Pairwise.filter p h

/-! ### sums -/
/-- A name's leaf, of sixteen. -/
def slot (n : List UInt8) : Nat := ((Sha.sum n).getD 0 0).toNat / 16
theorem slot_lt (n : List UInt8) : slot n < 16 := by
  unfold slot; have := ((Sha.sum n).getD 0 0).toNat_lt; omega
/-- The items of a leaf. -/
def leafItems (A : List It) (i : Nat) : List It := A.filter fun y => slot y.nm == i
/-- What is summed of an item. -/
def It.bytes (x : It) : List UInt8 := enc x.nm.length ++ x.nm ++ enc (min x.len 4611686018427387903) ++ x.sum
def nought : List UInt8 := List.replicate 32 0
/-- The sum of a leaf of such items. -/
def leafSum (L : List It) : List UInt8 := if L = [] then nought else Sha.sum (L.flatMap It.bytes)
/-- The sum of a node of such sums below. -/
def joined (l : List (List UInt8)) : List UInt8 := if l.all (· == nought) then nought else Sha.sum l.flatten
/-- The sums of the leaves; of the nodes; of the root. -/
def leafAt (A : List It) (i : Nat) : List UInt8 := leafSum (leafItems A i)
def nodeAt (A : List It) (a : Nat) : List UInt8 := joined [leafAt A (4 * a), leafAt A (4 * a + 1), leafAt A (4 * a + 2), leafAt A (4 * a + 3)]
def rootAt (A : List It) : List UInt8 := joined [nodeAt A 0, nodeAt A 1, nodeAt A 2, nodeAt A 3]
theorem nought_length : nought.length = 32 := by simp [nought]
theorem leafSum_length (L : List It) : (leafSum L).length = 32 := by unfold leafSum; split <;> simp [nought_length, Sha.sum_length]
theorem joined_length (l : List (List UInt8)) : (joined l).length = 32 := by unfold joined; split <;> simp [nought_length, Sha.sum_length]
/-- Only the leaf of its name has other items behind an item's coming. -/
theorem leafItems_put (A : List It) (x : It) (h : Rise A) (i : Nat) : leafItems (put A x) i = if slot x.nm = i then put (leafItems A i) x else leafItems A i := by
  unfold leafItems
  rw [put_filter (fun n => slot n == i) A x h]
  simp only [beq_iff_eq]
end Tre
end Go.Proofs.YticabllkadpmeaaDoor
namespace Go.Proofs.YticabllkadpmeaaDoor
set_option linter.unusedVariables false
set_option linter.unusedSimpArgs false
set_option linter.unnecessarySimpa false
namespace Tre
open Go.Op (bytesLess)

/-- The item of a name. -/
def find (A : List It) (n : List UInt8) : Option It := A.find? fun y => y.nm == n
theorem find_put (A : List It) (x : It) (n : List UInt8) (h : Rise A) : find (put A x) n = if x.nm = n then some x else find A n := by
  induction A with
  | nil =>
    simp only [put, find, List.find?_cons, List.find?_nil]
    by_cases e : x.nm = n
    · simp [e]
    · simp [e, beq_eq_false_iff_ne.2 e]
  | cons y r ih =>
    obtain ⟨h1, h2⟩ := List.pairwise_cons.1 h
    have ih := ih h2
    unfold find at ih ⊢
    unfold put
    split
    · rename_i hlt
      rw [List.find?_cons, List.find?_cons, ih]
      by_cases hy : y.nm = n
      · have hx : ¬ x.nm = n := by
          intro e; rw [hy, ← e, less_irrefl] at hlt; simp at hlt
        simp [hy, hx]
      · simp [beq_eq_false_iff_ne.2 hy]
    · rename_i hlt
      split
      · rw [List.find?_cons]
        by_cases e : x.nm = n
        · simp [e]
        · simp [e, beq_eq_false_iff_ne.2 e]
      · rename_i hgt
        have e := less_total _ _ (by simpa using hlt) (by simpa using hgt)
        rw [List.find?_cons, List.find?_cons, e]
        by_cases e : x.nm = n
        · simp [e]
        · simp [e, beq_eq_false_iff_ne.2 e]
/-- The last item of a name. -/
def last (l : List It) (n : List UInt8) : Option It := l.foldl (fun o x => if x.nm = n then some x else o) none
theorem last_snoc (l : List It) (x : It) (n : List UInt8) : last (l ++ [x]) n = if x.nm = n then some x else last l n := by simp [last, List.foldl_append]
theorem find_fold (l : List It) (n : List UInt8) : ∀ a : List It, Rise a → find (l.foldl put a) n = l.foldl (fun o x => if x.nm = n then some x else o) (find a n) := by
  induction l with
  | nil => intro a _; rfl
  | cons x r ih => intro a h; simp only [List.foldl_cons]; rw [ih _ (put_rise a x h), find_put a x n h]
theorem find_all (l : List It) (n : List UInt8) : find (all l) n = last l n := find_fold l n [] List.Pairwise.nil
theorem find_leaf (A : List It) (n : List UInt8) : find (leafItems A (slot n)) n = find A n := by
  unfold find leafItems
  induction A with
  | nil => rfl
  | cons y r ih =>
    rw [List.filter_cons, List.find?_cons]
    by_cases e : y.nm = n
    · have hs : (slot y.nm == slot n) = true := by rw [e]; simp
      rw [if_pos hs, List.find?_cons]; simp [e]
    · rw [beq_eq_false_iff_ne.2 e]
      split
      · rw [List.find?_cons, beq_eq_false_iff_ne.2 e]; exact ih
      · exact ih
/-- What stands at the place, if the name is there. -/
theorem find_ahead (L : List It) (n : List UInt8) (h : Rise L) : find L n = if has L n then L[ahead L n]? else none := by
  unfold find
  induction L with
  | nil => simp [has]
  | cons y r ih =>
    obtain ⟨h1, h2⟩ := List.pairwise_cons.1 h
    have ih := ih h2
    rw [List.find?_cons]
    by_cases e : y.nm = n
    · have ha : ahead (y :: r) n = 0 := by simp [ahead, List.takeWhile_cons, e, less_irrefl]
      have hb : has (y :: r) n = true := by simp [has, e]
      rw [ha, hb]; simp [e]
    · have hb : has (y :: r) n = has r n := by simp only [has, List.any_cons, beq_eq_false_iff_ne.2 e, Bool.false_or]
      rw [beq_eq_false_iff_ne.2 e, hb]
      by_cases hlt : bytesLess y.nm n = true
      · have ha : ahead (y :: r) n = ahead r n + 1 := by simp [ahead, List.takeWhile_cons, hlt]
        rw [ha, List.getElem?_cons_succ]; exact ih
      · have hr : has r n = false := by
          simp only [has, List.any_eq_false]
          intro z hz ez
          have := h1 z hz
          rw [beq_iff_eq.1 ez] at this
          exact hlt this
        rw [hr, ih, hr]; rfl
theorem find_none {A : List It} {n : List UInt8} (h : find A n = none) : ∀ x ∈ A, x.nm ≠ n := by
  intro x hx e
  unfold find at h
  rw [List.find?_eq_none] at h
  exact h x hx (by simp [e])
theorem find_some {A : List It} {n : List UInt8} {x : It} (h : find A n = some x) : x ∈ A ∧ x.nm = n := by
  unfold find at h
  exact ⟨List.mem_of_find?_eq_some h, by have := List.find?_some h; simpa using this⟩
theorem find_mem {A : List It} (h : Rise A) {x : It} (hx : x ∈ A) : find A x.nm = some x := by
  induction A with
  | nil => cases hx
  | cons y r ih =>
    obtain ⟨h1, h2⟩ := List.pairwise_cons.1 h
    unfold find
    rw [List.find?_cons]
    rcases List.mem_cons.1 hx with rfl | hx
    · simp
    · have hne : ¬ y.nm = x.nm := by intro e; have := h1 x hx; rw [e, less_irrefl] at this; simp at this
      rw [beq_eq_false_iff_ne.2 hne]
      exact ih h2 hx
/-- Rising items are told by what is found. -/
theorem rise_ext : ∀ A B : List It, Rise A → Rise B → (∀ n, find A n = find B n) → A = B
  | [], [], _, _, _ => rfl
  | [], y :: s, _, hB, h => by have := h y.nm; rw [find_mem hB (List.mem_cons_self ..)] at this; simp [find] at this
  | x :: r, [], hA, _, h => by have := h x.nm; rw [find_mem hA (List.mem_cons_self ..)] at this; simp [find] at this
  | x :: r, y :: s, hA, hB, h => by
    obtain ⟨a1, a2⟩ := List.pairwise_cons.1 hA
    obtain ⟨b1, b2⟩ := List.pairwise_cons.1 hB
    have hx := h x.nm
    rw [find_mem hA (List.mem_cons_self ..)] at hx
    have hx := (find_some hx.symm).1
    have hy := h y.nm
    rw [find_mem hB (List.mem_cons_self ..)] at hy
    have hy := (find_some hy).1
    have e : x = y := by
      rcases List.mem_cons.1 hx with e | hx
      · exact e
      rcases List.mem_cons.1 hy with e | hy
      · exact e.symm
      have := less_asymm _ _ (b1 x hx)
      rw [a1 y hy] at this
      simp at this
    subst e
    rw [rise_ext r s a2 b2 fun n => ?_]
    have hn := h n
    by_cases e : x.nm = n
    · have hr : find r n = none := by
        unfold find; rw [List.find?_eq_none]; intro z hz ez
        have := a1 z hz; rw [e, beq_iff_eq.1 ez, less_irrefl] at this; simp at this
      have hs : find s n = none := by
        unfold find; rw [List.find?_eq_none]; intro z hz ez
        have := b1 z hz; rw [e, beq_iff_eq.1 ez, less_irrefl] at this; simp at this
      rw [hr, hs]
    · unfold find at hn ⊢
      rw [List.find?_cons, List.find?_cons, beq_eq_false_iff_ne.2 e] at hn
      exact hn
/-- Some of rising items, each at least once, in any order. -/
theorem any_order (A M : List It) (h : Rise A) (h1 : ∀ x ∈ M, x ∈ A) (h2 : ∀ x ∈ A, x ∈ M) : all M = A := by
  refine rise_ext _ _ (all_rise M) h fun n => ?_
  rw [find_all]
  have : ∀ (M : List It) (o : Option It), (∀ x ∈ M, x ∈ A) → M.foldl (fun o x => if x.nm = n then some x else o) o = if M.any (fun x => x.nm == n) then find A n else o := by
    intro M
    induction M with
    | nil => intro o _; simp
    | cons x r ih =>
      intro o hM
      simp only [List.foldl_cons, List.any_cons]
      rw [ih _ (fun z hz => hM z (List.mem_cons_of_mem _ hz))]
      by_cases e : x.nm = n
      · have hf := find_mem h (hM x (List.mem_cons_self ..))
        rw [e] at hf
        simp only [e, if_true, hf, beq_self_eq_true, Bool.true_or]
        split <;> rfl
      · simp only [if_neg e, beq_eq_false_iff_ne.2 e, Bool.false_or]
  unfold last
  rw [this M none h1]
  split
  · rfl
  · rename_i hM
    cases hf : find A n with
    | none => rfl
    | some x =>
      exfalso; apply hM
      obtain ⟨hx, hn⟩ := find_some hf
      rw [List.any_eq_true]
      exact ⟨x, h2 x hx, by simp [hn]⟩
/-- Behind an item's coming only the sums on its way are others. -/
theorem leafAt_put (A : List It) (x : It) (h : Rise A) (i : Nat) (hi : slot x.nm ≠ i) : leafAt (put A x) i = leafAt A i := by
  unfold leafAt; rw [leafItems_put A x h, if_neg hi]
theorem nodeAt_put (A : List It) (x : It) (h : Rise A) (a : Nat) (ha : slot x.nm / 4 ≠ a) : nodeAt (put A x) a = nodeAt A a := by
  unfold nodeAt
  rw [leafAt_put A x h _ (by omega), leafAt_put A x h _ (by omega), leafAt_put A x h _ (by omega), leafAt_put A x h _ (by omega)]
end Tre
end Go.Proofs.YticabllkadpmeaaDoor
