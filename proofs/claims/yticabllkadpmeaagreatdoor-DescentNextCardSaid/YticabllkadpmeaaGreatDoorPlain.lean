/- Plain: numbers as bytes (layer prefix). Of no program. -/
namespace Go.Proofs.YticabllkadpmeaaGreatDoor
set_option linter.unusedVariables false
set_option linter.unusedSimpArgs false
set_option linter.unnecessarySimpa false

/-- The bytes of a number below 2^62. -/
def enc (n : Nat) : List UInt8 :=
  if n < 64 then [UInt8.ofNat n]
  else if n < 16384 then [UInt8.ofNat (64 + n / 256), UInt8.ofNat n]
  else if n < 1073741824 then [UInt8.ofNat (128 + n / 16777216), UInt8.ofNat (n / 65536), UInt8.ofNat (n / 256), UInt8.ofNat n]
  else [UInt8.ofNat (192 + n / 72057594037927936), UInt8.ofNat (n / 281474976710656), UInt8.ofNat (n / 1099511627776), UInt8.ofNat (n / 4294967296),
    UInt8.ofNat (n / 16777216), UInt8.ofNat (n / 65536), UInt8.ofNat (n / 256), UInt8.ofNat n]

theorem enc_8 (n : Nat) (h : 1073741824 ≤ n) : enc n = [UInt8.ofNat (192 + n / 72057594037927936), UInt8.ofNat (n / 281474976710656), UInt8.ofNat (n / 1099511627776), UInt8.ofNat (n / 4294967296),
    UInt8.ofNat (n / 16777216), UInt8.ofNat (n / 65536), UInt8.ofNat (n / 256), UInt8.ofNat n] := by
  unfold enc; rw [if_neg (by omega), if_neg (by omega), if_neg (by omega)]
theorem enc_4 (n : Nat) (h : 16384 ≤ n) (h2 : n < 1073741824) : enc n = [UInt8.ofNat (128 + n / 16777216), UInt8.ofNat (n / 65536), UInt8.ofNat (n / 256), UInt8.ofNat n] := by
  unfold enc; rw [if_neg (by omega), if_neg (by omega), if_pos h2]
theorem enc_2 (n : Nat) (h : 64 ≤ n) (h2 : n < 16384) : enc n = [UInt8.ofNat (64 + n / 256), UInt8.ofNat n] := by
  unfold enc; rw [if_neg (by omega), if_pos h2]
theorem enc_1 (n : Nat) (h2 : n < 64) : enc n = [UInt8.ofNat n] := by
  unfold enc; rw [if_pos h2]

/-- The class of a number's size; -1: it has none. -/
def cls (n : Int) : Int := if n < 64 then 0 else if n < 16384 then 1 else if n < 1073741824 then 2 else if n < 4611686018427387904 then 3 else -1
/-- How many bytes a number has; 0: it has none. -/
def nsize (n : Nat) : Nat := if n < 64 then 1 else if n < 16384 then 2 else if n < 1073741824 then 4 else if n < 4611686018427387904 then 8 else 0

theorem enc_length (n : Nat) (h : n < 4611686018427387904) : (enc n).length = nsize n := by
  unfold enc nsize
  repeat' split
  all_goals (first | rfl | omega)
theorem nsize_le (n : Nat) : nsize n ≤ 8 := by
  unfold nsize
  repeat' split
  all_goals omega

/-- Bytes as a number, the highest first, behind a. -/
def val (a : Nat) : List UInt8 → Nat
  | [] => a
  | c :: r => val (a * 256 + c.toNat) r
/-- The number with which bytes begin, how many bytes it has, and the error. -/
def tk : List UInt8 → Nat × Nat × Nat
  | [] => (0, 0, 3)
  | c :: r =>
    let s := 2 ^ (c.toNat / 64)
    if r.length + 1 < s then (0, 0, 3)
    else
      let n := val (c.toNat % 64) (r.take (s - 1))
      if cls n = ((c.toNat / 64 : Nat) : Int) then (n, s, 0) else (0, 0, 4)
theorem tk_cons (c : UInt8) (r : List UInt8) : tk (c :: r) = if r.length + 1 < 2 ^ (c.toNat / 64) then (0, 0, 3)
    else if cls (val (c.toNat % 64) (r.take (2 ^ (c.toNat / 64) - 1)) : Nat) = ((c.toNat / 64 : Nat) : Int) then (val (c.toNat % 64) (r.take (2 ^ (c.toNat / 64) - 1)), 2 ^ (c.toNat / 64), 0) else (0, 0, 4) := rfl
/-- What is behind the number that bytes begin with; nothing where none does. -/
def tkRest (l : List UInt8) : List UInt8 := if (tk l).2.2 = 0 then l.drop (tk l).2.1 else []
theorem val_append (l r : List UInt8) : ∀ a, val a (l ++ r) = val (val a l) r := by
  induction l with
  | nil => intro a; rfl
  | cons c l ih => intro a; simp [val, ih]
theorem val_snoc (l : List UInt8) (c : UInt8) (a : Nat) : val a (l ++ [c]) = val a l * 256 + c.toNat := by rw [val_append]; rfl
theorem val_le (l : List UInt8) : ∀ a, val a l < (a + 1) * 256 ^ l.length := by
  induction l with
  | nil => intro a; simp [val]
  | cons c l ih =>
    intro a
    have h1 := ih (a * 256 + c.toNat)
    have hc : c.toNat < 256 := c.toNat_lt
    have h2 : (a * 256 + c.toNat + 1) * 256 ^ l.length ≤ ((a + 1) * 256) * 256 ^ l.length := Nat.mul_le_mul_right _ (by omega)
    simp only [val, List.length_cons, Nat.pow_succ]
    rw [Nat.mul_assoc, Nat.mul_comm 256] at h2
    rw [Nat.mul_comm (256 ^ l.length) 256, Nat.mul_comm 256]
    omega
theorem take_snoc' {α : Type} (l : List α) (k : Nat) (d : α) (h : k < l.length) : l.take (k + 1) = l.take k ++ [l.getD k d] := by
  rw [List.take_add_one, List.getElem?_eq_getElem h]
  simp [List.getD, List.getElem?_eq_getElem h]

/-- The text with which bytes begin, how many bytes it takes, and the error. -/
def ttx (l : List UInt8) (most : Int) : List UInt8 × Nat × Nat :=
  if (tk l).2.2 ≠ 0 then ([], 0, (tk l).2.2)
  else if most < 0 ∨ most < (tk l).1 then ([], 0, 2)
  else if l.length - (tk l).2.1 < (tk l).1 then ([], 0, 3)
  else ((l.drop (tk l).2.1).take (tk l).1, (tk l).2.1 + (tk l).1, 0)
def ttRest (l : List UInt8) (most : Int) : List UInt8 := if (ttx l most).2.2 = 0 then l.drop (ttx l most).2.1 else []
theorem tk_cases (l : List UInt8) : (∃ e, tk l = (0, 0, e) ∧ (e = 3 ∨ e = 4)) ∨ (∃ n k, tk l = (n, k, 0) ∧ 1 ≤ k ∧ k ≤ l.length ∧ n < 4611686018427387904) := by
  cases l with
  | nil => exact .inl ⟨3, rfl, .inl rfl⟩
  | cons c r =>
    rw [tk_cons]
    split
    · exact .inl ⟨3, rfl, .inl rfl⟩
    · split
      · refine .inr ⟨_, _, rfl, Nat.one_le_two_pow, by simp; omega, ?_⟩
        have hc := c.toNat_lt
        have g1 := val_le (r.take (2 ^ (c.toNat / 64) - 1)) (c.toNat % 64)
        have g2 : (r.take (2 ^ (c.toNat / 64) - 1)).length ≤ 7 := by
          have : 2 ^ (c.toNat / 64) ≤ 2 ^ 3 := Nat.pow_le_pow_right (by omega) (by omega)
          have := List.length_take_le (2 ^ (c.toNat / 64) - 1) r
          omega
        have g3 : (c.toNat % 64 + 1) * 256 ^ (r.take (2 ^ (c.toNat / 64) - 1)).length ≤ 64 * 256 ^ 7 := Nat.mul_le_mul (by omega) (Nat.pow_le_pow_right (by omega) g2)
        omega
      · exact .inl ⟨4, rfl, .inr rfl⟩
/-- Several texts, one behind the other: what has come, how many bytes these are. -/
def txsA : Nat → List (List UInt8) → Nat → List UInt8 → Int → List (List UInt8) × Nat × Nat
  | 0, acc, k, _, _ => (acc, k, 0)
  | n + 1, acc, k, l, each => if (ttx l each).2.2 ≠ 0 then ([], 0, (ttx l each).2.2) else txsA n (acc ++ [(ttx l each).1]) (k + (ttx l each).2.1) (l.drop (ttx l each).2.1) each
/-- The texts with which bytes begin. -/
def txs (l : List UInt8) (most each : Int) : List (List UInt8) × Nat × Nat :=
  if (tk l).2.2 ≠ 0 then ([], 0, (tk l).2.2)
  else if most < 0 ∨ most < (tk l).1 then ([], 0, 2)
  else txsA (tk l).1 [] (tk l).2.1 (l.drop (tk l).2.1) each
def txsRest (l : List UInt8) (most each : Int) : List UInt8 := if (txs l most each).2.2 = 0 then l.drop (txs l most each).2.1 else []
/-- The bytes of a text, of several. -/
def etext (s : ByteArray) : List UInt8 := enc s.size ++ s.data.toList
def etexts (ss : List ByteArray) : List UInt8 := enc ss.length ++ ss.flatMap etext
/-- At most how many bytes several texts' are. -/
def tot (ss : List ByteArray) : Nat := (ss.map fun s => 8 + s.size).sum
end Go.Proofs.YticabllkadpmeaaGreatDoor
