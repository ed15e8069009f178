/- Plain: numbers as bytes, there and back. Of no program. -/
import Derived.Test.YtkghkpkiodghiaaPlain
namespace Go.Proofs.Ytkghkpkiodghiaa
set_option linter.unusedVariables false
set_option linter.unusedSimpArgs false
set_option linter.unnecessarySimpa false

theorem u8_toNat (n : Nat) : (UInt8.ofNat n).toNat = n % 256 := UInt8.toNat_ofNat'
theorem u8_eq {n : Nat} {c : UInt8} (h : n % 256 = c.toNat) : UInt8.ofNat n = c := by
  apply UInt8.toNat_inj.1; rw [u8_toNat]; exact h

theorem nsize_1 {n : Nat} (h : n < 64) : nsize n = 1 := by unfold nsize; rw [if_pos h]
theorem nsize_2 {n : Nat} (h : 64 ≤ n) (h2 : n < 16384) : nsize n = 2 := by unfold nsize; rw [if_neg (by omega), if_pos h2]
theorem nsize_4 {n : Nat} (h : 16384 ≤ n) (h2 : n < 1073741824) : nsize n = 4 := by unfold nsize; rw [if_neg (by omega), if_neg (by omega), if_pos h2]
theorem nsize_8 {n : Nat} (h : 1073741824 ≤ n) (h2 : n < 4611686018427387904) : nsize n = 8 := by unfold nsize; rw [if_neg (by omega), if_neg (by omega), if_neg (by omega), if_pos h2]
theorem cls_0 {n : Nat} (h : n < 64) : cls n = 0 := by unfold cls; rw [if_pos (by omega)]
theorem cls_1 {n : Nat} (h : 64 ≤ n) (h2 : n < 16384) : cls n = 1 := by unfold cls; rw [if_neg (by omega), if_pos (by omega)]
theorem cls_2 {n : Nat} (h : 16384 ≤ n) (h2 : n < 1073741824) : cls n = 2 := by unfold cls; rw [if_neg (by omega), if_neg (by omega), if_pos (by omega)]
theorem cls_3 {n : Nat} (h : 1073741824 ≤ n) (h2 : n < 4611686018427387904) : cls n = 3 := by unfold cls; rw [if_neg (by omega), if_neg (by omega), if_neg (by omega), if_pos (by omega)]

theorem size_cases (n : Nat) (h : n < 4611686018427387904) : n < 64 ∨ (64 ≤ n ∧ n < 16384) ∨ (16384 ≤ n ∧ n < 1073741824) ∨ (1073741824 ≤ n ∧ n < 4611686018427387904) := by omega

/-- What tk does, the class of the first byte known. -/
theorem tk_at (c : UInt8) (r : List UInt8) (q s n : Nat) (hq : c.toNat / 64 = q) (hs : 2 ^ q = s) (hl : s ≤ r.length + 1) (hn : val (c.toNat % 64) (r.take (s - 1)) = n) (hc : cls n = (q : Int)) : tk (c :: r) = (n, s, 0) := by
  rw [tk_cons, hq, hs, if_neg (by omega), hn, if_pos hc]

/-- A number comes back, whatever is behind it. -/
theorem tk_enc (n : Nat) (h : n < 4611686018427387904) (r : List UInt8) : tk (enc n ++ r) = (n, nsize n, 0) := by
  rcases size_cases n h with h1 | ⟨h1, h2⟩ | ⟨h1, h2⟩ | ⟨h1, h2⟩
  · rw [enc_1 n h1, nsize_1 h1]
    refine tk_at _ _ 0 1 n ?_ rfl (by simp) ?_ (cls_0 h1)
    · rw [u8_toNat]; omega
    · simp [val]; omega
  · rw [enc_2 n h1 h2, nsize_2 h1 h2]
    refine tk_at _ _ 1 2 n ?_ rfl (by simp) ?_ (cls_1 h1 h2)
    · rw [u8_toNat]; omega
    · simp [val]; omega
  · rw [enc_4 n h1 h2, nsize_4 h1 h2]
    refine tk_at _ _ 2 4 n ?_ rfl (by simp) ?_ (cls_2 h1 h2)
    · rw [u8_toNat]; omega
    · simp [val]; omega
  · rw [enc_8 n h1, nsize_8 h1 h2]
    refine tk_at _ _ 3 8 n ?_ rfl (by simp) ?_ (cls_3 h1 h2)
    · rw [u8_toNat]; omega
    · simp [val]; omega
/-- Of a number's bytes none without the last one. -/
theorem tk_cut (n : Nat) (h : n < 4611686018427387904) (j : Nat) (hj : j < nsize n) : tk ((enc n).take j) = (0, 0, 3) := by
  have hl := enc_length n h
  cases j with
  | zero => rw [List.take_zero]; rfl
  | succ j =>
    have key (c : UInt8) (r : List UInt8) (q s : Nat) (he : enc n = c :: r) (hq : c.toNat / 64 = q) (hs : 2 ^ q = s) (hns : nsize n = s) : tk ((enc n).take (j + 1)) = (0, 0, 3) := by
      rw [he, List.take_succ_cons, tk_cons, hq, hs, if_pos]
      have := List.length_take_le j r
      omega
    rcases size_cases n h with h1 | ⟨h1, h2⟩ | ⟨h1, h2⟩ | ⟨h1, h2⟩
    · rw [nsize_1 h1] at hj; omega
    · exact key _ _ 1 2 (enc_2 n h1 h2) (by rw [u8_toNat]; omega) rfl (nsize_2 h1 h2)
    · exact key _ _ 2 4 (enc_4 n h1 h2) (by rw [u8_toNat]; omega) rfl (nsize_4 h1 h2)
    · exact key _ _ 3 8 (enc_8 n h1) (by rw [u8_toNat]; omega) rfl (nsize_8 h1 h2)
theorem val_small (n : Nat) (q : Nat) (h : cls n = (q : Int)) : (q = 0 ∧ n < 64) ∨ (q = 1 ∧ 64 ≤ n ∧ n < 16384) ∨ (q = 2 ∧ 16384 ≤ n ∧ n < 1073741824) ∨ (q = 3 ∧ 1073741824 ≤ n ∧ n < 4611686018427387904) := by
  unfold cls at h
  split at h
  · omega
  · split at h
    · omega
    · split at h
      · omega
      · split at h <;> omega
/-- What is taken is what the number is written as. -/
theorem enc_tk (l : List UInt8) (n k : Nat) (h : tk l = (n, k, 0)) : enc n = l.take k := by
  cases l with
  | nil => simp [tk] at h
  | cons c r =>
    rw [tk_cons] at h
    split at h
    · simp at h
    · rename_i hl
      split at h
      · rename_i hc
        simp only [Prod.mk.injEq, and_true] at h
        obtain ⟨hn, hk⟩ := h
        have hc8 := c.toNat_lt
        rw [hn] at hc
        rw [← hk] 
        have hq := val_small n _ hc
        rcases hq with ⟨q, a⟩ | ⟨q, a, b⟩ | ⟨q, a, b⟩ | ⟨q, a, b⟩
        · rw [q] at hn hl ⊢
          simp [val] at hn
          rw [enc_1 n a]
          simp
          exact u8_eq (by omega)
        · rw [q] at hn hl ⊢
          match r, hn, hl with
          | [], hn, hl => simp at hl
          | c1 :: r, hn, hl =>
            have g1 := c1.toNat_lt
            simp [val] at hn
            have e0 := u8_eq (n := 64 + n / 256) (c := c) (by omega)
            have e1 := u8_eq (n := n) (c := c1) (by omega)
            rw [enc_2 n a b, e0, e1]; rfl
        · rw [q] at hn hl ⊢
          match r, hn, hl with
          | [], hn, hl => simp at hl
          | [c1], hn, hl => simp at hl
          | [c1, c2], hn, hl => simp at hl
          | c1 :: c2 :: c3 :: r, hn, hl =>
            have g1 := c1.toNat_lt
            have g2 := c2.toNat_lt
            have g3 := c3.toNat_lt
            simp [val] at hn
            have e0 := u8_eq (n := 128 + n / 16777216) (c := c) (by omega)
            have e1 := u8_eq (n := n / 65536) (c := c1) (by omega)
            have e2 := u8_eq (n := n / 256) (c := c2) (by omega)
            have e3 := u8_eq (n := n) (c := c3) (by omega)
            rw [enc_4 n a b, e0, e1, e2, e3]; rfl
        · rw [q] at hn hl ⊢
          match r, hn, hl with
          | [], hn, hl => simp at hl
          | [c1], hn, hl => simp at hl
          | [c1, c2], hn, hl => simp at hl
          | [c1, c2, c3], hn, hl => simp at hl
          | [c1, c2, c3, c4], hn, hl => simp at hl
          | [c1, c2, c3, c4, c5], hn, hl => simp at hl
          | [c1, c2, c3, c4, c5, c6], hn, hl => simp at hl
          | c1 :: c2 :: c3 :: c4 :: c5 :: c6 :: c7 :: r, hn, hl =>
            have g1 := c1.toNat_lt
            have g2 := c2.toNat_lt
            have g3 := c3.toNat_lt
            have g4 := c4.toNat_lt
            have g5 := c5.toNat_lt
            have g6 := c6.toNat_lt
            have g7 := c7.toNat_lt
            simp [val] at hn
            have e0 := u8_eq (n := 192 + n / 72057594037927936) (c := c) (by omega)
            have e1 := u8_eq (n := n / 281474976710656) (c := c1) (by omega)
            have e2 := u8_eq (n := n / 1099511627776) (c := c2) (by omega)
            have e3 := u8_eq (n := n / 4294967296) (c := c3) (by omega)
            have e4 := u8_eq (n := n / 16777216) (c := c4) (by omega)
            have e5 := u8_eq (n := n / 65536) (c := c5) (by omega)
            have e6 := u8_eq (n := n / 256) (c := c6) (by omega)
            have e7 := u8_eq (n := n) (c := c7) (by omega)
            rw [enc_8 n a, e0, e1, e2, e3, e4, e5, e6, e7]; rfl
      · simp at h

/-- How bytes stand to others: as Go's '<' on strings has it. -/
def lexLess : List UInt8 → List UInt8 → Bool
  | _, [] => false
  | [], _ :: _ => true
  | a :: x, b :: y => a < b || (a == b && lexLess x y)
theorem less_cons {x y : List UInt8} {a b : Nat} (ha : a < 256) (hb : b < 256) : lexLess (UInt8.ofNat a :: x) (UInt8.ofNat b :: y) = (decide (a < b) || (decide (a = b) && lexLess x y)) := by
  have e1 : (UInt8.ofNat a < UInt8.ofNat b) = (a < b) := by
    rw [UInt8.lt_iff_toNat_lt, u8_toNat, u8_toNat, Nat.mod_eq_of_lt ha, Nat.mod_eq_of_lt hb]
  have e2 : (UInt8.ofNat a == UInt8.ofNat b) = decide (a = b) := by
    rw [Bool.eq_iff_iff, beq_iff_eq, decide_eq_true_iff, ← UInt8.toNat_inj, u8_toNat, u8_toNat, Nat.mod_eq_of_lt ha, Nat.mod_eq_of_lt hb]
  rw [lexLess, e2]
  congr 1
  simp only [e1]
theorem u8_mod (n : Nat) : UInt8.ofNat n = UInt8.ofNat (n % 256) := by
  apply UInt8.toNat_inj.1; rw [u8_toNat, u8_toNat]; omega
/-- The last k bytes of a number, the highest first. -/
def be : Nat → Nat → List UInt8
  | 0, _ => []
  | k + 1, n => UInt8.ofNat (n / 256 ^ k) :: be k n
theorem less_be : ∀ k a b : Nat, lexLess (be k a) (be k b) = decide (a % 256 ^ k < b % 256 ^ k)
  | 0, a, b => by simp [be, lexLess, Nat.mod_one]
  | k + 1, a, b => by
    have ih := less_be k a b
    rw [be, be, u8_mod (a / 256 ^ k), u8_mod (b / 256 ^ k), less_cons (Nat.mod_lt _ (by omega)) (Nat.mod_lt _ (by omega)), ih, Nat.pow_succ, Nat.mod_mul, Nat.mod_mul]
    have hp : 0 < 256 ^ k := Nat.pow_pos (by omega)
    have ha := Nat.mod_lt a hp
    have hb := Nat.mod_lt b hp
    generalize a % 256 ^ k = ra at *
    generalize b % 256 ^ k = rb at *
    generalize a / 256 ^ k % 256 = xa at *
    generalize b / 256 ^ k % 256 = xb at *
    generalize 256 ^ k = P at *
    rw [Bool.eq_iff_iff]
    simp only [Bool.or_eq_true, Bool.and_eq_true, decide_eq_true_eq]
    rcases Nat.lt_trichotomy xa xb with h | h | h
    · have := Nat.mul_le_mul_left P (show xa + 1 ≤ xb from h)
      rw [Nat.mul_add] at this
      constructor
      · intro _; omega
      · intro _; exact .inl h
    · subst h
      constructor
      · intro g; omega
      · intro g; right; exact ⟨rfl, by omega⟩
    · have := Nat.mul_le_mul_left P (show xb + 1 ≤ xa from h)
      rw [Nat.mul_add] at this
      constructor
      · intro g; omega
      · intro g; omega
theorem u8_same {a b : Nat} (h : a % 256 = b % 256) : UInt8.ofNat a = UInt8.ofNat b := by rw [u8_mod a, h, ← u8_mod b]
theorem enc_be1 (n : Nat) (h : n < 64) : enc n = be 1 n := by
  rw [enc_1 n h, be, be]; congr 1; exact u8_same (by omega)
theorem enc_be2 (n : Nat) (h : 64 ≤ n) (h2 : n < 16384) : enc n = be 2 (n + 16384) := by
  have e0 : UInt8.ofNat (64 + n / 256) = UInt8.ofNat ((n + 16384) / 256 ^ 1) := u8_same (by omega)
  have e1 : UInt8.ofNat n = UInt8.ofNat ((n + 16384) / 256 ^ 0) := u8_same (by omega)
  rw [enc_2 n h h2, e0, e1]; rfl
theorem enc_be4 (n : Nat) (h : 16384 ≤ n) (h2 : n < 1073741824) : enc n = be 4 (n + 2147483648) := by
  have e0 : UInt8.ofNat (128 + n / 16777216) = UInt8.ofNat ((n + 2147483648) / 256 ^ 3) := u8_same (by omega)
  have e1 : UInt8.ofNat (n / 65536) = UInt8.ofNat ((n + 2147483648) / 256 ^ 2) := u8_same (by omega)
  have e2 : UInt8.ofNat (n / 256) = UInt8.ofNat ((n + 2147483648) / 256 ^ 1) := u8_same (by omega)
  have e3 : UInt8.ofNat n = UInt8.ofNat ((n + 2147483648) / 256 ^ 0) := u8_same (by omega)
  rw [enc_4 n h h2, e0, e1, e2, e3]; rfl
theorem enc_be8 (n : Nat) (h : 1073741824 ≤ n) : enc n = be 8 (n + 13835058055282163712) := by
  have e0 : UInt8.ofNat (192 + n / 72057594037927936) = UInt8.ofNat ((n + 13835058055282163712) / 256 ^ 7) := u8_same (by omega)
  have e1 : UInt8.ofNat (n / 281474976710656) = UInt8.ofNat ((n + 13835058055282163712) / 256 ^ 6) := u8_same (by omega)
  have e2 : UInt8.ofNat (n / 1099511627776) = UInt8.ofNat ((n + 13835058055282163712) / 256 ^ 5) := u8_same (by omega)
  have e3 : UInt8.ofNat (n / 4294967296) = UInt8.ofNat ((n + 13835058055282163712) / 256 ^ 4) := u8_same (by omega)
  have e4 : UInt8.ofNat (n / 16777216) = UInt8.ofNat ((n + 13835058055282163712) / 256 ^ 3) := u8_same (by omega)
  have e5 : UInt8.ofNat (n / 65536) = UInt8.ofNat ((n + 13835058055282163712) / 256 ^ 2) := u8_same (by omega)
  have e6 : UInt8.ofNat (n / 256) = UInt8.ofNat ((n + 13835058055282163712) / 256 ^ 1) := u8_same (by omega)
  have e7 : UInt8.ofNat n = UInt8.ofNat ((n + 13835058055282163712) / 256 ^ 0) := u8_same (by omega)
  rw [enc_8 n h, e0, e1, e2, e3, e4, e5, e6, e7]; rfl
theorem same_size {a b : Nat} (ha : a < 4611686018427387904) (hb : b < 4611686018427387904) (h : nsize a = nsize b) :
    (a < 64 ∧ b < 64) ∨ ((64 ≤ a ∧ a < 16384) ∧ 64 ≤ b ∧ b < 16384) ∨ ((16384 ≤ a ∧ a < 1073741824) ∧ 16384 ≤ b ∧ b < 1073741824) ∨ (1073741824 ≤ a ∧ 1073741824 ≤ b) := by
  have key (n : Nat) (hn : n < 4611686018427387904) : (nsize n = 1 ∧ n < 64) ∨ (nsize n = 2 ∧ 64 ≤ n ∧ n < 16384) ∨ (nsize n = 4 ∧ 16384 ≤ n ∧ n < 1073741824) ∨ (nsize n = 8 ∧ 1073741824 ≤ n) := by
    rcases size_cases n hn with h1 | ⟨h1, h2⟩ | ⟨h1, h2⟩ | ⟨h1, h2⟩
    · exact .inl ⟨nsize_1 h1, h1⟩
    · exact .inr (.inl ⟨nsize_2 h1 h2, h1, h2⟩)
    · exact .inr (.inr (.inl ⟨nsize_4 h1 h2, h1, h2⟩))
    · exact .inr (.inr (.inr ⟨nsize_8 h1 h2, h1⟩))
  have k1 := key a ha
  have k2 := key b hb
  omega
/-- Of two numbers of one size the lesser one's bytes stand first. -/
theorem less_enc (a b : Nat) (ha : a < 4611686018427387904) (hb : b < 4611686018427387904) (h : nsize a = nsize b) : lexLess (enc a) (enc b) = decide (a < b) := by
  rcases same_size ha hb h with ⟨h1, k1⟩ | ⟨⟨h1, h2⟩, k1, k2⟩ | ⟨⟨h1, h2⟩, k1, k2⟩ | ⟨h1, k1⟩
  · rw [enc_be1 a h1, enc_be1 b k1, less_be, Nat.mod_eq_of_lt (by omega), Nat.mod_eq_of_lt (by omega)]
  · rw [enc_be2 a h1 h2, enc_be2 b k1 k2, less_be, Nat.mod_eq_of_lt (by omega), Nat.mod_eq_of_lt (by omega)]; simp
  · rw [enc_be4 a h1 h2, enc_be4 b k1 k2, less_be, Nat.mod_eq_of_lt (by omega), Nat.mod_eq_of_lt (by omega)]; simp
  · rw [enc_be8 a h1, enc_be8 b k1, less_be, Nat.mod_eq_of_lt (by omega), Nat.mod_eq_of_lt (by omega)]; simp
end Go.Proofs.Ytkghkpkiodghiaa
