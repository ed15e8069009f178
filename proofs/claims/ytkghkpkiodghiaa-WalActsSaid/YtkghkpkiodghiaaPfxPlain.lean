/- Plain: numbers as bytes, there and back. Of no program. -/
import Derived.Test.YtkghkpkiodghiaaPlain
namespace Go.Proofs.Ytkghkpkiodghiaa
set_option linter.unusedVariables false
set_option linter.unusedSimpArgs false
set_option linter.unnecessarySimpa false

theorem u8_toNat (n : Nat) : (UInt8.ofNat n).toNat = n % 256 := UInt8.toNat_ofNat'
theorem u8_eq {n : Nat} {c : UInt8} (h : n % 256 = c.toNat) : UInt8.ofNat n = c := by
 apply UInt8.toNat_inj.1; rw [u8_toNat]; exact h

theorem nsize_1 {n : Nat} (h : n < 64) : nsize n = 1 := by unfold nsize; rw [if_pos h]
theorem nsize_2 {n : Nat} (h : 64 ≤ n) (h2 : n < 16384) : nsize n = 2 := by unfold nsize; rw [if_neg (by omega), if_pos h2]
theorem nsize_4 {n : Nat} (h : 16384 ≤ n) (h2 : n < 1073741824) : nsize n = 4 := by unfold nsize; rw [if_neg (by omega), if_neg (by omega), if_pos h2]
theorem nsize_8 {n : Nat} (h : 1073741824 ≤ n) (h2 : n < 4611686018427387904) : nsize n = 8 := by unfold nsize; rw [if_neg (by omega), if_neg (by omega), if_neg (by omega), if_pos h2]
theorem cls_0 {n : Nat} (h : n < 64) : cls n = 0 := by unfold cls; rw [if_pos (by omega)]
theorem cls_1 {n : Nat} (h : 64 ≤ n) (h2 : n < 16384) : cls n = 1 := by unfold cls; rw [if_neg (by omega), if_pos (by omega)]
theorem cls_2 {n : Nat} (h : 16384 ≤ n) (h2 : n < 1073741824) : cls n = 2 := by unfold cls; rw [if_neg (by omega), if_neg (by omega), if_pos (by omega)]
theorem cls_3 {n : Nat} (h : 1073741824 ≤ n) (h2 : n < 4611686018427387904) : cls n = 3 := by unfold cls; rw [if_neg (by omega), if_neg (by omega), if_neg (by omega), if_pos (by omega)]

theorem size_cases (n : Nat) (h : n < 4611686018427387904) : n < 64 ∨ (64 ≤ n ∧ n < 16384) ∨ (16384 ≤ n ∧ n < 1073741824) ∨ (1073741824 ≤ n ∧ n < 4611686018427387904) := by omega

/-- What tk does, the class of the first byte known. -/
theorem tk_at (c : UInt8) (r : List UInt8) (q s n : Nat) (hq : c.toNat / 64 = q) (hs : 2 ^ q = s) (hl : s ≤ r.length + 1) (hn : val (c.toNat % 64) (r.take (s - 1)) = n) (hc : cls n = (q : Int)) : tk (c :: r) = (n, s, 0) := by
 rw [tk_cons, hq, hs, if_neg (by omega), hn, if_pos hc]

/-- A number comes back, whatever is behind it. -/
theorem tk_enc (n : Nat) (h : n < 4611686018427387904) (r : List UInt8) : tk (enc n ++ r) = (n, nsize n, 0) := by
 rcases size_cases n h with h1 | ⟨h1, h2⟩ | ⟨h1, h2⟩ | ⟨h1, h2⟩
 ·rw [enc_1 n h1, nsize_1 h1]
  refine tk_at _ _ 0 1 n ?_ rfl (by simp) ?_ (cls_0 h1)
  ·rw [u8_toNat]; omega
  ·simp [val]; omega
 ·rw [enc_2 n h1 h2, nsize_2 h1 h2]
  refine tk_at _ _ 1 2 n ?_ rfl (by simp) ?_ (cls_1 h1 h2)
  ·rw [u8_toNat]; omega
  ·simp [val]; omega
 ·rw [enc_4 n h1 h2, nsize_4 h1 h2]
  refine tk_at _ _ 2 4 n ?_ rfl (by simp) ?_ (cls_2 h1 h2)
  ·rw [u8_toNat]; omega
  ·simp [val]; omega
 ·rw [enc_8 n h1, nsize_8 h1 h2]
  refine tk_at _ _ 3 8 n ?_ rfl (by simp) ?_ (cls_3 h1 h2)
  ·rw [u8_toNat]; omega
  ·simp [val]; omega
theorem val_small (n : Nat) (q : Nat) (h : cls n = (q : Int)) : (q = 0 ∧ n < 64) ∨ (q = 1 ∧ 64 ≤ n ∧ n < 16384) ∨ (q = 2 ∧ 16384 ≤ n ∧ n < 1073741824) ∨ (q = 3 ∧ 1073741824 ≤ n ∧ n < 4611686018427387904) := by
 unfold cls at h
 split at h
 ·omega
 ·split at h
  ·omega
  ·split at h
   ·omega
   ·split at h <;> omega
/-- What is taken is what the number is written as. -/
theorem enc_tk (l : List UInt8) (n k : Nat) (h : tk l = (n, k, 0)) : enc n = l.take k := by
 cases l with
 | nil => simp [tk] at h
 | cons c r =>
  rw [tk_cons] at h
  split at h
  ·simp at h
  ·rename_i hl
   split at h
   ·rename_i hc
    simp only [Prod.mk.injEq, and_true] at h
    obtain ⟨hn, hk⟩ := h
    have hc8 := c.toNat_lt
    rw [hn] at hc
    rw [← hk] 
    have hq := val_small n _ hc
    rcases hq with ⟨q, a⟩ | ⟨q, a, b⟩ | ⟨q, a, b⟩ | ⟨q, a, b⟩
    ·rw [q] at hn hl ⊢
     simp [val] at hn
     rw [enc_1 n a]
     simp
     exact u8_eq (by omega)
    ·rw [q] at hn hl ⊢
     match r, hn, hl with
     | [], hn, hl => simp at hl
     | c1 :: r, hn, hl =>
      have g1 := c1.toNat_lt
      simp [val] at hn
      have e0 := u8_eq (n := 64 + n / 256) (c := c) (by omega)
      have e1 := u8_eq (n := n) (c := c1) (by omega)
      rw [enc_2 n a b, e0, e1]; rfl
    ·rw [q] at hn hl ⊢
     match r, hn, hl with
     | [], hn, hl => simp at hl
     | [c1], hn, hl => simp at hl
     | [c1, c2], hn, hl => simp at hl
     | c1 :: c2 :: c3 :: r, hn, hl =>
      have g1 := c1.toNat_lt
      have g2 := c2.toNat_lt
      have g3 := c3.toNat_lt
      simp [val] at hn
      have e0 := u8_eq (n := 128 + n / 16777216) (c := c) (by omega)
      have e1 := u8_eq (n := n / 65536) (c := c1) (by omega)
      have e2 := u8_eq (n := n / 256) (c := c2) (by omega)
      have e3 := u8_eq (n := n) (c := c3) (by omega)
      rw [enc_4 n a b, e0, e1, e2, e3]; rfl
    ·rw [q] at hn hl ⊢
     match r, hn, hl with
     | [], hn, hl => simp at hl
     | [c1], hn, hl => simp at hl
     | [c1, c2], hn, hl => simp at hl
     | [c1, c2, c3], hn, hl => simp at hl
     | [c1, c2, c3, c4], hn, hl => simp at hl
     | [c1, c2, c3, c4, c5], hn, hl => simp at hl
     | [c1, c2, c3, c4, c5, c6], hn, hl => simp at hl
     | c1 :: c2 :: c3 :: c4 :: c5 :: c6 :: c7 :: r, hn, hl =>
      have g1 := c1.toNat_lt
      have g2 := c2.toNat_lt
      have g3 := c3.toNat_lt
      have g4 := c4.toNat_lt
      have g5 := c5.toNat_lt
      have g6 := c6.toNat_lt
      have g7 := c7.toNat_lt
      simp [val] at hn
      have e0 := u8_eq (n := 192 + n / 72057594037927936) (c := c) (by omega)
      have e1 := u8_eq (n := n / 281474976710656) (c := c1) (by omega)
      have e2 := u8_eq (n := n / 1099511627776) (c := c2) (by omega)
      have e3 := u8_eq (n := n / 4294967296) (c := c3) (by omega)
      have e4 := u8_eq (n := n / 16777216) (c := c4) (by omega)
      have e5 := u8_eq (n := n / 65536) (c := c5) (by omega)
      have e6 := u8_eq (n := n / 256) (c := c6) (by omega)
      have e7 := u8_eq (n := n) (c := c7) (by omega)
      rw [enc_8 n a, e0, e1, e2, e3, e4, e5, e6, e7]; rfl
   ·simp at h

end Go.Proofs.Ytkghkpkiodghiaa
