/- Check sums: half a byte at a time is bit by bit. The document's answer (suffraganref02). -/
import Derived.Test.YtkghkpkiodghiaaCrc
namespace Go.Proofs.Ytkghkpkiodghiaa
set_option linter.unusedVariables false
set_option linter.unusedSimpArgs false
set_option linter.unnecessarySimpa false
open Go.RowKit
set_option maxRecDepth 100000
set_option maxHeartbeats 4000000

theorem top_bit (s : Nat) : (s &&& 2147483648 = 0) ↔ s.testBit 31 = false := by
 have e : (2147483648 : Nat) = 2 ^ 31 := by decide
 constructor
 ·intro h
  have h2 : (s &&& 2147483648).testBit 31 = false := by rw [h]; simp
  rw [Nat.testBit_and, e, Nat.testBit_two_pow_self, Bool.and_true] at h2
  exact h2
 ·intro h
  apply Nat.eq_of_testBit_eq
  intro i
  rw [Nat.testBit_and, Nat.zero_testBit, e]
  by_cases hi : i = 31
  ·subst hi; rw [h]; rfl
  ·rw [Nat.testBit_two_pow_of_ne (Ne.symm hi)]; simp
theorem top_lt (s : Nat) (hs : s < 4294967296) : (s &&& 2147483648 = 0) ↔ s < 2147483648 := by
 rw [top_bit, Nat.testBit_eq_decide_div_mod_eq]
 have e : (2 : Nat) ^ 31 = 2147483648 := by decide
 rw [e]
 simp only [decide_eq_false_iff_not]
 omega
theorem stepN_eq (s : Nat) : stepN s = (s * 2 % 4294967296) ^^^ (if s.testBit 31 then 79764919 else 0) := by
 unfold stepN
 by_cases h : s &&& 2147483648 = 0
 ·rw [if_pos h, (top_bit s).1 h]; simp
 ·have : s.testBit 31 = true := by
   cases hb : s.testBit 31 with
   | true => rfl
   | false => exact absurd ((top_bit s).2 hb) h
  rw [if_neg h, this]; simp
theorem dbl_xor (x y : Nat) : (x ^^^ y) * 2 % 4294967296 = (x * 2 % 4294967296) ^^^ (y * 2 % 4294967296) := by
 have e : (4294967296 : Nat) = 2 ^ 32 := by decide
 have h (z : Nat) : z * 2 = z <<< 1 := by rw [Nat.shiftLeft_eq]
 rw [e, h, h, h, Nat.shiftLeft_xor_distrib, Nat.xor_mod_two_pow]
theorem stepN_xor (x y : Nat) : stepN (x ^^^ y) = stepN x ^^^ stepN y := by
 rw [stepN_eq, stepN_eq, stepN_eq, dbl_xor, Nat.testBit_xor]
 generalize x * 2 % 4294967296 = X
 generalize y * 2 % 4294967296 = Y
 apply Nat.eq_of_testBit_eq
 intro i
 cases x.testBit 31 <;> cases y.testBit 31 <;> simp [Nat.testBit_xor]
 ·cases X.testBit i <;> cases Y.testBit i <;> cases (79764919 : Nat).testBit i <;> rfl
 ·cases X.testBit i <;> cases Y.testBit i <;> cases (79764919 : Nat).testBit i <;> rfl
theorem stepsN_xor (x y : Nat) : ∀ j, stepsN (x ^^^ y) j = stepsN x j ^^^ stepsN y j
 | 0 => rfl
 | j + 1 => by unfold stepsN; rw [stepsN_xor x y j, stepN_xor]
theorem stepsN_add (s i : Nat) : ∀ j, stepsN s (i + j) = stepsN (stepsN s i) j
 | 0 => rfl
 | j + 1 => by rw [← Nat.add_assoc]; unfold stepsN; rw [stepsN_add s i j]
theorem stepN_low (s : Nat) (h : s < 2147483648) : stepN s = s * 2 := by
 unfold stepN
 rw [if_pos ((top_lt s (by omega)).2 h)]
 omega
theorem steps4_low (s : Nat) (h : s < 268435456) : stepsN s 4 = s * 16 := by
 show stepN (stepN (stepN (stepN s))) = s * 16
 have h1 := stepN_low s (by omega)
 have h2 := stepN_low (s * 2) (by omega)
 have h3 := stepN_low (s * 2 * 2) (by omega)
 have h4 := stepN_low (s * 2 * 2 * 2) (by omega)
 rw [h1, h2, h3, h4]
 omega
theorem mul_xor (x y k : Nat) : (x ^^^ y) * 2 ^ k = (x * 2 ^ k) ^^^ (y * 2 ^ k) := by
 rw [← Nat.shiftLeft_eq, ← Nat.shiftLeft_eq, ← Nat.shiftLeft_eq, Nat.shiftLeft_xor_distrib]
theorem add_xor (a b k : Nat) (hb : b < 2 ^ k) : a * 2 ^ k + b = (a * 2 ^ k) ^^^ b := by
 apply Nat.eq_of_testBit_eq
 intro i
 rw [Nat.mul_comm, Nat.testBit_two_pow_mul_add a hb, Nat.testBit_xor, Nat.testBit_two_pow_mul]
 by_cases hi : i < k
 ·simp [hi, show ¬ k ≤ i by omega]
 ·have : b.testBit i = false := Nat.testBit_lt_two_pow (Nat.lt_of_lt_of_le hb (Nat.pow_le_pow_right (by omega) (by omega)))
  simp [hi, show k ≤ i by omega, this]
theorem xor_swap (A B N : Nat) : (A ^^^ B) ^^^ N = B ^^^ (A ^^^ N) := by rw [Nat.xor_comm A B, Nat.xor_assoc]
theorem nibN_eq (s n : Nat) (hs : s < 4294967296) (hn : n < 16) : nibN s n = stepsN (s ^^^ n * 268435456) 4 := by
 have e28 : (268435456 : Nat) = 2 ^ 28 := by decide
 have hlo : s % 268435456 < 2 ^ 28 := by omega
 have hsp : s = (s / 268435456) * 2 ^ 28 ^^^ (s % 268435456) := by rw [← add_xor _ _ _ hlo]; omega
 have h2 : s ^^^ n * 268435456 = (s % 268435456) ^^^ (((s / 268435456) ^^^ n) * 268435456) := by
  have h3 : s ^^^ n * 268435456 = ((s / 268435456) * 2 ^ 28 ^^^ (s % 268435456)) ^^^ n * 268435456 := by rw [← hsp]
  rw [h3, e28, mul_xor]
  exact xor_swap _ _ _
 have hx : (s / 268435456) ^^^ n < 16 := Nat.xor_lt_two_pow (n := 4) (by omega) (by omega)
 rw [h2, stepsN_xor, steps4_low _ (by omega)]
 unfold nibN tabN halfN
 rw [Nat.mod_eq_of_lt (show ((s / 268435456) ^^^ n) * 268435456 < 4294967296 by omega)]
 congr 1
 omega
/-- Bit by bit. -/
def byteN (s c : Nat) : Nat := stepsN (s ^^^ c * 16777216) 8
theorem onN_eq (s c : Nat) (hs : s < 4294967296) (hc : c < 256) : onN s c = byteN s c := by
 unfold onN byteN
 have e24 : (16777216 : Nat) = 2 ^ 24 := by decide
 have e28 : (268435456 : Nat) = 2 ^ 28 := by decide
 have hand : c &&& 15 = c % 16 := Nat.and_two_pow_sub_one_eq_mod c 4
 rw [hand, nibN_eq s _ hs (by omega), nibN_eq _ _ (stepsN_lt _ (Nat.xor_lt_two_pow (n := 32) (by omega) (by omega)) 4) (by omega)]
 rw [show (8 : Nat) = 4 + 4 from rfl, stepsN_add]
 have h1 : s ^^^ c * 16777216 = (s ^^^ c / 16 * 268435456) ^^^ (c % 16 * 16777216) := by
  have : c * 16777216 = (c / 16 * 268435456) ^^^ (c % 16 * 16777216) := by
   have hb : c % 16 * 16777216 < 268435456 := by omega
   have h := add_xor (c / 16) (c % 16 * 16777216) 28 (by rw [← e28]; exact hb)
   rw [← e28] at h
   rw [← h]
   clear h hb hand
   omega
  rw [this, Nat.xor_assoc]
 have hb : c % 16 * 16777216 < 268435456 := by omega
 rw [h1, stepsN_xor (s ^^^ c / 16 * 268435456) (c % 16 * 16777216) 4, steps4_low (c % 16 * 16777216) hb]
 have h5 : c % 16 * 16777216 * 16 = c % 16 * 268435456 := by rw [Nat.mul_assoc]
 rw [h5]
def byteL (s : Nat) (l : List UInt8) : Nat := l.foldl (fun s c => byteN s c.toNat) s
theorem byteN_lt (s c : Nat) (hs : s < 4294967296) (hc : c < 256) : byteN s c < 4294967296 := stepsN_lt _ (Nat.xor_lt_two_pow (n := 32) (by omega) (by omega)) 8
theorem onL_eq (l : List UInt8) : ∀ s, s < 4294967296 → onL s l = byteL s l := by
 induction l with
 | nil => intro s _; rfl
 | cons c l ih =>
  intro s hs
  have hc := UInt8.toNat_lt c
  show onL (onN s c.toNat) l = byteL (byteN s c.toNat) l
  rw [onN_eq s _ hs (by omega)]
  exact ih _ (byteN_lt _ _ hs (by omega))
end Go.Proofs.Ytkghkpkiodghiaa
namespace Go.Proofs.Ytkghkpkiodghiaa
set_option linter.unusedVariables false
set_option linter.unusedSimpArgs false
set_option linter.unnecessarySimpa false
open Go.RowKit
set_option maxRecDepth 100000
set_option maxHeartbeats 4000000

theorem stepN_hi (x : Nat) (hx : x < 4294967296) (h : 2147483648 ≤ x) : stepN x = (x * 2 % 4294967296) ^^^ 79764919 := by
 unfold stepN
 rw [if_neg (fun hc => by have := (top_lt x hx).1 hc; omega)]
theorem byteL_lt (s : Nat) (hs : s < 4294967296) (l : List UInt8) : byteL s l < 4294967296 := by rw [← onL_eq l s hs]; exact onL_lt s hs l
theorem byteL_take (s : Nat) (l : List UInt8) (j : Nat) (hj : j < l.length) : byteL s (l.take (j + 1)) = byteN (byteL s (l.take j)) (l.getD j 0).toNat := by
 unfold byteL
 rw [List.take_add_one, List.getElem?_eq_getElem hj]
 rw [List.foldl_append]
 simp [List.getD, List.getElem?_eq_getElem hj]
theorem refGo_any (s : Nat) (hs : s < 4294967296) (v : Value) (l : List UInt8) (w : World) (h : Sh w v l) :
  Calls Try.prog 76 #[.int .u32 (s : Int), v] w fun e w' => e = .returned (.int .u32 (byteL s l : Int)) ∧ w' = w := by
 obtain ⟨a, cap, rfl, g1, g2, g3, g4⟩ := h.open
 have H := Lib.hid h
 have hll := Sh.len h
 clear h g3 g4
 go_enter Try.func76, Try.ntmps76
 go_wp2_with fail
 go_loopw [0, 5] (fun st i wr => ∃ j : Nat, j ≤ l.length ∧ i = .int .i64 j ∧ st = .int .u32 (byteL s (l.take j) : Int) ∧ wr = w) (fun _ i _ => l.length - (intOf i).toNat)
 case atStart => exact ⟨0, by omega, rfl, rfl, rfl⟩
 case round =>
  obtain ⟨j, hj, rfl, rfl, rfl⟩ := hrel
  by_cases hlt : j < l.length
  ·obtain ⟨b, off, rfl, hby⟩ := H.out.cells (by omega)
   have hbyte := hby j hlt
   have hst := byteL_take s l j hlt
   have ht := byteL_lt s hs (l.take j)
   have hc := UInt8.toNat_lt (l.getD j 0)
   have HST := Lib.hid hst
   clear hby hst
   generalize byteL s (l.take j) = t at *
   generalize (l.getD j 0).toNat = c at *
   have hjI : (j : Int) < (l.length : Int) := by omega
   have hx : bits .xor .u32 (t : Int) ((c : Int) * 16777216) = ((t ^^^ c * 16777216 : Nat) : Int) := by rw [← xor32 _ _ ht (by omega)]; congr 1
   have hb := Lib.hid (show byteN t c = stepsN (t ^^^ c * 16777216) 8 from rfl)
   have hlt32 : t ^^^ c * 16777216 < 4294967296 := Nat.xor_lt_two_pow (n := 32) (by omega) (by omega)
   generalize t ^^^ c * 16777216 = x at *
   go_wp2_with fail
   go_loopw [0, 6] (fun st i w' => ∃ k : Nat, k ≤ 8 ∧ i = .int .i64 k ∧ st = .int .u32 (stepsN x k : Int) ∧ w' = wr) (fun _ i _ => 8 - (intOf i).toNat)
   case atStart => exact ⟨0, by omega, rfl, rfl, rfl⟩
   case round =>
    obtain ⟨k, hk, rfl, rfl, rfl⟩ := hrel
    by_cases hlt8 : k < 8
    ·have hyl := stepsN_lt x hlt32 k
     have HE := Lib.hid (show stepsN x (k + 1) = stepN (stepsN x k) from rfl)
     generalize stepsN x k = y at *
     by_cases hy : 2147483648 ≤ y
     ·have hs2 := stepN_hi y hyl hy
      have hx2 : bits .xor .u32 ((y : Int) * 2 % 4294967296) 79764919 = (((y * 2 % 4294967296) ^^^ 79764919 : Nat) : Int) := by rw [← xor32 _ _ (by omega) (by omega)]; congr 1
      have HS := Lib.hid hs2
      have hyI : 2147483648 ≤ (y : Int) := by omega
      clear hs2
      go_wp2_with fail
      exact ⟨⟨k + 1, by omega, by go_num, by rw [HE.out, HS.out], by trivial⟩, by simp [intOf]; omega⟩
     ·have hs2 := stepN_low y (by omega)
      have HS := Lib.hid hs2
      have hyI : ¬ 2147483648 ≤ (y : Int) := by omega
      clear hs2
      go_wp2_with fail
      exact ⟨⟨k + 1, by omega, by go_num, by rw [HE.out, HS.out]; go_num, by trivial⟩, by simp [intOf]; omega⟩
    ·obtain rfl : k = 8 := by omega
     have HB := Lib.hid hb.out.symm
     rw [HB.out]
     go_wp2_with fail
     exact ⟨⟨j + 1, by omega, by go_num, by rw [HST.out], by trivial⟩, by simp [intOf]; omega⟩
  ·obtain rfl : j = l.length := by omega
   have HTk := Lib.hid (show l.take l.length = l from List.take_length ..)
   rw [HTk.out]
   go_wp2_with fail
   go_ret
   exact ⟨rfl, rfl⟩

theorem refSum_any (v : Value) (l : List UInt8) (w : World) (h : Sh w v l) :
  Calls Try.prog 73 #[v] w fun e w' => e = .returned (.int .u32 (onL 4294967295 l : Int)) ∧ w' = w := by
 have H := Lib.hid h
 have HE := Lib.hid (onL_eq l 4294967295 (by omega))
 clear h
 go_enter Try.func73, Try.ntmps73
 go_wp2_with (go_at_call 76; refine (refGo_any 4294967295 (by omega) v l _ H.out).mono ?_; rintro e w1 ⟨rfl, rfl⟩)
 go_ret
 rw [HE.out]
 exact ⟨rfl, rfl⟩
theorem refBytes_any (s : Nat) (hs : s < 4294967296) (w : World) :
  Calls Try.prog 72 #[.int .u32 (s : Int)] w fun e w' => ∃ v, e = .returned v ∧ Own w' w.heap.size 5 v (sumB s) ∧ Below w.heap.size w w' := by
 have H0 := Lib.hid (ofNat_int (s / 16777216) ((s : Int) / 16777216) (by omega)).symm
 have H1 := Lib.hid (ofNat_int (s / 65536) ((s : Int) / 65536 % 256) (by omega)).symm
 have H2 := Lib.hid (ofNat_int (s / 256) ((s : Int) / 256 % 256) (by omega)).symm
 have H3 := Lib.hid (ofNat_int s ((s : Int) % 256) (by omega)).symm
 go_enter Try.func72, Try.ntmps72
 go_wp2_with fail
 go_ret
 rw [H0.out, H1.out, H2.out, H3.out]
 exact ⟨_, rfl, Own.lit w 5 (sumB s) (by simp [sumB]), balloc (Below.refl _ _) _⟩
end Go.Proofs.Ytkghkpkiodghiaa
