/- Frames: bits of others in a row; what the check sum comes to then. -/
import Derived.Test.YtadmjhlcdoghpabFrmP
import Derived.Test.YtadmjhlcdoghpabCrc3
namespace Go.Proofs.Ytadmjhlcdoghpab
set_option linter.unusedVariables false
set_option linter.unusedSimpArgs false
set_option linter.unnecessarySimpa false

theorem stepN_zero {s : Nat} (hs : s < 4294967296) (h : stepN s = 0) : s = 0 := by
  by_cases hlo : s < 2147483648
  · rw [stepN_low s hlo] at h; omega
  · exfalso
    rw [stepN_hi s hs (by omega)] at h
    have h2 := congrArg (fun x => Nat.testBit x 0) h
    have h3 : (s * 2 % 4294967296).testBit 0 = false := by rw [Nat.testBit_zero]; exact decide_eq_false (by omega)
    simp only [Nat.testBit_xor, h3, Nat.zero_testBit, Bool.false_bne] at h2
    revert h2
    decide
theorem stepsN_zero {s : Nat} (hs : s < 4294967296) : ∀ j, stepsN s j = 0 → s = 0
  | 0, h => h
  | j + 1, h => stepsN_zero hs j (stepN_zero (stepsN_lt s hs j) h)
theorem stepsN_0 : ∀ j, stepsN 0 j = 0
  | 0 => rfl
  | j + 1 => by show stepN (stepsN 0 j) = 0; rw [stepsN_0 j]; decide
theorem byteN_xor (s t c : Nat) : byteN (s ^^^ t) c = byteN s c ^^^ stepsN t 8 := by
  unfold byteN
  rw [← stepsN_xor, Nat.xor_assoc, Nat.xor_comm t, ← Nat.xor_assoc]
theorem byteL_xor (l : List UInt8) : ∀ s t, byteL (s ^^^ t) l = byteL s l ^^^ stepsN t (8 * l.length) := by
  induction l with
  | nil => intro s t; rfl
  | cons c l ih =>
    intro s t
    show byteL (byteN (s ^^^ t) c.toNat) l = byteL (byteN s c.toNat) l ^^^ _
    rw [byteN_xor, ih, ← stepsN_add, List.length_cons, show 8 + 8 * l.length = 8 * (l.length + 1) by omega]
theorem byteL_app (a b : List UInt8) (s : Nat) : byteL s (a ++ b) = byteL (byteL s a) b := by unfold byteL; rw [List.foldl_append]
theorem u8_xor (a b : UInt8) : (a ^^^ b).toNat = a.toNat ^^^ b.toNat := UInt8.toNat_xor a b
/-- One byte's bits are others. -/
theorem byteL_set (l : List UInt8) (p : Nat) (e : UInt8) (hp : p < l.length) (s : Nat) : byteL s (l.set p (l.getD p 0 ^^^ e)) = byteL s l ^^^ stepsN (e.toNat * 16777216) (8 * (l.length - p)) := by
  induction l generalizing s p with
  | nil => simp at hp
  | cons c l ih =>
    cases p with
    | zero =>
      show byteL (byteN s (c ^^^ e).toNat) l = byteL (byteN s c.toNat) l ^^^ _
      have h1 : byteN s (c ^^^ e).toNat = byteN s c.toNat ^^^ stepsN (e.toNat * 16777216) 8 := by
        unfold byteN
        rw [u8_xor, show (16777216 : Nat) = 2 ^ 24 from rfl, mul_xor, ← stepsN_xor, ← Nat.xor_assoc]
      rw [h1, byteL_xor, ← stepsN_add]
      congr 2
      simp only [List.length_cons]; omega
    | succ p =>
      show byteL (byteN s c.toNat) (l.set p (l.getD p 0 ^^^ e)) = byteL (byteN s c.toNat) l ^^^ _
      rw [ih p (by simpa using hp)]
      congr 2
      simp only [List.length_cons]; omega
theorem stepsN_pow (k : Nat) : ∀ i, k + i ≤ 31 → stepsN (2 ^ k) i = 2 ^ (k + i)
  | 0, _ => rfl
  | i + 1, h => by
    show stepN (stepsN (2 ^ k) i) = _
    rw [stepsN_pow k i (by omega), stepN_low, ← Nat.pow_succ]
    · rfl
    · exact Nat.pow_lt_pow_right (by decide) (show k + i < 31 by omega)
/-- A bit of the byte at p, i bits behind the first one. -/
theorem bit_steps (first n i r p L : Nat) (hn : n = first + i) (hr : n = 8 * p + r) (hr8 : r < 8) (hi : i < 32) (hp : p < L) : stepsN (2 ^ (7 - r) * 16777216) (8 * (L - p)) = stepsN (2 ^ (31 - i)) (8 * L - first) := by
  have e1 : 2 ^ (7 - r) * 16777216 = 2 ^ (31 - r) := by rw [show (16777216 : Nat) = 2 ^ 24 from rfl, ← Nat.pow_add]; congr 1; omega
  have e2 : 8 * (L - p) = r + (8 * L - n) := by omega
  have e3 : 8 * L - first = i + (8 * L - n) := by omega
  rw [e1, e2, e3, stepsN_add, stepsN_add, stepsN_pow (31 - r) r (by omega), stepsN_pow (31 - i) i (by omega)]
  congr 2
  have : 31 - r + r = 31 - i + i := by omega
  rw [this]
theorem two_u (u i : Nat) (hi : i < 32) : (u * 2 ^ (32 - i)) ^^^ 2 ^ (31 - i) = (2 * u + 1) * 2 ^ (31 - i) := by
  have e : u * 2 ^ (32 - i) = (2 * u) * 2 ^ (31 - i) := by rw [show 32 - i = (31 - i) + 1 by omega, Nat.pow_succ, Nat.mul_comm 2 u, Nat.mul_comm _ 2, Nat.mul_assoc]
  have h2 : 2 * u + 1 = 2 * u ^^^ 1 := by
    have := add_xor u 1 1 (by decide)
    rw [Nat.pow_one, Nat.mul_comm] at this
    exact this
  rw [e, h2, mul_xor, Nat.one_mul]
/-- What the bits' changing comes to: u tells which of the first i are others. -/
def Burst (s0 : Nat) (X0 : List UInt8) (first i u : Nat) (X : List UInt8) : Prop :=
  X.length = X0.length ∧ u < 2 ^ i ∧ byteL s0 X = byteL s0 X0 ^^^ stepsN (u * 2 ^ (32 - i)) (8 * X0.length - first)
theorem Burst.start (s0 : Nat) (X0 : List UInt8) (first : Nat) : Burst s0 X0 first 0 0 X0 := ⟨rfl, by decide, by rw [Nat.zero_mul, stepsN_0, Nat.xor_zero]⟩
theorem Burst.no {s0 : Nat} {X0 X : List UInt8} {first i u : Nat} (h : Burst s0 X0 first i u X) (hi : i < 32) : Burst s0 X0 first (i + 1) (2 * u) X := by
  obtain ⟨h1, h2, h3⟩ := h
  refine ⟨h1, by rw [Nat.pow_succ]; omega, ?_⟩
  rw [h3]
  congr 2
  rw [show 32 - i = (32 - (i + 1)) + 1 by omega, Nat.pow_succ, Nat.mul_comm 2 u, Nat.mul_comm _ 2, Nat.mul_assoc]
theorem Burst.yes {s0 : Nat} {X0 X : List UInt8} {first i u : Nat} (h : Burst s0 X0 first i u X) (hi : i < 32) (p r : Nat) (hn : first + i = 8 * p + r) (hr : r < 8) (hp : p < X0.length) (e : UInt8) (he : e.toNat = 2 ^ (7 - r)) :
    Burst s0 X0 first (i + 1) (2 * u + 1) (X.set p (X.getD p 0 ^^^ e)) := by
  obtain ⟨h1, h2, h3⟩ := h
  refine ⟨by rw [List.length_set, h1], by rw [Nat.pow_succ]; omega, ?_⟩
  rw [byteL_set X p e (by omega), h3, he, h1, bit_steps first (first + i) i r p X0.length rfl hn hr hi hp, Nat.xor_assoc, ← stepsN_xor, two_u u i hi, show 31 - i = 32 - (i + 1) by omega]
theorem Burst.bad {s0 : Nat} {X0 X : List UInt8} {first i u : Nat} (h : Burst s0 X0 first i u X) (hi : i ≤ 32) (h0 : byteL s0 X0 = 0) (hu : u ≠ 0) : byteL s0 X ≠ 0 := by
  obtain ⟨h1, h2, h3⟩ := h
  rw [h3, h0, Nat.zero_xor]
  have hlt : u * 2 ^ (32 - i) < 4294967296 := by
    have : u * 2 ^ (32 - i) < 2 ^ i * 2 ^ (32 - i) := (Nat.mul_lt_mul_right (Nat.two_pow_pos _)).mpr h2
    rw [← Nat.pow_add, show i + (32 - i) = 32 by omega] at this
    exact this
  intro hc
  have := stepsN_zero hlt _ hc
  have hp := Nat.two_pow_pos (32 - i)
  rcases Nat.mul_eq_zero.mp this with h | h
  · exact hu h
  · omega
/-- Good are bytes whose sum, with the last four taken in, is nothing. -/
theorem stepsN_lowj (x : Nat) : ∀ j, x * 2 ^ j < 4294967296 → stepsN x j = x * 2 ^ j
  | 0, _ => by simp [stepsN]
  | j + 1, h => by
    rw [Nat.pow_succ, ← Nat.mul_assoc] at h ⊢
    show stepN (stepsN x j) = _
    rw [stepsN_lowj x j (by omega), stepN_low _ (by omega)]
theorem fb_step (s : Nat) (q : List UInt8) (c : UInt8) (k B : Nat) (hk : k ≤ 3) (h : byteL s q = stepsN (s ^^^ B * 2 ^ (32 - 8 * k)) (8 * k)) : byteL s (q ++ [c]) = stepsN (s ^^^ (B * 256 + c.toNat) * 2 ^ (32 - 8 * (k + 1))) (8 * (k + 1)) := by
  have hc := c.toNat_lt
  have e1 : c.toNat * 16777216 = stepsN (c.toNat * 2 ^ (24 - 8 * k)) (8 * k) := by
    have e : c.toNat * 2 ^ (24 - 8 * k) * 2 ^ (8 * k) = c.toNat * 16777216 := by rw [Nat.mul_assoc, ← Nat.pow_add, show 24 - 8 * k + 8 * k = 24 by omega]
    rw [stepsN_lowj _ _ (by rw [e]; omega), e]
  have e2 : (B * 256 + c.toNat) * 2 ^ (32 - 8 * (k + 1)) = (B * 2 ^ (32 - 8 * k)) ^^^ (c.toNat * 2 ^ (24 - 8 * k)) := by
    have k1 := add_xor B c.toNat 8 hc
    rw [show (256 : Nat) = 2 ^ 8 from rfl, k1, mul_xor, Nat.mul_assoc, ← Nat.pow_add, show 8 + (32 - 8 * (k + 1)) = 32 - 8 * k by omega, show 32 - 8 * (k + 1) = 24 - 8 * k by omega]
  rw [byteL_app, h]
  show stepsN (_ ^^^ c.toNat * 16777216) 8 = _
  rw [e1, ← stepsN_xor, ← stepsN_add, e2, Nat.xor_assoc, show 8 * k + 8 = 8 * (k + 1) by omega]
theorem four_bytes (s : Nat) (q : List UInt8) (hq : q.length = 4) : byteL s q = stepsN (s ^^^ beN q) 32 := by
  match q, hq with
  | [a, b, c, d], _ =>
    have h0 : byteL s [] = stepsN (s ^^^ 0 * 2 ^ (32 - 8 * 0)) (8 * 0) := by simp [byteL, stepsN]
    have h1 := fb_step s _ a 0 _ (by omega) h0
    have h2 := fb_step s _ b 1 _ (by omega) h1
    have h3 := fb_step s _ c 2 _ (by omega) h2
    have h4 := fb_step s _ d 3 _ (by omega) h3
    simpa [beN] using h4
/-- Good are bytes whose sum, with the last four taken in, is nothing. -/
theorem goodB_zero (l : List UInt8) (hl : 4 ≤ l.length) : goodB l = true ↔ byteL 4294967295 l = 0 := by
  have e : l = l.take (l.length - 4) ++ l.drop (l.length - 4) := (List.take_append_drop _ _).symm
  have hq : (l.drop (l.length - 4)).length = 4 := by rw [List.length_drop]; omega
  generalize l.take (l.length - 4) = f at e
  generalize l.drop (l.length - 4) = q at e hq
  subst e
  have hlt := onL_lt 4294967295 (by omega) f
  have hb : beN q < 4294967296 := by have := beN_lt q 4 (by omega); rw [List.take_of_length_le (by omega)] at this; exact this
  rw [goodB_app _ _ hq, byteL_app, ← onL_eq f _ (by omega), four_bytes _ _ hq, beq_iff_eq]
  constructor
  · intro h
    have h' : beN q = onL 4294967295 f := by omega
    rw [h', Nat.xor_self, stepsN_0]
  · intro h
    have := stepsN_zero (Nat.xor_lt_two_pow (n := 32) (by omega) (by omega)) _ h
    have h' := congrArg (· ^^^ beN q) this
    simp only [Nat.xor_assoc, Nat.xor_self, Nat.xor_zero, Nat.zero_xor] at h'
    omega
/-- A frame of which bits behind its number are others. -/
theorem tkF_bad (d X r : List UInt8) (hd : d.length ≤ 1048576) (hX : X.length = d.length + 4) (hb : byteL (byteL 4294967295 (enc d.length)) X ≠ 0) : tkF (enc d.length ++ X ++ r) = ([], 0, 50) := by
  have ht : tk (enc d.length ++ X ++ r) = (d.length, nsize d.length, 0) := by rw [List.append_assoc]; exact tk_enc _ (by omega) _
  have he := enc_length d.length (by omega)
  have hl : (enc d.length ++ X).length = nsize d.length + d.length + 4 := by rw [List.length_append]; omega
  have hg : ¬ goodB (enc d.length ++ X) = true := by
    rw [goodB_zero _ (by omega), byteL_app]; exact hb
  rw [tkF_of ht hd (by rw [List.length_append]; omega), ← hl, List.take_left' rfl, if_neg hg]
theorem frameB_zero (d : List UInt8) (hd : d.length ≤ 1048576) : byteL (byteL 4294967295 (enc d.length)) (d ++ sumB (onL 4294967295 (fB d))) = 0 := by
  have h := (goodB_zero (frameB d) (by rw [frameB_length d hd]; omega)).mp (frameB_good d)
  rw [frameB_eq, byteL_app] at h
  exact h
/-- What is found of frames of which one has others of its bits. -/
theorem scF_bad (A : List (List UInt8)) (d : List UInt8) (r X : List UInt8) (first i u : Nat) (hA : ∀ x ∈ A, x.length ≤ 1048576) (hd : d.length ≤ 1048576) (hi : i ≤ 32)
    (h : Burst (byteL 4294967295 (enc d.length)) (d ++ sumB (onL 4294967295 (fB d))) first i u X) (hu : u ≠ 0) :
    scF ((frames A ++ (enc d.length ++ X ++ r)).length + 1) (frames A ++ (enc d.length ++ X ++ r)) = (A, (frames A).length, 50) := by
  have hX : X.length = d.length + 4 := by rw [h.1, List.length_append]; rfl
  have hb := h.bad hi (frameB_zero d hd) hu
  refine scF_stop A hA _ 50 (.inr ⟨?_, by rw [tkF_bad d X r hd hX hb], by decide⟩)
  intro hc
  have := congrArg List.length hc
  rw [List.length_append, List.length_append, List.length_nil] at this
  omega
end Go.Proofs.Ytadmjhlcdoghpab
