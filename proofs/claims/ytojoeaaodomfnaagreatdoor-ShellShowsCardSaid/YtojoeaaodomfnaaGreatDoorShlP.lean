/- Package shell, plainly: a line's words, numbers, what a line is. Of no program. -/
import Derived.Lib.Split
import Derived.Lib.SplitLaws
import Derived.Lib.Atoi
import Derived.Lib.ItoaMem
import Derived.Lib.AtoiTie
import Derived.Lib.AtoiAllCases
import Derived.Lib.ItoaNum
namespace Go.Proofs.YtojoeaaodomfnaaGreatDoor
set_option linter.unusedVariables false
set_option linter.unusedSimpArgs false
set_option linter.unnecessarySimpa false
open Go.Lib
namespace Shl

/-! ### words -/
/-- A line's words: what stands between its blanks. -/
def wordsL : List UInt8 → List (List UInt8)
  | [] => [[]]
  | c :: r => if c = 32 then [] :: wordsL r else
    match wordsL r with
    | [] => [[c]]
    | w :: ws => (c :: w) :: ws
def joinL : List (List UInt8) → List UInt8
  | [] => []
  | [w] => w
  | w :: u :: ws => w ++ 32 :: joinL (u :: ws)
theorem wordsL_ne (s : List UInt8) : wordsL s ≠ [] := by
  cases s with
  | nil => simp [wordsL]
  | cons c r =>
    unfold wordsL
    split
    · simp
    · split <;> simp
theorem words_blank (r : List UInt8) : wordsL (32 :: r) = [] :: wordsL r := by simp [wordsL]
theorem words_byte {c : UInt8} (h : c ≠ 32) (r : List UInt8) : ∃ w ws, wordsL r = w :: ws ∧ wordsL (c :: r) = (c :: w) :: ws := by
  rcases h1 : wordsL r with _ | ⟨w, ws⟩
  · exact absurd h1 (wordsL_ne r)
  · exact ⟨w, ws, rfl, by rw [wordsL, if_neg h, h1]⟩
theorem joinL_cons (w : List UInt8) {l : List (List UInt8)} (h : l ≠ []) : joinL (w :: l) = w ++ 32 :: joinL l := by
  cases l with
  | nil => exact absurd rfl h
  | cons u ws => rfl
theorem join_words (s : List UInt8) : joinL (wordsL s) = s := by
  induction s with
  | nil => rfl
  | cons c r ih =>
    by_cases h : c = 32
    · subst h; rw [words_blank, joinL_cons _ (wordsL_ne r), ih]; rfl
    · obtain ⟨w, ws, h1, h2⟩ := words_byte h r
      rw [h2]
      rw [h1] at ih
      cases ws with
      | nil => simp only [joinL] at ih ⊢; rw [ih]
      | cons u us => simp only [joinL] at ih ⊢; rw [← ih]; rfl
theorem words_clean (s : List UInt8) : ∀ w ∈ wordsL s, (32 : UInt8) ∉ w := by
  induction s with
  | nil => intro w hw; simp [wordsL] at hw; subst hw; simp
  | cons c r ih =>
    by_cases h : c = 32
    · subst h; rw [words_blank]
      intro w hw
      rcases List.mem_cons.1 hw with rfl | hw
      · simp
      · exact ih w hw
    · obtain ⟨w, ws, h1, h2⟩ := words_byte h r
      rw [h2]
      intro x hx
      rcases List.mem_cons.1 hx with rfl | hx
      · have := ih w (by rw [h1]; exact List.mem_cons_self ..)
        simp only [List.mem_cons, not_or]
        exact ⟨fun e => h e.symm, this⟩
      · exact ih x (by rw [h1]; exact List.mem_cons_of_mem _ hx)
theorem words_word {w : List UInt8} (h : (32 : UInt8) ∉ w) : wordsL w = [w] := by
  induction w with
  | nil => rfl
  | cons c r ih =>
    simp only [List.mem_cons, not_or] at h
    obtain ⟨x, xs, h1, h2⟩ := words_byte (fun e => h.1 e.symm) r
    rw [ih h.2] at h1
    simp only [List.cons.injEq] at h1
    rw [h2, ← h1.1, ← h1.2]
theorem words_app {w : List UInt8} (h : (32 : UInt8) ∉ w) (r : List UInt8) : wordsL (w ++ 32 :: r) = w :: wordsL r := by
  induction w with
  | nil => exact words_blank r
  | cons c w ih =>
    simp only [List.mem_cons, not_or] at h
    obtain ⟨x, xs, h1, h2⟩ := words_byte (fun e => h.1 e.symm) (w ++ 32 :: r)
    rw [ih h.2] at h1
    simp only [List.cons.injEq] at h1
    rw [List.cons_append, h2, ← h1.1, ← h1.2]
theorem words_join : ∀ {l : List (List UInt8)}, (∀ w ∈ l, (32 : UInt8) ∉ w) → l ≠ [] → wordsL (joinL l) = l
  | [], _, h => absurd rfl h
  | [w], h, _ => words_word (h w (by simp))
  | w :: u :: ws, h, _ => by
    rw [joinL_cons _ (by simp), words_app (h w (by simp)), words_join (l := u :: ws) (fun x hx => h x (List.mem_cons_of_mem _ hx)) (by simp)]
/-! ### the words by Go's strings.Split, the first one by its strings.Cut -/
theorem index_no : ∀ {s : List UInt8}, (32 : UInt8) ∉ s → Lib.index s [32] = -1
  | [], _ => rfl
  | c :: r, h => by
    simp only [List.mem_cons, not_or] at h
    have hp : ([32] : List UInt8).isPrefixOf (c :: r) = false := by
      simp only [List.isPrefixOf, Bool.and_true]
      exact beq_eq_false_iff_ne.2 h.1
    unfold Lib.index
    rw [hp, index_no h.2]
    rfl
theorem index_at : ∀ {w : List UInt8}, (32 : UInt8) ∉ w → ∀ r : List UInt8, Lib.index (w ++ 32 :: r) [32] = (w.length : Int)
  | [], _, r => by unfold Lib.index; simp [List.isPrefixOf]
  | c :: w, h, r => by
    simp only [List.mem_cons, not_or] at h
    have hp : ([32] : List UInt8).isPrefixOf (c :: (w ++ 32 :: r)) = false := by
      simp only [List.isPrefixOf, Bool.and_true]
      exact beq_eq_false_iff_ne.2 h.1
    have ih := index_at h.2 r
    rw [List.cons_append]
    unfold Lib.index
    rw [hp, ih]
    have : ((w.length : Int) == -1) = false := by rw [beq_eq_false_iff_ne]; omega
    simp [this]
theorem blank_or : ∀ s : List UInt8, (32 : UInt8) ∉ s ∨ ∃ w r, (32 : UInt8) ∉ w ∧ s = w ++ 32 :: r
  | [] => .inl (by simp)
  | c :: s => by
    by_cases h : c = 32
    · subst h; exact .inr ⟨[], s, by simp, rfl⟩
    · rcases blank_or s with h1 | ⟨w, r, h1, rfl⟩
      · exact .inl (by simp only [List.mem_cons, not_or]; exact ⟨fun e => h e.symm, h1⟩)
      · exact .inr ⟨c :: w, r, by simp only [List.mem_cons, not_or]; exact ⟨fun e => h e.symm, h1⟩, rfl⟩
theorem split_words (s : List UInt8) : Lib.split s [32] = wordsL s := by
  generalize hn : s.length = n
  induction n using Nat.strongRecOn generalizing s with
  | ind n ih =>
    subst hn
    rcases blank_or s with h | ⟨w, r, h, rfl⟩
    · unfold Lib.split
      rw [Lib.count_miss (index_no h), words_word h]
      rfl
    · have hi := index_at h r
      have e1 : (w ++ 32 :: r).drop (w.length + 1) = r := by rw [List.drop_append]; simp
      have hr := ih r.length (by simp; omega) r rfl
      unfold Lib.split at hr ⊢
      rw [Lib.count_hit (by simp) hi]
      simp only [List.length_singleton]
      rw [e1, Nat.add_comm 1, Lib.splitK]
      have hm : ¬ (Lib.index (w ++ 32 :: r) [32] == -1) = true := fun e => by have := beq_iff_eq.1 e; omega
      rw [if_neg hm, hi]
      simp only [Int.toNat_natCast, Nat.add_zero, List.length_singleton]
      rw [e1, hr, words_app h]
      simp
theorem cut_first (s : List UInt8) : (Lib.cut s [32]).1 = (wordsL s).headD [] := by
  rcases blank_or s with h | ⟨w, r, h, rfl⟩
  · unfold Lib.cut
    rw [index_no h, words_word h]
    rfl
  · unfold Lib.cut
    rw [index_at h r, words_app h, if_pos (by omega)]
    simp
/-- The words over byte arrays. -/
theorem splitB_words (s : ByteArray) : (Lib.splitB ⟨#[32]⟩ 0 (Lib.countB s ⟨#[32]⟩) s).map (·.data.toList) = wordsL s.data.toList := by
  rw [Lib.splitB_data]
  exact split_words s.data.toList
/-! ### numbers -/
/-- What number a word is: at most six digits, no nought ahead. -/
def numL (s : List UInt8) : Option Nat := if s = [] ∨ 6 < s.length ∨ (1 < s.length ∧ s.headD 0 = 48) then none else Lib.decFrom 0 s
theorem decFrom_snoc (b : UInt8) : ∀ (l : List UInt8) (acc : Nat), Lib.decFrom acc (l ++ [b]) = (Lib.decFrom acc l).bind fun n => (Lib.digitVal b).map fun d => n * 10 + d
  | [], acc => by
    simp only [List.nil_append, Lib.decFrom, Option.bind_some]
    cases Lib.digitVal b <;> rfl
  | c :: r, acc => by
    simp only [List.cons_append, Lib.decFrom]
    cases h : Lib.digitVal c with
    | none => rfl
    | some d => simp only []; exact decFrom_snoc b r _
theorem decFrom_ge : ∀ (l : List UInt8) (acc n : Nat), Lib.decFrom acc l = some n → acc ≤ n
  | [], acc, n, h => by simp [Lib.decFrom] at h; omega
  | c :: r, acc, n, h => by
    simp only [Lib.decFrom] at h
    cases hc : Lib.digitVal c with
    | none => rw [hc] at h; cases h
    | some d => rw [hc] at h; have := decFrom_ge r _ n h; omega
theorem digit_val (k : Nat) (h : k < 10) : Lib.digitVal (UInt8.ofNat (48 + k)) = some k := by
  unfold Lib.digitVal
  have e : (UInt8.ofNat (48 + k)).toNat = 48 + k := by simp; omega
  rw [e, if_pos ⟨by omega, by omega⟩]
  simp
theorem digit_back {b : UInt8} {d : Nat} (h : Lib.digitVal b = some d) : UInt8.ofNat (48 + d) = b ∧ d < 10 := by
  obtain ⟨h1, h2, h3⟩ := Lib.digitVal_eq h
  refine ⟨?_, by omega⟩
  rw [h3, show 48 + (b.toNat - 48) = b.toNat by omega]
  simp
theorem decDigits_ne (n : Nat) : Lib.decDigits n ≠ [] := by
  rw [Lib.decDigits]
  split <;> simp
theorem dec_digits (n : Nat) : Lib.decFrom 0 (Lib.decDigits n) = some n := by
  induction n using Nat.strongRecOn with
  | ind n ih =>
    rw [Lib.decDigits]
    split
    · rename_i h
      simp only [Lib.decFrom, digit_val n h, Nat.zero_mul, Nat.zero_add]
    · rename_i h
      rw [decFrom_snoc, ih (n / 10) (by omega)]
      simp only [Option.bind_some, digit_val (n % 10) (by omega), Option.map_some, Option.some.injEq]
      omega
theorem digits_pos {t : List UInt8} {m : Nat} (hne : t ≠ []) (h0 : t.headD 0 ≠ 48) (h : Lib.decFrom 0 t = some m) : 1 ≤ m := by
  cases t with
  | nil => exact absurd rfl hne
  | cons c r =>
    simp only [Lib.decFrom] at h
    cases hc : Lib.digitVal c with
    | none => rw [hc] at h; cases h
    | some d =>
      rw [hc] at h
      have h1 := decFrom_ge r _ m h
      obtain ⟨h2, h3⟩ := digit_back hc
      have : d ≠ 0 := fun e => by subst e; exact h0 (by rw [List.headD_cons, ← h2]; rfl)
      omega
theorem digits_of (s : List UInt8) : ∀ n, Lib.decFrom 0 s = some n → s ≠ [] → (1 < s.length → s.headD 0 ≠ 48) → Lib.decDigits n = s := by
  generalize hk : s.length = k
  induction k using Nat.strongRecOn generalizing s with
  | ind k ih =>
    intro n h hne h0
    subst hk
    rcases List.eq_nil_or_concat s with rfl | ⟨t, b, rfl⟩
    · exact absurd rfl hne
    · rw [List.concat_eq_append] at *
      rw [decFrom_snoc] at h
      cases ht : Lib.decFrom 0 t with
      | none => rw [ht] at h; cases h
      | some m =>
        rw [ht] at h
        simp only [Option.bind_some] at h
        cases hb : Lib.digitVal b with
        | none => rw [hb] at h; cases h
        | some d =>
          rw [hb] at h
          simp only [Option.map_some, Option.some.injEq] at h
          obtain ⟨h1, h2⟩ := digit_back hb
          subst h
          rw [Lib.decDigits]
          by_cases hte : t = []
          · subst hte
            simp only [Lib.decFrom, Option.some.injEq] at ht
            subst ht
            rw [dif_pos (by omega)]
            simp [h1]
          · have hh : t.headD 0 ≠ 48 := by
              have := h0 (by rw [List.length_append, List.length_singleton]; have := List.length_pos_iff.2 hte; omega)
              cases t with
              | nil => exact absurd rfl hte
              | cons c r => simpa using this
            have hm := digits_pos hte hh ht
            rw [dif_neg (by omega), show (m * 10 + d) / 10 = m by omega, show (m * 10 + d) % 10 = d by omega, h1, ih t.length (by simp) t rfl m ht hte (fun _ => hh)]
theorem head_digits (n : Nat) : 1 ≤ n → (Lib.decDigits n).headD 0 ≠ 48 := by
  induction n using Nat.strongRecOn with
  | ind n ih =>
    intro h
    rw [Lib.decDigits]
    split
    · rename_i h10
      rw [List.headD_cons]
      intro e
      have := digit_val n h10
      rw [e] at this
      have h2 : Lib.digitVal 48 = some 0 := by decide
      rw [h2] at this
      simp only [Option.some.injEq] at this
      omega
    · have := ih (n / 10) (by omega) (by omega)
      have hne := decDigits_ne (n / 10)
      cases hd : Lib.decDigits (n / 10) with
      | nil => exact absurd hd hne
      | cons c r => rw [hd] at this; simpa using this
theorem nDigits_le : ∀ (k n : Nat), n < 10 ^ (k + 1) → Lib.nDigits n ≤ k + 1
  | 0, n, h => by rw [Lib.nDigits_small (by omega)]; omega
  | k + 1, n, h => by
    by_cases h10 : n < 10
    · rw [Lib.nDigits_small h10]; omega
    · rw [Lib.nDigits_big h10]
      have := nDigits_le k (n / 10) (by rw [Nat.pow_succ] at h; omega)
      omega
theorem num_digits {n : Nat} (h : n ≤ 999999) : numL (Lib.decDigits n) = some n := by
  have h6 : (Lib.decDigits n).length ≤ 6 := by rw [Lib.decDigits_length]; exact nDigits_le 5 n (by omega)
  unfold numL
  rw [if_neg, dec_digits]
  rintro (e | e | ⟨e1, e2⟩)
  · exact decDigits_ne n e
  · omega
  · rcases Nat.eq_zero_or_pos n with rfl | hp
    · rw [Lib.decDigits, dif_pos (by omega)] at e1; simp at e1
    · exact head_digits n hp e2
theorem num_le {s : List UInt8} {n : Nat} (h : numL s = some n) : n ≤ 999999 := by
  unfold numL at h
  split at h
  · cases h
  · rename_i hc
    have h1 := Lib.decFrom_lt s 0 n h
    have h2 : s.length ≤ 6 := by
      rcases Nat.lt_or_ge 6 s.length with h | h
      · exact absurd (.inr (.inl h)) hc
      · exact h
    have h3 : (10 : Nat) ^ s.length ≤ 10 ^ 6 := Nat.pow_le_pow_right (by omega) h2
    omega
theorem num_text {s : List UInt8} {n : Nat} (h : numL s = some n) : Lib.decDigits n = s := by
  unfold numL at h
  split at h
  · cases h
  · rename_i hc
    exact digits_of s n h (fun e => hc (.inl e)) (fun h1 e => hc (.inr (.inr ⟨h1, e⟩)))
theorem decNat_at {s : List UInt8} {n : Nat} (h : Lib.decFrom 0 s = some n) (hne : s ≠ []) : Lib.decNat s = some n := by
  unfold Lib.decNat
  rw [if_neg (by simpa using hne)]
  exact h
theorem atoi_digits {s : List UInt8} {n : Nat} (h : numL s = some n) : Lib.atoiAll s = .ok (n : Int) := by
  have hn := num_le h
  unfold numL at h
  split at h
  · cases h
  · rename_i hc
    cases s with
    | nil => exact absurd (.inl rfl) hc
    | cons c r =>
      have hl : (c :: r).length ≤ 6 := by
        rcases Nat.lt_or_ge 6 (c :: r).length with h | h
        · exact absurd (.inr (.inl h)) hc
        · exact h
      obtain ⟨d, hd⟩ := Lib.digit_of_decFrom (c :: r) 0 n h 0 c rfl
      obtain ⟨h1, h2, h3⟩ := Lib.digitVal_eq hd
      rw [Lib.atoiAll_plain c r (by omega) (by omega), Lib.signless_short (by omega), decNat_at h (by simp)]
      rfl
/-- How the program reads a number, and how the document does. -/
theorem num_iff (s : List UInt8) (n : Nat) : numL s = some n ↔ Lib.atoiAll s = .ok (n : Int) ∧ n ≤ 999999 ∧ Lib.itoa (n : Int) = s := by
  constructor
  · intro h
    exact ⟨atoi_digits h, num_le h, by rw [Lib.itoa_nonneg]; exact num_text h⟩
  · rintro ⟨h1, h2, h3⟩
    rw [Lib.itoa_nonneg] at h3
    rw [← h3]
    exact num_digits h2
end Shl
end Go.Proofs.YtojoeaaodomfnaaGreatDoor
