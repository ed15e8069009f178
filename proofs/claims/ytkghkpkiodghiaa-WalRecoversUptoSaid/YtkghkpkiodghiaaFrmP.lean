/- Frames: plain laws of frames one behind the other, and of beginnings. -/
import Derived.Test.YtkghkpkiodghiaaFrm5
import Derived.Test.YtkghkpkiodghiaaPfxPlain
namespace Go.Proofs.Ytkghkpkiodghiaa
set_option linter.unusedVariables false
set_option linter.unusedSimpArgs false
set_option linter.unnecessarySimpa false

theorem beN_sumB (s : Nat) (hs : s < 4294967296) : beN (sumB s) = s := by
  simp only [beN, sumB, List.foldl, UInt8.toNat_ofNat']
  omega
theorem sumB_length (s : Nat) : (sumB s).length = 4 := rfl
theorem last4_app (f : List UInt8) (q : List UInt8) (hq : q.length = 4) : last4 (f ++ q) = beN q := by
  unfold last4
  rw [List.length_append, hq, Nat.add_sub_cancel, List.drop_left']
  rfl
theorem goodB_app (f : List UInt8) (q : List UInt8) (hq : q.length = 4) : goodB (f ++ q) = ((beN q : Int) == (onL 4294967295 f : Int)) := by
  unfold goodB
  rw [last4_app f q hq, List.length_append, hq, Nat.add_sub_cancel, List.take_left' rfl, decide_eq_true (by omega), Bool.true_and]
theorem frameB_good (d : List UInt8) : goodB (frameB d) = true := by
  unfold frameB
  rw [goodB_app _ _ rfl, beN_sumB _ (onL_lt _ (by omega) _), beq_self_eq_true]
theorem tkF_of {l : List UInt8} {n k : Nat} (ht : tk l = (n, k, 0)) (h1 : n ≤ 1048576) (h2 : n + 4 ≤ l.length - k) : tkF l = if goodB (l.take (k + n + 4)) = true then ((l.drop k).take n, k + n + 4, 0) else ([], 0, 50) := by
  unfold tkF; rw [ht, if_neg (by simp), if_neg (by show ¬ 1048576 < n; omega), if_neg (by show ¬ l.length - k < n + 4; omega)]
theorem frameB_eq (d : List UInt8) : frameB d = enc d.length ++ (d ++ sumB (onL 4294967295 (fB d))) := by unfold frameB fB; rw [List.append_assoc]
theorem tkF_put (d r : List UInt8) (hd : d.length ≤ 1048576) : tkF (frameB d ++ r) = (d, (frameB d).length, 0) := by
  have ht : tk (frameB d ++ r) = (d.length, nsize d.length, 0) := by
    rw [frameB_eq, List.append_assoc]; exact tk_enc _ (by omega) _
  have hl := frameB_length d hd
  have he := enc_length d.length (by omega)
  rw [tkF_of ht hd (by rw [List.length_append]; omega), ← hl, List.take_left' rfl, if_pos (frameB_good d), frameB_eq, List.append_assoc, List.drop_left' he, List.append_assoc, List.take_left' rfl, ← frameB_eq]
theorem tkF_cut (d : List UInt8) (hd : d.length ≤ 1048576) (j : Nat) (hj : j < (frameB d).length) : tkF ((frameB d).take j) = ([], 0, 3) := by
  have hl := frameB_length d hd
  have he := enc_length d.length (by omega)
  by_cases hjn : j < nsize d.length
  · have ht : tk ((frameB d).take j) = (0, 0, 3) := by
      rw [frameB_eq, List.take_append_of_le_length (by omega)]; exact tk_cut _ (by omega) j hjn
    unfold tkF; rw [ht]; rfl
  · have ht : tk ((frameB d).take j) = (d.length, nsize d.length, 0) := by
      rw [frameB_eq, List.take_append, List.take_of_length_le (by omega)]; exact tk_enc _ (by omega) _
    unfold tkF
    rw [ht, if_neg (by simp), if_neg (by show ¬ 1048576 < d.length; omega), if_pos (by show ((frameB d).take j).length - nsize d.length < d.length + 4; rw [List.length_take]; omega)]
theorem frames_cons (d : List UInt8) (Ls : List (List UInt8)) : frames (d :: Ls) = frameB d ++ frames Ls := by simp [frames]
theorem scF_succ (f : Nat) (l : List UInt8) : scF (f + 1) l = if l.length = 0 then ([], 0, 0) else if (tkF l).2.2 ≠ 0 then ([], 0, (tkF l).2.2) else ((tkF l).1 :: (scF f (l.drop (tkF l).2.1)).1, (tkF l).2.1 + (scF f (l.drop (tkF l).2.1)).2.1, (scF f (l.drop (tkF l).2.1)).2.2) := rfl
theorem scF_nilP (f : Nat) (l : List UInt8) (h : l.length = 0) : scF f l = ([], 0, 0) := by
  cases f with
  | zero => rfl
  | succ f => rw [scF_succ, if_pos h]
theorem scF_front (Ls : List (List UInt8)) (h : ∀ d ∈ Ls, d.length ≤ 1048576) (t : List UInt8) (f' : Nat) :
    scF (Ls.length + f') (frames Ls ++ t) = (Ls ++ (scF f' t).1, (frames Ls).length + (scF f' t).2.1, (scF f' t).2.2) := by
  induction Ls with
  | nil => simp [frames]
  | cons d Ls ih =>
    have hd := h d (by simp)
    have ht := tkF_put d (frames Ls ++ t) hd
    have hl := frameB_length d hd
    rw [List.length_cons, show Ls.length + 1 + f' = (Ls.length + f') + 1 by omega, scF_succ, frames_cons, List.append_assoc, ht, if_neg (by rw [List.length_append]; omega), if_neg (by simp), List.drop_left' rfl, ih (fun x hx => h x (by simp [hx]))]
    simp [Nat.add_assoc]
theorem frames_ge (Ls : List (List UInt8)) (h : ∀ d ∈ Ls, d.length ≤ 1048576) : 5 * Ls.length ≤ (frames Ls).length := by
  induction Ls with
  | nil => simp
  | cons d Ls ih =>
    have hl := frameB_length d (h d (by simp))
    have hn : 1 ≤ nsize d.length := by
      have := h d (by simp)
      unfold nsize; split <;> (try split) <;> (try split) <;> omega
    have := ih (fun x hx => h x (by simp [hx]))
    rw [frames_cons, List.length_append, List.length_cons]; omega
/-- Frames, and behind them bytes of which none are one. -/
theorem scF_stop (Ls : List (List UInt8)) (h : ∀ d ∈ Ls, d.length ≤ 1048576) (t : List UInt8) (e : Nat) (ht : (t = [] ∧ e = 0) ∨ (t ≠ [] ∧ (tkF t).2.2 = e ∧ e ≠ 0)) :
    scF ((frames Ls ++ t).length + 1) (frames Ls ++ t) = (Ls, (frames Ls).length, e) := by
  have hg := frames_ge Ls h
  have hf : (frames Ls ++ t).length + 1 = Ls.length + ((frames Ls ++ t).length - Ls.length + 1) := by rw [List.length_append]; omega
  have hs : scF ((frames Ls ++ t).length - Ls.length + 1) t = ([], 0, e) := by
    rcases ht with ⟨rfl, rfl⟩ | ⟨h1, h2, h3⟩
    · exact (scF_nilP _ _ rfl)
    · have h0 : t.length ≠ 0 := fun h => h1 (List.length_eq_zero_iff.mp h)
      rw [scF_succ, if_neg h0, if_pos (by omega), h2]
  rw [hf, scF_front Ls h, hs]; simp
theorem scF_all (Ls : List (List UInt8)) (h : ∀ d ∈ Ls, d.length ≤ 1048576) : scF ((frames Ls).length + 1) (frames Ls) = (Ls, (frames Ls).length, 0) := by
  have := scF_stop Ls h [] 0 (.inl ⟨rfl, rfl⟩)
  rwa [List.append_nil] at this
/-- A beginning of frames: whole ones, and a beginning of the next one. -/
theorem frames_cut (Ls : List (List UInt8)) : ∀ n, n ≤ (frames Ls).length → ∃ j i, j ≤ Ls.length ∧ (frames Ls).take n = frames (Ls.take j) ++ (frameB (Ls.getD j [])).take i ∧ n = (frames (Ls.take j)).length + i ∧ ((j = Ls.length ∧ i = 0) ∨ (j < Ls.length ∧ i < (frameB (Ls.getD j [])).length)) := by
  induction Ls with
  | nil => intro n hn; simp [frames] at hn; subst hn; exact ⟨0, 0, by simp, by simp [frames], by simp [frames], .inl ⟨by simp, rfl⟩⟩
  | cons d Ls ih =>
    intro n hn
    rw [frames_cons, List.length_append] at hn
    by_cases hlt : n < (frameB d).length
    · exact ⟨0, n, by simp, by rw [frames_cons, List.take_append_of_le_length (by omega)]; simp [frames], by simp [frames], .inr ⟨by simp, by simpa using hlt⟩⟩
    · obtain ⟨j, i, h1, h2, h3, h4⟩ := ih (n - (frameB d).length) (by omega)
      refine ⟨j + 1, i, by simpa using h1, ?_, ?_, ?_⟩
      · rw [frames_cons, List.take_append, List.take_of_length_le (by omega), h2, List.take_succ_cons, frames_cons, List.append_assoc]; simp
      · rw [List.take_succ_cons, frames_cons, List.length_append]; omega
      · simpa using h4
/-- What of a beginning is found. -/
theorem scF_cut (Ls : List (List UInt8)) (h : ∀ d ∈ Ls, d.length ≤ 1048576) (n : Nat) (hn : n ≤ (frames Ls).length) :
    ∃ j i, j ≤ Ls.length ∧ scF (((frames Ls).take n).length + 1) ((frames Ls).take n) = (Ls.take j, (frames (Ls.take j)).length, if i = 0 then 0 else 3) ∧ n = (frames (Ls.take j)).length + i ∧ ((j = Ls.length ∧ i = 0) ∨ (j < Ls.length ∧ i < (frameB (Ls.getD j [])).length)) := by
  obtain ⟨j, i, h1, h2, h3, h4⟩ := frames_cut Ls n hn
  refine ⟨j, i, h1, ?_, h3, h4⟩
  rw [h2]
  refine scF_stop _ (fun d hd => h d (List.mem_of_mem_take hd)) _ _ ?_
  by_cases hi : i = 0
  · subst hi; exact .inl ⟨by simp, by simp⟩
  · rcases h4 with ⟨_, h⟩ | ⟨hj, hi2⟩
    · exact absurd h hi
    · have hdl : (Ls.getD j []).length ≤ 1048576 := by rw [List.getD, List.getElem?_eq_getElem hj]; exact h _ (List.getElem_mem hj)
      refine .inr ⟨?_, ?_, by rw [if_neg hi]; decide⟩
      · intro hc
        have := congrArg List.length hc
        rw [List.length_take, List.length_nil] at this; omega
      · rw [tkF_cut _ hdl i hi2, if_neg hi]
end Go.Proofs.Ytkghkpkiodghiaa
