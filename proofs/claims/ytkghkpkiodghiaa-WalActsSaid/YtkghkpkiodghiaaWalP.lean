/- Frames: plain laws of frames one behind the other, and of beginnings. -/
import Derived.Test.YtkghkpkiodghiaaFrm4
import Derived.Test.YtkghkpkiodghiaaPfxPlain
namespace Go.Proofs.Ytkghkpkiodghiaa
set_option linter.unusedVariables false
set_option linter.unusedSimpArgs false
set_option linter.unnecessarySimpa false

theorem beN_sumB (s : Nat) (hs : s < 4294967296) : beN (sumB s) = s := by
 simp only [beN, sumB, List.foldl, UInt8.toNat_ofNat']
 omega
theorem last4_app (f : List UInt8) (q : List UInt8) (hq : q.length = 4) : last4 (f ++ q) = beN q := by
 unfold last4
 rw [List.length_append, hq, Nat.add_sub_cancel, List.drop_left']
 rfl
theorem goodB_app (f : List UInt8) (q : List UInt8) (hq : q.length = 4) : goodB (f ++ q) = ((beN q : Int) == (onL 4294967295 f : Int)) := by
 unfold goodB
 rw [last4_app f q hq, List.length_append, hq, Nat.add_sub_cancel, List.take_left' rfl, decide_eq_true (by omega), Bool.true_and]
theorem frameB_good (d : List UInt8) : goodB (frameB d) = true := by
 unfold frameB
 rw [goodB_app _ _ rfl, beN_sumB _ (onL_lt _ (by omega) _), beq_self_eq_true]
theorem tkF_of {l : List UInt8} {n k : Nat} (ht : tk l = (n, k, 0)) (h1 : n ≤ 1048576) (h2 : n + 4 ≤ l.length - k) : tkF l = if goodB (l.take (k + n + 4)) = true then ((l.drop k).take n, k + n + 4, 0) else ([], 0, 50) := by
 unfold tkF; rw [ht, if_neg (by simp), if_neg (by show ¬ 1048576 < n; omega), if_neg (by show ¬ l.length - k < n + 4; omega)]
theorem frameB_eq (d : List UInt8) : frameB d = enc d.length ++ (d ++ sumB (onL 4294967295 (fB d))) := by unfold frameB fB; rw [List.append_assoc]
theorem tkF_put (d r : List UInt8) (hd : d.length ≤ 1048576) : tkF (frameB d ++ r) = (d, (frameB d).length, 0) := by
 have ht : tk (frameB d ++ r) = (d.length, nsize d.length, 0) := by
  rw [frameB_eq, List.append_assoc]; exact tk_enc _ (by omega) _
 have hl := frameB_length d hd
 have he := enc_length d.length (by omega)
 rw [tkF_of ht hd (by rw [List.length_append]; omega), ← hl, List.take_left' rfl, if_pos (frameB_good d), frameB_eq, List.append_assoc, List.drop_left' he, List.append_assoc, List.take_left' rfl, ← frameB_eq]
theorem frames_cons (d : List UInt8) (Ls : List (List UInt8)) : frames (d :: Ls) = frameB d ++ frames Ls := by simp [frames]
theorem scF_succ (f : Nat) (l : List UInt8) : scF (f + 1) l = if l.length = 0 then ([], 0, 0) else if (tkF l).2.2 ≠ 0 then ([], 0, (tkF l).2.2) else ((tkF l).1 :: (scF f (l.drop (tkF l).2.1)).1, (tkF l).2.1 + (scF f (l.drop (tkF l).2.1)).2.1, (scF f (l.drop (tkF l).2.1)).2.2) := rfl
theorem scF_nilP (f : Nat) (l : List UInt8) (h : l.length = 0) : scF f l = ([], 0, 0) := by
 cases f with
 | zero => rfl
 | succ f => rw [scF_succ, if_pos h]
theorem scF_front (Ls : List (List UInt8)) (h : ∀ d ∈ Ls, d.length ≤ 1048576) (t : List UInt8) (f' : Nat) :
  scF (Ls.length + f') (frames Ls ++ t) = (Ls ++ (scF f' t).1, (frames Ls).length + (scF f' t).2.1, (scF f' t).2.2) := by
 induction Ls with
 | nil => simp [frames]
 | cons d Ls ih =>
  have hd := h d (by simp)
  have ht := tkF_put d (frames Ls ++ t) hd
  have hl := frameB_length d hd
  rw [List.length_cons, show Ls.length + 1 + f' = (Ls.length + f') + 1 by omega, scF_succ, frames_cons, List.append_assoc, ht, if_neg (by rw [List.length_append]; omega), if_neg (by simp), List.drop_left' rfl, ih (fun x hx => h x (by simp [hx]))]
  simp [Nat.add_assoc]
theorem frames_ge (Ls : List (List UInt8)) (h : ∀ d ∈ Ls, d.length ≤ 1048576) : 5 * Ls.length ≤ (frames Ls).length := by
 induction Ls with
 | nil => simp
 | cons d Ls ih =>
  have hl := frameB_length d (h d (by simp))
  have hn : 1 ≤ nsize d.length := by
   have := h d (by simp)
   unfold nsize; split <;> (try split) <;> (try split) <;> omega
  have := ih (fun x hx => h x (by simp [hx]))
  rw [frames_cons, List.length_append, List.length_cons]; omega
/-- Frames, and behind them bytes of which none are one. -/
theorem scF_stop (Ls : List (List UInt8)) (h : ∀ d ∈ Ls, d.length ≤ 1048576) (t : List UInt8) (e : Nat) (ht : (t = [] ∧ e = 0) ∨ (t ≠ [] ∧ (tkF t).2.2 = e ∧ e ≠ 0)) :
  scF ((frames Ls ++ t).length + 1) (frames Ls ++ t) = (Ls, (frames Ls).length, e) := by
 have hg := frames_ge Ls h
 have hf : (frames Ls ++ t).length + 1 = Ls.length + ((frames Ls ++ t).length - Ls.length + 1) := by rw [List.length_append]; omega
 have hs : scF ((frames Ls ++ t).length - Ls.length + 1) t = ([], 0, e) := by
  rcases ht with ⟨rfl, rfl⟩ | ⟨h1, h2, h3⟩
  ·exact (scF_nilP _ _ rfl)
  ·have h0 : t.length ≠ 0 := fun h => h1 (List.length_eq_zero_iff.mp h)
   rw [scF_succ, if_neg h0, if_pos (by omega), h2]
 rw [hf, scF_front Ls h, hs]; simp
theorem scF_all (Ls : List (List UInt8)) (h : ∀ d ∈ Ls, d.length ≤ 1048576) : scF ((frames Ls).length + 1) (frames Ls) = (Ls, (frames Ls).length, 0) := by
 have := scF_stop Ls h [] 0 (.inl ⟨rfl, rfl⟩)
 rwa [List.append_nil] at this
end Go.Proofs.Ytkghkpkiodghiaa
namespace Go.Proofs.Ytkghkpkiodghiaa
set_option linter.unusedVariables false
set_option linter.unusedSimpArgs false
set_option linter.unnecessarySimpa false

/-- Records with their numbers ahead, from s on. -/
def bods : Nat → List (List UInt8) → List (List UInt8)
 | _, [] => []
 | s, r :: rs => (enc s ++ r) :: bods (s + 1) rs
theorem bods_length (rs : List (List UInt8)) : ∀ s, (bods s rs).length = rs.length := by
 induction rs with
 | nil => intro s; rfl
 | cons r rs ih => intro s; show (bods (s + 1) rs).length + 1 = _; rw [ih]; rfl
theorem bods_get (rs : List (List UInt8)) : ∀ s j, j < rs.length → (bods s rs).getD j [] = enc (s + j) ++ rs.getD j [] := by
 induction rs with
 | nil => intro s j h; simp at h
 | cons r rs ih =>
  intro s j h
  cases j with
  | zero => rfl
  | succ j =>
   show (bods (s + 1) rs).getD j [] = enc (s + (j + 1)) ++ rs.getD j []
   rw [ih (s + 1) j (by simpa using h), show s + 1 + j = s + (j + 1) by omega]
theorem bods_snoc (rs : List (List UInt8)) (r : List UInt8) : ∀ s, bods s (rs ++ [r]) = bods s rs ++ [enc (s + rs.length) ++ r] := by
 induction rs with
 | nil => intro s; rfl
 | cons x rs ih =>
  intro s
  show (enc s ++ x) :: bods (s + 1) (rs ++ [r]) = (enc s ++ x) :: bods (s + 1) rs ++ _
  rw [ih (s + 1)]
  simp [Nat.add_comm, Nat.add_left_comm]
theorem frames_app (a b : List (List UInt8)) : frames (a ++ b) = frames a ++ frames b := by unfold frames; rw [List.flatMap_append]
theorem log_snoc (rs : List (List UInt8)) (r : List UInt8) : frames (bods 0 (rs ++ [r])) = frames (bods 0 rs) ++ frameB (enc rs.length ++ r) := by
 rw [bods_snoc, frames_app]
 simp [frames]
/-- What is found in a log's bytes. -/
theorem log_scan (rs : List (List UInt8)) (h : ∀ r ∈ rs, r.length ≤ 1000000) (hn : rs.length ≤ 1000000) : scF ((frames (bods 0 rs)).length + 1) (frames (bods 0 rs)) = (bods 0 rs, (frames (bods 0 rs)).length, 0) := by
 refine scF_all _ (fun d hd => ?_)
 obtain ⟨j, hj, rfl⟩ := List.getElem_of_mem hd
 rw [bods_length] at hj
 have e := bods_get rs 0 j hj
 rw [List.getD, List.getElem?_eq_getElem (by rw [bods_length]; exact hj)] at e
 simp only [Option.getD_some] at e
 rw [e, List.length_append]
 have h1 := h (rs.getD j []) (by rw [List.getD, List.getElem?_eq_getElem hj]; exact List.getElem_mem hj)
 have h2 := enc_length (0 + j) (by omega)
 have h3 := nsize_le (0 + j)
 omega
theorem body_take (j : Nat) (r : List UInt8) (hj : j < 4611686018427387904) : tk (enc j ++ r) = (j, nsize j, 0) ∧ tkRest (enc j ++ r) = r := by
 have ht := tk_enc j hj r
 refine ⟨ht, ?_⟩
 unfold tkRest
 rw [ht]
 show (if (0 : Nat) = 0 then (enc j ++ r).drop (nsize j) else []) = r
 rw [if_pos rfl, List.drop_left' (enc_length j hj)]
/-- What a snapshot's bytes say: whether there is one, its bytes, its number, the error. -/
def snF (l : List UInt8) : Bool × List UInt8 × Nat × Nat :=
 if l.length = 0 then (false, [], 0, 0)
 else if (scF (l.length + 1) l).2.2 = 0 ∧ (scF (l.length + 1) l).1.length = 1 ∧ (tk ((scF (l.length + 1) l).1.getD 0 [])).2.2 = 0
  then (true, tkRest ((scF (l.length + 1) l).1.getD 0 []), (tk ((scF (l.length + 1) l).1.getD 0 [])).1, 0) else (false, [], 0, 4)
/-- How the records are read: how many bytes stay, which they are, the next number. -/
def recF (first : Nat) : List (List UInt8) → Nat → List (List UInt8) → Nat → Nat × List (List UInt8) × Nat
 | [], a, R, nx => (a, R, nx)
 | d :: ds, a, R, nx =>
  if (tk d).2.2 ≠ 0 then (a, R, nx)
  else if (tk d).1 < first ∧ R.length = 0 then recF first ds (a + (frameB d).length) R nx
  else if (tk d).1 = nx then recF first ds (a + (frameB d).length) (R ++ [tkRest d]) (nx + 1)
  else (a, R, nx)
/-- A log of records from 0 on is read as these. -/
theorem recF_bods (rs : List (List UInt8)) : ∀ (a : Nat) (R : List (List UInt8)), R.length + rs.length ≤ 1000000000 → recF 0 (bods R.length rs) a R R.length = (a + (frames (bods R.length rs)).length, R ++ rs, R.length + rs.length) := by
 induction rs with
 | nil => intro a R h; simp [bods, recF, frames]
 | cons r rs ih =>
  intro a R h
  simp only [List.length_cons] at h
  obtain ⟨h1, h2⟩ := body_take R.length r (by omega)
  have h3 := ih (a + (frameB (enc R.length ++ r)).length) (R ++ [r]) (by simp; omega)
  simp only [List.length_append, List.length_cons, List.length_nil, Nat.zero_add] at h3
  show recF 0 ((enc R.length ++ r) :: bods (R.length + 1) rs) a R R.length = _
  unfold recF
  rw [h1, h2]
  simp only [ne_eq, not_true_eq_false, if_false, Nat.not_lt_zero, false_and, if_true]
  rw [h3]
  show _ = (a + (frames ((enc R.length ++ r) :: bods (R.length + 1) rs)).length, R ++ (r :: rs), R.length + (rs.length + 1))
  have hf : (frames ((enc R.length ++ r) :: bods (R.length + 1) rs)).length = (frameB (enc R.length ++ r)).length + (frames (bods (R.length + 1) rs)).length := by simp [frames]
  rw [hf]
  simp only [Prod.mk.injEq, List.append_assoc, List.singleton_append, List.cons_append, List.nil_append, true_and]
  exact ⟨by omega, by omega⟩
theorem scF_le : ∀ (f : Nat) (l : List UInt8), ∀ d ∈ (scF f l).1, d.length ≤ 1048576 := by
 intro f
 induction f with
 | zero => intro l d hd; simp [scF] at hd
 | succ f ih =>
  intro l d hd
  unfold scF at hd
  split at hd
  ·simp at hd
  ·split at hd
   ·simp at hd
   ·rename_i h1 h2
    simp only [List.mem_cons] at hd
    rcases hd with rfl | hd
    ·exact (tkF_facts l (by simpa using h2)).2.2
    ·exact ih _ d hd
end Go.Proofs.Ytkghkpkiodghiaa
