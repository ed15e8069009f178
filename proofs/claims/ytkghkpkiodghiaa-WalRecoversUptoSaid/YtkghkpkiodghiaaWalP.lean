/- A log's bytes, plainly. -/
import Derived.Test.YtkghkpkiodghiaaFrmP
namespace Go.Proofs.Ytkghkpkiodghiaa
set_option linter.unusedVariables false
set_option linter.unusedSimpArgs false
set_option linter.unnecessarySimpa false

/-- Records with their numbers ahead, from s on. -/
def bods : Nat → List (List UInt8) → List (List UInt8)
  | _, [] => []
  | s, r :: rs => (enc s ++ r) :: bods (s + 1) rs
theorem bods_length (rs : List (List UInt8)) : ∀ s, (bods s rs).length = rs.length := by
  induction rs with
  | nil => intro s; rfl
  | cons r rs ih => intro s; show (bods (s + 1) rs).length + 1 = _; rw [ih]; rfl
theorem bods_get (rs : List (List UInt8)) : ∀ s j, j < rs.length → (bods s rs).getD j [] = enc (s + j) ++ rs.getD j [] := by
  induction rs with
  | nil => intro s j h; simp at h
  | cons r rs ih =>
    intro s j h
    cases j with
    | zero => rfl
    | succ j =>
      show (bods (s + 1) rs).getD j [] = enc (s + (j + 1)) ++ rs.getD j []
      rw [ih (s + 1) j (by simpa using h), show s + 1 + j = s + (j + 1) by omega]
theorem bods_take (rs : List (List UInt8)) : ∀ s j, (bods s rs).take j = bods s (rs.take j) := by
  induction rs with
  | nil => intro s j; simp [bods]
  | cons r rs ih =>
    intro s j
    cases j with
    | zero => rfl
    | succ j => show (enc s ++ r) :: (bods (s + 1) rs).take j = _; rw [ih]; rfl
theorem bods_snoc (rs : List (List UInt8)) (r : List UInt8) : ∀ s, bods s (rs ++ [r]) = bods s rs ++ [enc (s + rs.length) ++ r] := by
  induction rs with
  | nil => intro s; rfl
  | cons x rs ih =>
    intro s
    show (enc s ++ x) :: bods (s + 1) (rs ++ [r]) = (enc s ++ x) :: bods (s + 1) rs ++ _
    rw [ih (s + 1)]
    simp [Nat.add_comm, Nat.add_left_comm]
theorem frames_app (a b : List (List UInt8)) : frames (a ++ b) = frames a ++ frames b := by unfold frames; rw [List.flatMap_append]
theorem log_snoc (rs : List (List UInt8)) (r : List UInt8) : frames (bods 0 (rs ++ [r])) = frames (bods 0 rs) ++ frameB (enc rs.length ++ r) := by
  rw [bods_snoc, frames_app]
  simp [frames]
/-- What is found in a log's bytes. -/
theorem log_scan (rs : List (List UInt8)) (h : ∀ r ∈ rs, r.length ≤ 1000000) (hn : rs.length ≤ 1000000) : scF ((frames (bods 0 rs)).length + 1) (frames (bods 0 rs)) = (bods 0 rs, (frames (bods 0 rs)).length, 0) := by
  refine scF_all _ (fun d hd => ?_)
  obtain ⟨j, hj, rfl⟩ := List.getElem_of_mem hd
  rw [bods_length] at hj
  have e := bods_get rs 0 j hj
  rw [List.getD, List.getElem?_eq_getElem (by rw [bods_length]; exact hj)] at e
  simp only [Option.getD_some] at e
  rw [e, List.length_append]
  have h1 := h (rs.getD j []) (by rw [List.getD, List.getElem?_eq_getElem hj]; exact List.getElem_mem hj)
  have h2 := enc_length (0 + j) (by omega)
  have h3 := nsize_le (0 + j)
  omega
theorem body_take (j : Nat) (r : List UInt8) (hj : j < 4611686018427387904) : tk (enc j ++ r) = (j, nsize j, 0) ∧ tkRest (enc j ++ r) = r := by
  have ht := tk_enc j hj r
  refine ⟨ht, ?_⟩
  unfold tkRest
  rw [ht]
  show (if (0 : Nat) = 0 then (enc j ++ r).drop (nsize j) else []) = r
  rw [if_pos rfl, List.drop_left' (enc_length j hj)]
/-- What a snapshot's bytes say: whether there is one, its bytes, its number, the error. -/
def snF (l : List UInt8) : Bool × List UInt8 × Nat × Nat :=
  if l.length = 0 then (false, [], 0, 0)
  else if (scF (l.length + 1) l).2.2 = 0 ∧ (scF (l.length + 1) l).1.length = 1 ∧ (tk ((scF (l.length + 1) l).1.getD 0 [])).2.2 = 0
    then (true, tkRest ((scF (l.length + 1) l).1.getD 0 []), (tk ((scF (l.length + 1) l).1.getD 0 [])).1, 0) else (false, [], 0, 4)
/-- How the records are read: how many bytes stay, which they are, the next number. -/
def recF (first : Nat) : List (List UInt8) → Nat → List (List UInt8) → Nat → Nat × List (List UInt8) × Nat
  | [], a, R, nx => (a, R, nx)
  | d :: ds, a, R, nx =>
    if (tk d).2.2 ≠ 0 then (a, R, nx)
    else if (tk d).1 < first ∧ R.length = 0 then recF first ds (a + (frameB d).length) R nx
    else if (tk d).1 = nx then recF first ds (a + (frameB d).length) (R ++ [tkRest d]) (nx + 1)
    else (a, R, nx)
/-- A log of records from 0 on is read as these. -/
theorem recF_bods (rs : List (List UInt8)) : ∀ (a : Nat) (R : List (List UInt8)), R.length + rs.length ≤ 1000000000 → recF 0 (bods R.length rs) a R R.length = (a + (frames (bods R.length rs)).length, R ++ rs, R.length + rs.length) := by
  induction rs with
  | nil => intro a R h; simp [bods, recF, frames]
  | cons r rs ih =>
    intro a R h
    simp only [List.length_cons] at h
    obtain ⟨h1, h2⟩ := body_take R.length r (by omega)
    have h3 := ih (a + (frameB (enc R.length ++ r)).length) (R ++ [r]) (by simp; omega)
    simp only [List.length_append, List.length_cons, List.length_nil, Nat.zero_add] at h3
    show recF 0 ((enc R.length ++ r) :: bods (R.length + 1) rs) a R R.length = _
    unfold recF
    rw [h1, h2]
    simp only [ne_eq, not_true_eq_false, if_false, Nat.not_lt_zero, false_and, if_true]
    rw [h3]
    show _ = (a + (frames ((enc R.length ++ r) :: bods (R.length + 1) rs)).length, R ++ (r :: rs), R.length + (rs.length + 1))
    have hf : (frames ((enc R.length ++ r) :: bods (R.length + 1) rs)).length = (frameB (enc R.length ++ r)).length + (frames (bods (R.length + 1) rs)).length := by simp [frames]
    rw [hf]
    simp only [Prod.mk.injEq, List.append_assoc, List.singleton_append, List.cons_append, List.nil_append, true_and]
    exact ⟨by omega, by omega⟩
theorem scF_le : ∀ (f : Nat) (l : List UInt8), ∀ d ∈ (scF f l).1, d.length ≤ 1048576 := by
  intro f
  induction f with
  | zero => intro l d hd; simp [scF] at hd
  | succ f ih =>
    intro l d hd
    unfold scF at hd
    split at hd
    · simp at hd
    · split at hd
      · simp at hd
      · rename_i h1 h2
        simp only [List.mem_cons] at hd
        rcases hd with rfl | hd
        · exact (tkF_facts l (by simpa using h2)).2.2
        · exact ih _ d hd
end Go.Proofs.Ytkghkpkiodghiaa
