/- Package shell, plainly: events, what a line is, and what an event is written as. Of no program. -/
import Derived.Test.YtojoeaaodomfnaaGreatDoorShlP
namespace Go.Proofs.YtojoeaaodomfnaaGreatDoor
set_option linter.unusedVariables false
set_option linter.unusedSimpArgs false
set_option linter.unnecessarySimpa false
open Go.Lib
namespace Shl

/-- An event's parts that a line has. -/
structure Ev where
  kind : Int
  a : Int
  b : Int
  ck : Int
  subj : List UInt8
  text : List UInt8
  n : Int
  deriving DecidableEq
/-- A verb: its name, its event's kind, its command's, what words follow. -/
structure Verb where
  name : List UInt8
  kind : Int
  cmd : Int
  pat : List UInt8
  deriving DecidableEq
/-- register, policy, delete, export, pause, resume, reset, tick, deliver, drop, double, link, crash, start, arm. -/
def verbs : List Verb := [
  ⟨[114, 101, 103, 105, 115, 116, 101, 114], 0, 0, [114, 115, 116]⟩,
  ⟨[112, 111, 108, 105, 99, 121], 0, 1, [114, 115, 112]⟩,
  ⟨[100, 101, 108, 101, 116, 101], 0, 2, [114, 115, 110]⟩,
  ⟨[101, 120, 112, 111, 114, 116], 0, 3, [114, 115]⟩,
  ⟨[112, 97, 117, 115, 101], 0, 4, [114, 110]⟩,
  ⟨[114, 101, 115, 117, 109, 101], 0, 5, [114, 110]⟩,
  ⟨[114, 101, 115, 101, 116], 0, 6, [114, 110]⟩,
  ⟨[116, 105, 99, 107], 1, 0, [114]⟩,
  ⟨[100, 101, 108, 105, 118, 101, 114], 2, 0, [114]⟩,
  ⟨[100, 114, 111, 112], 3, 0, [114]⟩,
  ⟨[100, 111, 117, 98, 108, 101], 4, 0, [114]⟩,
  ⟨[108, 105, 110, 107], 5, 0, [114, 98]⟩,
  ⟨[99, 114, 97, 115, 104], 6, 0, [114, 98]⟩,
  ⟨[115, 116, 97, 114, 116], 7, 0, [114]⟩,
  ⟨[97, 114, 109], 8, 0, [114, 98]⟩]
theorem verbs_length : verbs.length = 15 := rfl
/-- The policies' names. -/
def pols : List (List UInt8) := [
  [110, 111, 110, 101], [98, 97, 99, 107, 119, 97, 114, 100], [102, 111, 114, 119, 97, 114, 100], [102, 117, 108, 108],
  [98, 97, 99, 107, 119, 97, 114, 100, 45, 97, 108, 108], [102, 111, 114, 119, 97, 114, 100, 45, 97, 108, 108], [102, 117, 108, 108, 45, 97, 108, 108]]
/-- A policy's name; '?', if it is none. -/
def polName (p : Int) : List UInt8 := if 0 ≤ p ∧ p < 7 then pols.getD p.toNat [] else [63]
/-- A policy's number. -/
def placeL (s : List UInt8) : Option Nat := (List.range 7).find? fun p => pols.getD p [] == s
theorem place_some {s : List UInt8} {p : Nat} (h : placeL s = some p) : p < 7 ∧ pols.getD p [] = s := by
  unfold placeL at h
  have h1 := List.find?_some h
  have h2 := List.mem_of_find?_eq_some h
  exact ⟨List.mem_range.1 h2, by simpa using h1⟩
theorem polName_place {s : List UInt8} {p : Nat} (h : placeL s = some p) : polName (p : Int) = s := by
  obtain ⟨h1, h2⟩ := place_some h
  unfold polName
  rw [if_pos ⟨by omega, by omega⟩]
  simpa using h2

/-- A word where it belongs. -/
def setE (c : UInt8) (s : List UInt8) (e : Ev) : Option Ev :=
  if c = 114 then (numL s).map fun (n : Nat) => { e with a := (n : Int) }
  else if c = 98 then (numL s).map fun (n : Nat) => { e with b := (n : Int) }
  else if c = 110 then (numL s).map fun (n : Nat) => { e with n := (n : Int) }
  else if c = 112 then (placeL s).map fun (n : Nat) => { e with n := (n : Int) }
  else if c = 115 then some { e with subj := s }
  else some { e with text := s }
theorem setE_r (s : List UInt8) (e : Ev) : setE 114 s e = (numL s).map fun (n : Nat) => { e with a := (n : Int) } := rfl
theorem setE_b (s : List UInt8) (e : Ev) : setE 98 s e = (numL s).map fun (n : Nat) => { e with b := (n : Int) } := rfl
theorem setE_n (s : List UInt8) (e : Ev) : setE 110 s e = (numL s).map fun (n : Nat) => { e with n := (n : Int) } := rfl
theorem setE_p (s : List UInt8) (e : Ev) : setE 112 s e = (placeL s).map fun (n : Nat) => { e with n := (n : Int) } := rfl
theorem setE_s (s : List UInt8) (e : Ev) : setE 115 s e = some { e with subj := s } := rfl
theorem setE_t (s : List UInt8) (e : Ev) : setE 116 s e = some { e with text := s } := rfl
def setAll : List UInt8 → List (List UInt8) → Ev → Option Ev
  | c :: cs, w :: ws, e => (setE c w e).bind (setAll cs ws)
  | _, _, e => some e
/-- What is left is one word, where a text stands last. -/
def fitW (v : Verb) (w : List (List UInt8)) : List (List UInt8) :=
  if v.pat.getLast? = some 116 ∧ v.pat.length < w.length then w.take (v.pat.length - 1) ++ [joinL (w.drop (v.pat.length - 1))] else w
def ev0 (v : Verb) : Ev := ⟨v.kind, 0, 0, v.cmd, [], [], 0⟩
/-- What words are, behind a verb: an event, or why none. -/
def fin (v : Verb) (w : List (List UInt8)) : Nat ⊕ Ev :=
  if (fitW v w).length < v.pat.length then .inl 3
  else if v.pat.length < (fitW v w).length then .inl 2
  else match setAll v.pat (fitW v w) (ev0 v) with
    | none => .inl 4
    | some e => .inr e
/-- What a line is. -/
def parseL (s : List UInt8) : Nat ⊕ Ev :=
  match verbs.find? fun v => v.name == (wordsL s).headD [] with
  | none => .inl 5
  | some v => fin v ((wordsL s).drop 1)

/-- What stands for a letter. -/
def wordOf (e : Ev) (c : UInt8) : List UInt8 :=
  if c = 114 then Lib.itoa e.a
  else if c = 98 then Lib.itoa e.b
  else if c = 110 then Lib.itoa e.n
  else if c = 112 then polName e.n
  else if c = 115 then e.subj
  else e.text
/-- A verb's line of an event. -/
def lineOf (v : Verb) (e : Ev) : List UInt8 := joinL (v.name :: v.pat.map (wordOf e))
/-- Whether a verb is an event's. -/
def isOf (v : Verb) (e : Ev) : Bool := decide (v.kind = e.kind) && (!decide (v.kind = 0) || decide (v.cmd = e.ck))
theorem isOf_one {e : Ev} {v u : Verb} (hv : v ∈ verbs) (hu : u ∈ verbs) (h1 : isOf v e = true) (h2 : isOf u e = true) : v = u := by
  have key : ∀ v ∈ verbs, ∀ u ∈ verbs, v.kind = u.kind → (v.kind = 0 → v.cmd = u.cmd) → v = u := by decide
  simp only [isOf, Bool.and_eq_true, decide_eq_true_eq, Bool.or_eq_true, Bool.not_eq_true', decide_eq_false_iff_not] at h1 h2
  refine key v hv u hu (h1.1.trans h2.1.symm) (fun h0 => ?_)
  have a1 := h1.2.resolve_left (fun h => h h0)
  have a2 := h2.2.resolve_left (fun h => h (by rw [h2.1, ← h1.1]; exact h0))
  exact a1.trans a2.symm

theorem numL_itoa {s : List UInt8} {n : Nat} (h : numL s = some n) : Lib.itoa (n : Int) = s := ((num_iff s n).1 h).2.2
def pats : List (List UInt8) := [[114, 115, 116], [114, 115, 112], [114, 115, 110], [114, 115], [114, 110], [114], [114, 98]]
theorem pats_of {v : Verb} (hv : v ∈ verbs) : v.pat ∈ pats := by
  have : ∀ v ∈ verbs, v.pat ∈ pats := by decide
  exact this v hv
theorem map_some {α β : Type} {o : Option α} {f : α → β} {y : β} (h : o.map f = some y) : ∃ x, o = some x ∧ f x = y := by
  cases o with
  | none => cases h
  | some x => exact ⟨x, rfl, by simpa using h⟩
theorem set_pat (P : List UInt8) (hP : P ∈ pats) (w : List (List UInt8)) (hl : w.length = P.length) (e0 e : Ev) (h : setAll P w e0 = some e) :
    P.map (wordOf e) = w ∧ e.kind = e0.kind ∧ e.ck = e0.ck := by
  simp only [pats, List.mem_cons, List.not_mem_nil, or_false] at hP
  rcases hP with rfl | rfl | rfl | rfl | rfl | rfl | rfl
  · rcases w with _ | ⟨x, _ | ⟨y, _ | ⟨z, _ | ⟨u, w⟩⟩⟩⟩ <;> simp at hl
    simp only [setAll, setE_r, setE_b, setE_n, setE_p, setE_s, setE_t] at h
    obtain ⟨e1, h1, h⟩ := Option.bind_eq_some_iff.1 h
    obtain ⟨k, hk, rfl⟩ := map_some h1
    simp only [Option.bind_some, Option.some.injEq] at h
    subst h
    simp [wordOf, numL_itoa hk]
  · rcases w with _ | ⟨x, _ | ⟨y, _ | ⟨z, _ | ⟨u, w⟩⟩⟩⟩ <;> simp at hl
    simp only [setAll, setE_r, setE_b, setE_n, setE_p, setE_s, setE_t] at h
    obtain ⟨e1, h1, h⟩ := Option.bind_eq_some_iff.1 h
    obtain ⟨k, hk, rfl⟩ := map_some h1
    simp only [Option.bind_some] at h
    obtain ⟨e2, h2, h⟩ := Option.bind_eq_some_iff.1 h
    obtain ⟨m, hm, rfl⟩ := map_some h2
    simp only [Option.some.injEq] at h
    subst h
    simp [wordOf, numL_itoa hk, polName_place hm]
  · rcases w with _ | ⟨x, _ | ⟨y, _ | ⟨z, _ | ⟨u, w⟩⟩⟩⟩ <;> simp at hl
    simp only [setAll, setE_r, setE_b, setE_n, setE_p, setE_s, setE_t] at h
    obtain ⟨e1, h1, h⟩ := Option.bind_eq_some_iff.1 h
    obtain ⟨k, hk, rfl⟩ := map_some h1
    simp only [Option.bind_some] at h
    obtain ⟨e2, h2, h⟩ := Option.bind_eq_some_iff.1 h
    obtain ⟨m, hm, rfl⟩ := map_some h2
    simp only [Option.some.injEq] at h
    subst h
    simp [wordOf, numL_itoa hk, numL_itoa hm]
  · rcases w with _ | ⟨x, _ | ⟨y, _ | ⟨u, w⟩⟩⟩ <;> simp at hl
    simp only [setAll, setE_r, setE_b, setE_n, setE_p, setE_s, setE_t] at h
    obtain ⟨e1, h1, h⟩ := Option.bind_eq_some_iff.1 h
    obtain ⟨k, hk, rfl⟩ := map_some h1
    simp only [Option.bind_some, Option.some.injEq] at h
    subst h
    simp [wordOf, numL_itoa hk]
  · rcases w with _ | ⟨x, _ | ⟨y, _ | ⟨u, w⟩⟩⟩ <;> simp at hl
    simp only [setAll, setE_r, setE_b, setE_n, setE_p, setE_s, setE_t] at h
    obtain ⟨e1, h1, h⟩ := Option.bind_eq_some_iff.1 h
    obtain ⟨k, hk, rfl⟩ := map_some h1
    obtain ⟨e2, h2, h⟩ := Option.bind_eq_some_iff.1 h
    obtain ⟨m, hm, rfl⟩ := map_some h2
    simp only [Option.some.injEq] at h
    subst h
    simp [wordOf, numL_itoa hk, numL_itoa hm]
  · rcases w with _ | ⟨x, _ | ⟨u, w⟩⟩ <;> simp at hl
    simp only [setAll, setE_r, setE_b, setE_n, setE_p, setE_s, setE_t] at h
    obtain ⟨e1, h1, h⟩ := Option.bind_eq_some_iff.1 h
    obtain ⟨k, hk, rfl⟩ := map_some h1
    simp only [Option.some.injEq] at h
    subst h
    simp [wordOf, numL_itoa hk]
  · rcases w with _ | ⟨x, _ | ⟨y, _ | ⟨u, w⟩⟩⟩ <;> simp at hl
    simp only [setAll, setE_r, setE_b, setE_n, setE_p, setE_s, setE_t] at h
    obtain ⟨e1, h1, h⟩ := Option.bind_eq_some_iff.1 h
    obtain ⟨k, hk, rfl⟩ := map_some h1
    obtain ⟨e2, h2, h⟩ := Option.bind_eq_some_iff.1 h
    obtain ⟨m, hm, rfl⟩ := map_some h2
    simp only [Option.some.injEq] at h
    subst h
    simp [wordOf, numL_itoa hk, numL_itoa hm]
/-- Words that are put are those that the event is written with. -/
theorem set_words (v : Verb) (hv : v ∈ verbs) (w : List (List UInt8)) (hl : w.length = v.pat.length) (e : Ev) (h : setAll v.pat w (ev0 v) = some e) :
    v.pat.map (wordOf e) = w ∧ isOf v e = true := by
  obtain ⟨h1, h2, h3⟩ := set_pat v.pat (pats_of hv) w hl (ev0 v) e h
  refine ⟨h1, ?_⟩
  simp [isOf, h2, h3, ev0]
theorem join_app : ∀ (a b : List (List UInt8)), b ≠ [] → joinL (a ++ [joinL b]) = joinL (a ++ b)
  | [], b, h => rfl
  | x :: a, b, h => by
    rw [List.cons_append, List.cons_append, joinL_cons x (by simp), joinL_cons x (by simp [h]), join_app a b h]
/-- The words behind a verb that are fitted are, put together, the line. -/
theorem fit_join (v : Verb) (x : List UInt8) (w : List (List UInt8)) : joinL (x :: fitW v w) = joinL (x :: w) := by
  unfold fitW
  split
  · rename_i h
    have hd : w.drop (v.pat.length - 1) ≠ [] := by
      intro e
      have := congrArg List.length e
      rw [List.length_drop, List.length_nil] at this
      omega
    have := join_app (x :: w.take (v.pat.length - 1)) (w.drop (v.pat.length - 1)) hd
    rw [List.cons_append, List.cons_append, List.take_append_drop] at this
    exact this
  · rfl
theorem words_head_tail (s : List UInt8) : wordsL s = (wordsL s).headD [] :: (wordsL s).drop 1 := by
  cases h : wordsL s with
  | nil => exact absurd h (wordsL_ne s)
  | cons w ws => rfl
/-- An event that a line is, is written as that line. -/
theorem line_back {s : List UInt8} {e : Ev} (h : parseL s = .inr e) : ∃ v ∈ verbs, isOf v e = true ∧ lineOf v e = s := by
  unfold parseL at h
  cases hf : verbs.find? (fun v => v.name == (wordsL s).headD []) with
  | none => rw [hf] at h; cases h
  | some v =>
    rw [hf] at h
    have hv := List.mem_of_find?_eq_some hf
    have hn : v.name = (wordsL s).headD [] := by simpa using List.find?_some hf
    simp only [fin] at h
    split at h
    · cases h
    · split at h
      · cases h
      · split at h
        · cases h
        · rename_i h1 h2 e' he
          simp only [Sum.inr.injEq] at h
          subst h
          obtain ⟨h3, h4⟩ := set_words v hv _ (by omega) _ he
          refine ⟨v, hv, h4, ?_⟩
          unfold lineOf
          rw [h3, fit_join, hn, ← words_head_tail, join_words]
/-! ### as the document reads a line -/
/-- What is behind so many blanks. -/
def afterL : List UInt8 → Nat → List UInt8
  | [], _ => []
  | c :: r, b => if c = 32 then (if b = 1 then r else afterL r (b - 1)) else afterL r b
theorem after_words : ∀ (s : List UInt8) (k : Nat), afterL s (k + 1) = joinL ((wordsL s).drop (k + 1))
  | [], k => by simp [afterL, wordsL, joinL]
  | c :: r, k => by
    by_cases h : c = 32
    · subst h
      rw [words_blank, List.drop_succ_cons]
      simp only [afterL, if_true]
      cases k with
      | zero => simp [join_words]
      | succ k => rw [if_neg (by omega), Nat.add_sub_cancel, after_words r k]
    · obtain ⟨w, ws, h1, h2⟩ := words_byte h r
      rw [h2, List.drop_succ_cons]
      simp only [afterL, if_neg h]
      rw [after_words r k, h1, List.drop_succ_cons]
/-- The names by their numbers in the document: one of them is none. -/
def dnames : List (List UInt8) := (verbs.take 7).map (·.name) ++ [[]] ++ (verbs.drop 7).map (·.name)
end Shl
end Go.Proofs.YtojoeaaodomfnaaGreatDoor
