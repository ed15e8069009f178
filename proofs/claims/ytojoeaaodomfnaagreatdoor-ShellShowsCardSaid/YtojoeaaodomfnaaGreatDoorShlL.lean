/- Package shell, plainly: how long a verb's line is; which verb an event has. Of no program. -/
import Derived.Test.YtojoeaaodomfnaaGreatDoorShlE
import Derived.Lib.ItoaLen
namespace Go.Proofs.YtojoeaaodomfnaaGreatDoor
set_option linter.unusedVariables false
set_option linter.unusedSimpArgs false
set_option linter.unnecessarySimpa false
open Go.Lib
namespace Shl
theorem joinL_len (M : Nat) : ∀ l : List (List UInt8), (∀ w ∈ l, w.length ≤ M) → (joinL l).length ≤ l.length * (M + 1)
  | [], _ => by simp [joinL]
  | [w], h => by
    have := h w (by simp)
    simp [joinL]; omega
  | w :: u :: ws, h => by
    have h1 := h w (by simp)
    have h2 := joinL_len M (u :: ws) (fun x hx => h x (List.mem_cons_of_mem _ hx))
    rw [joinL_cons w (by simp), List.length_append, List.length_cons, List.length_cons, Nat.succ_mul]
    omega
theorem polName_len (p : Int) : (polName p).length ≤ 100 := by
  unfold polName
  split
  · have key : ∀ k, k < 7 → (pols.getD k []).length ≤ 100 := by decide
    exact key _ (by omega)
  · decide
theorem wordOf_len (e : Ev) (ha : -9223372036854775808 ≤ e.a ∧ e.a ≤ 9223372036854775807) (hb : -9223372036854775808 ≤ e.b ∧ e.b ≤ 9223372036854775807) (hn : -9223372036854775808 ≤ e.n ∧ e.n ≤ 9223372036854775807)
    (hsz : e.subj.length + e.text.length ≤ 1000000) (c : UInt8) : (wordOf e c).length ≤ 1000100 := by
  unfold wordOf
  have h1 := itoa_length_le e.a ha.1 ha.2
  have h2 := itoa_length_le e.b hb.1 hb.2
  have h3 := itoa_length_le e.n hn.1 hn.2
  have h4 := polName_len e.n
  split
  · omega
  · split
    · omega
    · split
      · omega
      · split
        · omega
        · split <;> omega
theorem lineOf_len (e : Ev) (ha : -9223372036854775808 ≤ e.a ∧ e.a ≤ 9223372036854775807) (hb : -9223372036854775808 ≤ e.b ∧ e.b ≤ 9223372036854775807) (hn : -9223372036854775808 ≤ e.n ∧ e.n ≤ 9223372036854775807)
    (hsz : e.subj.length + e.text.length ≤ 1000000) (v : Verb) (hv : v ∈ verbs) : (lineOf v e).length ≤ 4000404 := by
  have h1 : v.name.length ≤ 8 := (show ∀ v ∈ verbs, v.name.length ≤ 8 by decide) v hv
  have h2 : v.pat.length ≤ 3 := (show ∀ v ∈ verbs, v.pat.length ≤ 3 by decide) v hv
  have h := joinL_len 1000100 (v.name :: v.pat.map (wordOf e)) (fun w hw => by
    rcases List.mem_cons.1 hw with rfl | hw
    · omega
    · obtain ⟨c, -, rfl⟩ := List.mem_map.1 hw
      exact wordOf_len e ha hb hn hsz c)
  rw [List.length_cons, List.length_map] at h
  unfold lineOf
  have : (v.pat.length + 1) * (1000100 + 1) ≤ 4 * 1000101 := Nat.mul_le_mul_right _ (by omega)
  omega
theorem verb_mem {j : Nat} (h : j < 15) (d : Verb) : verbs.getD j d ∈ verbs := by
  have hl : j < verbs.length := h
  rw [List.getD_eq_getElem?_getD, List.getElem?_eq_getElem hl]
  exact List.getElem_mem hl
theorem verbs_each (p : Verb → Bool) (d : Verb) (h : ∀ k, k < 15 → p (verbs.getD k d) = false) : verbs.find? p = none := by
  rw [List.find?_eq_none]
  intro v hv
  obtain ⟨k, hk, rfl⟩ := List.getElem_of_mem hv
  have := h k hk
  rw [List.getD_eq_getElem?_getD, List.getElem?_eq_getElem hk] at this
  simpa using this
theorem verbs_one (p : Verb → Bool) (d : Verb) (j : Nat) (hj : j < 15) (h : ∀ k, k < j → p (verbs.getD k d) = false) (hp : p (verbs.getD j d) = true) : verbs.find? p = some (verbs.getD j d) := by
  have hl : j < verbs.length := hj
  rw [List.find?_eq_some_iff_getElem]
  refine ⟨hp, j, hl, ?_, ?_⟩
  · rw [List.getD_eq_getElem?_getD, List.getElem?_eq_getElem hl]; rfl
  · intro k hk
    have := h k hk
    rw [List.getD_eq_getElem?_getD, List.getElem?_eq_getElem (by omega)] at this
    simpa using this
end Shl
end Go.Proofs.YtojoeaaodomfnaaGreatDoor
