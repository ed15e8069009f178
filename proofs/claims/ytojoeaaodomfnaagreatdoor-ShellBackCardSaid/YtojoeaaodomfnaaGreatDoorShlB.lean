/- Package shell, plainly: how great a parsed event's parts are. Of no program. -/
import Derived.Test.YtojoeaaodomfnaaGreatDoorShlL
namespace Go.Proofs.YtojoeaaodomfnaaGreatDoor
set_option linter.unusedVariables false
set_option linter.unusedSimpArgs false
set_option linter.unnecessarySimpa false
open Go.Lib
namespace Shl
def Small (M : Nat) (e : Ev) : Prop := (0 ≤ e.a ∧ e.a ≤ 999999) ∧ (0 ≤ e.b ∧ e.b ≤ 999999) ∧ (0 ≤ e.n ∧ e.n ≤ 999999) ∧ e.subj.length ≤ M ∧ e.text.length ≤ M
theorem place_le {s : List UInt8} {n : Nat} (h : placeL s = some n) : n ≤ 999999 := by have := (place_some h).1; omega
theorem setE_small {M : Nat} {c : UInt8} {w : List UInt8} {e x : Ev} (h : setE c w e = some x) (hw : w.length ≤ M) (he : Small M e) : Small M x := by
  obtain ⟨h1, h2, h3, h4, h5⟩ := he
  unfold setE at h
  split at h
  · obtain ⟨n, hn, rfl⟩ := map_some h
    have := num_le hn
    exact ⟨⟨by show (0 : Int) ≤ (n : Int); omega, by show (n : Int) ≤ 999999; omega⟩, h2, h3, h4, h5⟩
  · split at h
    · obtain ⟨n, hn, rfl⟩ := map_some h
      have := num_le hn
      exact ⟨h1, ⟨by show (0 : Int) ≤ (n : Int); omega, by show (n : Int) ≤ 999999; omega⟩, h3, h4, h5⟩
    · split at h
      · obtain ⟨n, hn, rfl⟩ := map_some h
        have := num_le hn
        exact ⟨h1, h2, ⟨by show (0 : Int) ≤ (n : Int); omega, by show (n : Int) ≤ 999999; omega⟩, h4, h5⟩
      · split at h
        · obtain ⟨n, hn, rfl⟩ := map_some h
          have := place_le hn
          exact ⟨h1, h2, ⟨by show (0 : Int) ≤ (n : Int); omega, by show (n : Int) ≤ 999999; omega⟩, h4, h5⟩
        · split at h
          · simp only [Option.some.injEq] at h
            subst h
            exact ⟨h1, h2, h3, hw, h5⟩
          · simp only [Option.some.injEq] at h
            subst h
            exact ⟨h1, h2, h3, h4, hw⟩
theorem setAll_small {M : Nat} : ∀ (P : List UInt8) (w : List (List UInt8)) (e x : Ev), setAll P w e = some x → (∀ y ∈ w, y.length ≤ M) → Small M e → Small M x
  | [], w, e, x, h, _, he => by
    simp only [setAll, Option.some.injEq] at h
    subst h; exact he
  | c :: cs, [], e, x, h, _, he => by
    simp only [setAll, Option.some.injEq] at h
    subst h; exact he
  | c :: cs, y :: ws, e, x, h, hw, he => by
    simp only [setAll] at h
    obtain ⟨e1, h1, h2⟩ := Option.bind_eq_some_iff.1 h
    exact setAll_small cs ws e1 x h2 (fun z hz => hw z (List.mem_cons_of_mem _ hz)) (setE_small h1 (hw y (List.mem_cons_self ..)) he)
theorem word_len : ∀ (l : List (List UInt8)) (w : List UInt8), w ∈ l → w.length ≤ (joinL l).length
  | [], w, h => by cases h
  | [u], w, h => by
    rw [List.mem_singleton] at h
    subst h; exact Nat.le_refl _
  | u :: v :: r, w, h => by
    rw [joinL_cons u (by simp), List.length_append, List.length_cons]
    rcases List.mem_cons.1 h with rfl | h
    · omega
    · have := word_len (v :: r) w h
      omega
theorem tail_len : ∀ (k : Nat) (l : List (List UInt8)), (joinL (l.drop k)).length ≤ (joinL l).length
  | 0, l => Nat.le_refl _
  | k + 1, [] => Nat.le_refl _
  | k + 1, [u] => by simp [joinL]
  | k + 1, u :: v :: r => by
    rw [List.drop_succ_cons, joinL_cons u (by simp), List.length_append, List.length_cons]
    have := tail_len k (v :: r)
    omega
/-- A parsed event's parts are no longer than the line. -/
theorem parse_small {s : List UInt8} {e : Ev} (h : parseL s = .inr e) : Small s.length e := by
  unfold parseL at h
  cases hf : verbs.find? (fun v => v.name == (wordsL s).headD []) with
  | none => rw [hf] at h; cases h
  | some v =>
    rw [hf] at h
    simp only [fin] at h
    split at h
    · cases h
    · split at h
      · cases h
      · split at h
        · cases h
        · rename_i h1 h2 e' he
          simp only [Sum.inr.injEq] at h
          subst h
          have hj : (joinL ((wordsL s).drop 1)).length ≤ s.length := by have := tail_len 1 (wordsL s); rwa [join_words] at this
          refine setAll_small _ _ _ _ he ?_ ⟨⟨Int.le_refl _, by show (0 : Int) ≤ 999999; omega⟩, ⟨Int.le_refl _, by show (0 : Int) ≤ 999999; omega⟩, ⟨Int.le_refl _, by show (0 : Int) ≤ 999999; omega⟩, Nat.zero_le _, Nat.zero_le _⟩
          intro y hy
          unfold fitW at hy
          split at hy
          · rcases List.mem_append.1 hy with hy | hy
            · exact Nat.le_trans (word_len _ y (List.mem_of_mem_take hy)) hj
            · rw [List.mem_singleton] at hy
              subst hy
              exact Nat.le_trans (tail_len _ _) hj
          · exact Nat.le_trans (word_len _ y hy) hj
end Shl
end Go.Proofs.YtojoeaaodomfnaaGreatDoor
