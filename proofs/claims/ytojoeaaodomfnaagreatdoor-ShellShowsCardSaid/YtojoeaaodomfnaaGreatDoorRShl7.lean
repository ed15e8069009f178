/- ref28.Parse as a whole. (printed by gen/rshl7.py) -/
import Derived.Test.YtojoeaaodomfnaaGreatDoorRShl3
import Derived.Test.YtojoeaaodomfnaaGreatDoorRShl4
import Derived.Test.YtojoeaaodomfnaaGreatDoorRShl5
import Derived.Test.YtojoeaaodomfnaaGreatDoorRShl6
namespace Go.Proofs.YtojoeaaodomfnaaGreatDoor
set_option linter.unusedVariables false
set_option linter.unusedSimpArgs false
set_option linter.unnecessarySimpa false
open Go.RowKit
set_option maxRecDepth 100000
set_option maxHeartbeats 4000000

theorem fin_short (v : Shl.Verb) (T : List (List UInt8)) (h : T.length < v.pat.length) : Shl.fin v T = .inl 3 := by
  have hf : Shl.fitW v T = T := by unfold Shl.fitW; rw [if_neg (by omega)]
  unfold Shl.fin
  rw [hf, if_pos h]
theorem fin_long (v : Shl.Verb) (T : List (List UInt8)) (h : v.pat.length < T.length) (hl : v.pat.getLast? ≠ some 116) : Shl.fin v T = .inl 2 := by
  have hf : Shl.fitW v T = T := by unfold Shl.fitW; rw [if_neg (fun q => hl q.1)]
  unfold Shl.fin
  rw [hf, if_neg (by omega), if_pos h]
theorem one_of {T : List (List UInt8)} (h : T.length = 1) : ∃ x1, T = [x1] := match T, h with | [x1], _ => ⟨x1, rfl⟩
theorem two_of {T : List (List UInt8)} (h : T.length = 2) : ∃ x1 x2, T = [x1, x2] := match T, h with | [x1, x2], _ => ⟨x1, x2, rfl⟩
theorem three_of {T : List (List UInt8)} (h : T.length = 3) : ∃ x1 x2 x3, T = [x1, x2, x3] := match T, h with | [x1, x2, x3], _ => ⟨x1, x2, x3, rfl⟩
theorem more_of {T : List (List UInt8)} (h : 3 ≤ T.length) : ∃ x1 x2 x3 r, T = x1 :: x2 :: x3 :: r := match T, h with
  | x1 :: x2 :: x3 :: r, _ => ⟨x1, x2, x3, r, rfl⟩
  | [_, _], h => absurd h (by simp)
  | [_], h => absurd h (by simp)
  | [], h => absurd h (by simp)
theorem at_dn (j : Nat) (hj : j < 15) : atL Shl.dnames (verbs_nm j) = (if j < 7 then (j : Int) else (j : Int) + 1) := by
  have key : ∀ j, j < 15 → atL Shl.dnames (verbs_nm j) = (if j < 7 then (j : Int) else (j : Int) + 1) := by decide
  exact key j hj
theorem rparse_any (s : ByteArray) (hs : s.size < 4294967281) (w : World) :
    Calls Tryz.prog 10 #[.string s] w fun e w' => e = .returned (rparseV (Shl.parseL s.data.toList)) ∧ Below w.heap.size w w' := by
  have hlen : (Shl.wordsL s.data.toList).length = (wordsB s).length := by simp [wordsB]
  have hwl := wordsB_pos s
  have hdl : ((Shl.wordsL s.data.toList).drop 1).length = (wordsB s).length - 1 := by rw [List.length_drop, hlen]
  by_cases hx : ∃ j, j < 15 ∧ verbs_nm j = (Shl.wordsL s.data.toList).headD []
  · obtain ⟨j, hj, hn⟩ := hx
    have hi := at_dn j hj
    rw [hn] at hi
    have hpl := Shl.parse_at hj hn
    match j, hj with
    | 0, _ =>
      have hi : atL Shl.dnames ((Shl.wordsL s.data.toList).headD []) = 0 := hi
      by_cases h1 : (wordsB s).length < 4
      · rw [hpl, fin_short _ _ (show _ < 3 by omega)]
        exact rparse_short0 s hs w hi h1
      · obtain ⟨x1, x2, x3, r, hT⟩ := more_of (show 3 ≤ ((Shl.wordsL s.data.toList).drop 1).length by omega)
        exact rparse_ok0 s hs w hi x1 x2 x3 r hT hn
    | 1, _ =>
      have hi : atL Shl.dnames ((Shl.wordsL s.data.toList).headD []) = 1 := hi
      by_cases h1 : (wordsB s).length < 4
      · rw [hpl, fin_short _ _ (show _ < 3 by omega)]
        exact rparse_short1 s hs w hi h1
      · by_cases h2 : 4 < (wordsB s).length
        · rw [hpl, fin_long _ _ (show 3 < _ by omega) (by decide)]
          exact rparse_long1 s hs w hi h2
        · obtain ⟨x1, x2, x3, hT⟩ := three_of (show ((Shl.wordsL s.data.toList).drop 1).length = 3 by omega)
          exact rparse_ok1 s hs w hi x1 x2 x3 hT hn
    | 2, _ =>
      have hi : atL Shl.dnames ((Shl.wordsL s.data.toList).headD []) = 2 := hi
      by_cases h1 : (wordsB s).length < 4
      · rw [hpl, fin_short _ _ (show _ < 3 by omega)]
        exact rparse_short2 s hs w hi h1
      · by_cases h2 : 4 < (wordsB s).length
        · rw [hpl, fin_long _ _ (show 3 < _ by omega) (by decide)]
          exact rparse_long2 s hs w hi h2
        · obtain ⟨x1, x2, x3, hT⟩ := three_of (show ((Shl.wordsL s.data.toList).drop 1).length = 3 by omega)
          exact rparse_ok2 s hs w hi x1 x2 x3 hT hn
    | 3, _ =>
      have hi : atL Shl.dnames ((Shl.wordsL s.data.toList).headD []) = 3 := hi
      by_cases h1 : (wordsB s).length < 3
      · rw [hpl, fin_short _ _ (show _ < 2 by omega)]
        exact rparse_short3 s hs w hi h1
      · by_cases h2 : 3 < (wordsB s).length
        · rw [hpl, fin_long _ _ (show 2 < _ by omega) (by decide)]
          exact rparse_long3 s hs w hi h2
        · obtain ⟨x1, x2, hT⟩ := two_of (show ((Shl.wordsL s.data.toList).drop 1).length = 2 by omega)
          exact rparse_ok3 s hs w hi x1 x2 hT hn
    | 4, _ =>
      have hi : atL Shl.dnames ((Shl.wordsL s.data.toList).headD []) = 4 := hi
      by_cases h1 : (wordsB s).length < 3
      · rw [hpl, fin_short _ _ (show _ < 2 by omega)]
        exact rparse_short4 s hs w hi h1
      · by_cases h2 : 3 < (wordsB s).length
        · rw [hpl, fin_long _ _ (show 2 < _ by omega) (by decide)]
          exact rparse_long4 s hs w hi h2
        · obtain ⟨x1, x2, hT⟩ := two_of (show ((Shl.wordsL s.data.toList).drop 1).length = 2 by omega)
          exact rparse_ok4 s hs w hi x1 x2 hT hn
    | 5, _ =>
      have hi : atL Shl.dnames ((Shl.wordsL s.data.toList).headD []) = 5 := hi
      by_cases h1 : (wordsB s).length < 3
      · rw [hpl, fin_short _ _ (show _ < 2 by omega)]
        exact rparse_short5 s hs w hi h1
      · by_cases h2 : 3 < (wordsB s).length
        · rw [hpl, fin_long _ _ (show 2 < _ by omega) (by decide)]
          exact rparse_long5 s hs w hi h2
        · obtain ⟨x1, x2, hT⟩ := two_of (show ((Shl.wordsL s.data.toList).drop 1).length = 2 by omega)
          exact rparse_ok5 s hs w hi x1 x2 hT hn
    | 6, _ =>
      have hi : atL Shl.dnames ((Shl.wordsL s.data.toList).headD []) = 6 := hi
      by_cases h1 : (wordsB s).length < 3
      · rw [hpl, fin_short _ _ (show _ < 2 by omega)]
        exact rparse_short6 s hs w hi h1
      · by_cases h2 : 3 < (wordsB s).length
        · rw [hpl, fin_long _ _ (show 2 < _ by omega) (by decide)]
          exact rparse_long6 s hs w hi h2
        · obtain ⟨x1, x2, hT⟩ := two_of (show ((Shl.wordsL s.data.toList).drop 1).length = 2 by omega)
          exact rparse_ok6 s hs w hi x1 x2 hT hn
    | 7, _ =>
      have hi : atL Shl.dnames ((Shl.wordsL s.data.toList).headD []) = 8 := hi
      by_cases h1 : (wordsB s).length < 2
      · rw [hpl, fin_short _ _ (show _ < 1 by omega)]
        exact rparse_short7 s hs w hi h1
      · by_cases h2 : 2 < (wordsB s).length
        · rw [hpl, fin_long _ _ (show 1 < _ by omega) (by decide)]
          exact rparse_long7 s hs w hi h2
        · obtain ⟨x1, hT⟩ := one_of (show ((Shl.wordsL s.data.toList).drop 1).length = 1 by omega)
          exact rparse_ok7 s hs w hi x1 hT hn
    | 8, _ =>
      have hi : atL Shl.dnames ((Shl.wordsL s.data.toList).headD []) = 9 := hi
      by_cases h1 : (wordsB s).length < 2
      · rw [hpl, fin_short _ _ (show _ < 1 by omega)]
        exact rparse_short8 s hs w hi h1
      · by_cases h2 : 2 < (wordsB s).length
        · rw [hpl, fin_long _ _ (show 1 < _ by omega) (by decide)]
          exact rparse_long8 s hs w hi h2
        · obtain ⟨x1, hT⟩ := one_of (show ((Shl.wordsL s.data.toList).drop 1).length = 1 by omega)
          exact rparse_ok8 s hs w hi x1 hT hn
    | 9, _ =>
      have hi : atL Shl.dnames ((Shl.wordsL s.data.toList).headD []) = 10 := hi
      by_cases h1 : (wordsB s).length < 2
      · rw [hpl, fin_short _ _ (show _ < 1 by omega)]
        exact rparse_short9 s hs w hi h1
      · by_cases h2 : 2 < (wordsB s).length
        · rw [hpl, fin_long _ _ (show 1 < _ by omega) (by decide)]
          exact rparse_long9 s hs w hi h2
        · obtain ⟨x1, hT⟩ := one_of (show ((Shl.wordsL s.data.toList).drop 1).length = 1 by omega)
          exact rparse_ok9 s hs w hi x1 hT hn
    | 10, _ =>
      have hi : atL Shl.dnames ((Shl.wordsL s.data.toList).headD []) = 11 := hi
      by_cases h1 : (wordsB s).length < 2
      · rw [hpl, fin_short _ _ (show _ < 1 by omega)]
        exact rparse_short10 s hs w hi h1
      · by_cases h2 : 2 < (wordsB s).length
        · rw [hpl, fin_long _ _ (show 1 < _ by omega) (by decide)]
          exact rparse_long10 s hs w hi h2
        · obtain ⟨x1, hT⟩ := one_of (show ((Shl.wordsL s.data.toList).drop 1).length = 1 by omega)
          exact rparse_ok10 s hs w hi x1 hT hn
    | 11, _ =>
      have hi : atL Shl.dnames ((Shl.wordsL s.data.toList).headD []) = 12 := hi
      by_cases h1 : (wordsB s).length < 3
      · rw [hpl, fin_short _ _ (show _ < 2 by omega)]
        exact rparse_short11 s hs w hi h1
      · by_cases h2 : 3 < (wordsB s).length
        · rw [hpl, fin_long _ _ (show 2 < _ by omega) (by decide)]
          exact rparse_long11 s hs w hi h2
        · obtain ⟨x1, x2, hT⟩ := two_of (show ((Shl.wordsL s.data.toList).drop 1).length = 2 by omega)
          exact rparse_ok11 s hs w hi x1 x2 hT hn
    | 12, _ =>
      have hi : atL Shl.dnames ((Shl.wordsL s.data.toList).headD []) = 13 := hi
      by_cases h1 : (wordsB s).length < 3
      · rw [hpl, fin_short _ _ (show _ < 2 by omega)]
        exact rparse_short12 s hs w hi h1
      · by_cases h2 : 3 < (wordsB s).length
        · rw [hpl, fin_long _ _ (show 2 < _ by omega) (by decide)]
          exact rparse_long12 s hs w hi h2
        · obtain ⟨x1, x2, hT⟩ := two_of (show ((Shl.wordsL s.data.toList).drop 1).length = 2 by omega)
          exact rparse_ok12 s hs w hi x1 x2 hT hn
    | 13, _ =>
      have hi : atL Shl.dnames ((Shl.wordsL s.data.toList).headD []) = 14 := hi
      by_cases h1 : (wordsB s).length < 2
      · rw [hpl, fin_short _ _ (show _ < 1 by omega)]
        exact rparse_short13 s hs w hi h1
      · by_cases h2 : 2 < (wordsB s).length
        · rw [hpl, fin_long _ _ (show 1 < _ by omega) (by decide)]
          exact rparse_long13 s hs w hi h2
        · obtain ⟨x1, hT⟩ := one_of (show ((Shl.wordsL s.data.toList).drop 1).length = 1 by omega)
          exact rparse_ok13 s hs w hi x1 hT hn
    | 14, _ =>
      have hi : atL Shl.dnames ((Shl.wordsL s.data.toList).headD []) = 15 := hi
      by_cases h1 : (wordsB s).length < 3
      · rw [hpl, fin_short _ _ (show _ < 2 by omega)]
        exact rparse_short14 s hs w hi h1
      · by_cases h2 : 3 < (wordsB s).length
        · rw [hpl, fin_long _ _ (show 2 < _ by omega) (by decide)]
          exact rparse_long14 s hs w hi h2
        · obtain ⟨x1, x2, hT⟩ := two_of (show ((Shl.wordsL s.data.toList).drop 1).length = 2 by omega)
          exact rparse_ok14 s hs w hi x1 x2 hT hn
  · have hk : ∀ k, k < 15 → verbs_nm k ≠ (Shl.wordsL s.data.toList).headD [] := fun k h1 h2 => hx ⟨k, h1, h2⟩
    rw [Shl.parse_none hk]
    by_cases he : (Shl.wordsL s.data.toList).headD [] = []
    · exact rparse_bad s hs w 7 (.inr rfl) (by rw [he]; decide)
    · refine rparse_bad s hs w (-1) (.inl rfl) (atL_none _ _ (fun k hk16 => ?_))
      have hk16' : k < 16 := hk16
      have key : ∀ k, k < 16 → Shl.dnames.getD k [] = [] ∨ ∃ j, j < 15 ∧ Shl.dnames.getD k [] = verbs_nm j := by decide
      rcases key k hk16' with h | ⟨j, hj, h⟩
      · rw [h]; exact fun e => he e.symm
      · rw [h]; exact hk j hj
end Go.Proofs.YtojoeaaodomfnaaGreatDoor
