/- ref28: Words, at, Number, after. (printed by gen/rshl1.py) -/
import Derived.Test.YtojoeaaodomfnaaGreatDoorShl4
namespace Go.Proofs.YtojoeaaodomfnaaGreatDoor
set_option linter.unusedVariables false
set_option linter.unusedSimpArgs false
set_option linter.unnecessarySimpa false
open Go.RowKit
set_option maxRecDepth 100000
set_option maxHeartbeats 4000000

theorem info_string : (Tryz.prog.info? 9).map (fun i => (i.zero, i.size, i.bytes)) = some (some (.string ByteArray.empty), 1, 16) := by kernel_rfl
theorem extract_bs (s : ByteArray) (a b : Nat) : s.extract a b = bs ((s.data.toList.drop a).take (b - a)) := Lib.extract_eq s a b
def WordsQ (s : ByteArray) (w : World) (e : Ending) (w' : World) : Prop := ∃ v, e = .returned v ∧ Own1 w' w.heap.size 9 v (strs (wordsB s)) ∧ Below w.heap.size w w'
/-- How far the words of a line are told. -/
def Told (L : List UInt8) (i fr : Nat) (D : List (List UInt8)) : Prop :=
  (i ≤ L.length ∧ fr ≤ i ∧ Shl.wordsL L = D ++ Shl.wordsL (L.drop fr) ∧ (32 : UInt8) ∉ (L.drop fr).take (i - fr)) ∨ (i = L.length + 1 ∧ Shl.wordsL L = D)
theorem words_cntR : ∀ s : List UInt8, (Shl.wordsL s).length ≤ s.length + 1
  | [] => by simp [Shl.wordsL]
  | c :: r => by
    have ih := words_cntR r
    by_cases h : c = 32
    · subst h; rw [Shl.words_blank]; simp; omega
    · obtain ⟨x, ws, h1, h2⟩ := Shl.words_byte h r
      rw [h2]
      rw [h1] at ih
      simp at ih ⊢; omega
theorem told_len {L : List UInt8} {i fr : Nat} {D : List (List UInt8)} (h : Told L i fr D) : D.length ≤ L.length + 1 := by
  have hc := words_cntR L
  rcases h with ⟨-, -, h, -⟩ | ⟨-, h⟩
  · rw [h] at hc; simp at hc; omega
  · rw [← h]; exact hc
theorem told_end {L : List UInt8} {fr : Nat} {D : List (List UInt8)} (h : Told L L.length fr D) : Told L (L.length + 1) (L.length + 1) (D ++ [(L.drop fr).take (L.length - fr)]) := by
  rcases h with ⟨-, h2, h3, h4⟩ | ⟨h1, -⟩
  · refine .inr ⟨rfl, ?_⟩
    have e : (L.drop fr).take (L.length - fr) = L.drop fr := List.take_of_length_le (by simp)
    rw [e] at h4 ⊢
    rw [h3, Shl.words_word h4]
  · omega
theorem told_blank {L : List UInt8} {i fr : Nat} {D : List (List UInt8)} (h : Told L i fr D) (hi : i < L.length) (hb : L.getD i 0 = 32) : Told L (i + 1) (i + 1) (D ++ [(L.drop fr).take (i - fr)]) := by
  rcases h with ⟨-, h2, h3, h4⟩ | ⟨h1, -⟩
  · refine .inl ⟨hi, Nat.le_refl _, ?_, by simp⟩
    have e : L.drop fr = (L.drop fr).take (i - fr) ++ 32 :: L.drop (i + 1) := by
      have h5 := (List.take_append_drop (i - fr) (L.drop fr)).symm
      rw [List.drop_drop, show fr + (i - fr) = i by omega, List.drop_eq_getElem_cons hi] at h5
      have h6 : L[i] = 32 := by simpa [List.getD, hi] using hb
      rw [h6] at h5
      exact h5
    rw [h3]
    conv => lhs; rw [e, Shl.words_app h4]
    simp
  · omega
theorem told_byte {L : List UInt8} {i fr : Nat} {D : List (List UInt8)} (h : Told L i fr D) (hi : i < L.length) (hb : L.getD i 0 ≠ 32) : Told L (i + 1) fr D := by
  rcases h with ⟨-, h2, h3, h4⟩ | ⟨h1, -⟩
  · refine .inl ⟨hi, by omega, h3, ?_⟩
    have h5 : i - fr < (L.drop fr).length := by simp; omega
    rw [show i + 1 - fr = (i - fr) + 1 by omega, List.take_succ_eq_append_getElem h5]
    simp only [List.mem_append, List.mem_singleton, not_or]
    refine ⟨h4, fun e => hb ?_⟩
    rw [List.getElem_drop] at e
    simp only [show fr + (i - fr) = i by omega] at e
    simp [List.getD, hi, e]
  · omega
theorem rwords_any (s : ByteArray) (hs : s.size < 4294967281) (w : World) : Calls Tryz.prog 13 #[.string s] w (WordsQ s w) := by
  go_enter Tryz.func13, Tryz.ntmps13
  go_wp2_with fail
  have OL := Lib.hid (Own1.lit w 9 [])
  have BL : Hid (Below w.heap.size w (w.alloc (.cells #[] 9))) := balloc (Below.refl _ _) _
  have hL : s.data.toList.length = s.size := rfl
  go_loopw [3, 4, 5] (fun ov fv iv wr => ∃ (i fr : Nat) (D : List (List UInt8)), iv = .int .i64 i ∧ fv = .int .i64 fr ∧ i ≤ s.size + 1 ∧ Told s.data.toList i fr D ∧ Own1 wr w.heap.size 9 ov (strs (D.map bs)) ∧ Below w.heap.size w wr) (fun _ _ iv _ => s.size + 1 - (intOf iv).toNat)
  case atStart => exact ⟨0, 0, [], rfl, rfl, by omega, .inl ⟨by omega, Nat.le_refl _, rfl, by simp⟩, OL.out, BL.out⟩
  case round =>
    obtain ⟨i, fr, D, rfl, rfl, hi, ht, ho, hb⟩ := hrel
    clear OL BL
    have HT := Lib.hid ht
    have OR := Lib.hid ho
    have BR := Lib.hid hb
    have hwr := hb.size
    have hdl := told_len ht
    have hfr : i ≤ s.size → fr ≤ i := fun h => by
      rcases ht with ⟨-, h2, -, -⟩ | ⟨h1, -⟩
      · exact h2
      · omega
    have hsl : (strs (D.map bs)).length = D.length := by rw [strs_length]; simp
    clear ht ho hb
    by_cases hlt : i < s.size
    · have hltI : (i : Int) < (s.size : Int) := by omega
      have hleI : (i : Int) ≤ (s.size : Int) := by omega
      have hneI : ((i : Int) == (s.size : Int)) = false := by rw [beq_eq_false_iff_ne]; omega
      have hneN : (i == s.size) = false := by rw [beq_eq_false_iff_ne]; omega
      have hfi := hfr (by omega)
      have hfiI : (fr : Int) ≤ (i : Int) := by omega
      by_cases hbl : s.data.toList.getD i 0 = 32
      · have hq : ((((s[i]'hlt).toNat : Nat) : Int) == 32) = true := by
          have : s[i]'hlt = 32 := by rw [← hbl]; exact (Lib.getD_at s i hlt)
          rw [this]; rfl
        have HBL := Lib.hid hbl
        clear hbl
        go_wp2_with (at_builtin; refine app_one (base := w.heap.size) (l := strs (D.map bs)) (m := [.string (s.extract fr i)]) Tryz.underlying43 info_string rfl rfl (.tmp 23) (.tmp 28) rfl rfl (Own1.alloc OR.out _) rfl ((Own1.lit wr 9 [.string (s.extract fr i)]).shows) (by intro q hq; simp at hq; subst hq; rfl) (by rw [hsl]; simp; omega) (by rw [hsl]; simp; omega) (by simp; omega) ?_; intro v9 w9 ho9 hb9; have O9 := Lib.hid ho9; have B9 := Lib.hid (BR.out.trans ((balloc (Below.refl _ wr) _).mono hwr |>.trans hb9)); clear ho9 hb9)
        refine ⟨⟨i + 1, i + 1, _, by go_num, by go_num, by omega, told_blank HT.out (by rw [hL]; exact hlt) HBL.out, ?_, B9.out⟩, by simp [intOf] <;> omega⟩
        have h9 := O9.out
        rw [extract_bs] at h9
        rw [List.map_append, strs_append]
        exact h9
      · have hq : ((((s[i]'hlt).toNat : Nat) : Int) == 32) = false := by
          rw [beq_eq_false_iff_ne]
          intro h
          refine hbl ?_
          rw [← Lib.getD_at s i hlt]
          exact UInt8.toNat_inj.1 (by show _ = 32; omega)
        have HBL := Lib.hid hbl
        clear hbl
        go_wp2_with fail
        exact ⟨⟨i + 1, fr, D, by go_num, rfl, by omega, told_byte HT.out (by rw [hL]; exact hlt) HBL.out, OR.out, BR.out⟩, by simp [intOf] <;> omega⟩
    · by_cases heq : i = s.size
      · subst heq
        have hfi := hfr (Nat.le_refl _)
        have hfiI : (fr : Int) ≤ (s.size : Int) := by omega
        have hneI : ((s.size : Int) == (s.size : Int)) = true := beq_self_eq_true _
        go_wp2_with (at_builtin; refine app_one (base := w.heap.size) (l := strs (D.map bs)) (m := [.string (s.extract fr s.size)]) Tryz.underlying43 info_string rfl rfl (.tmp 23) (.tmp 28) rfl rfl (Own1.alloc OR.out _) rfl ((Own1.lit wr 9 [.string (s.extract fr s.size)]).shows) (by intro q hq; simp at hq; subst hq; rfl) (by rw [hsl]; simp; omega) (by rw [hsl]; simp; omega) (by simp; omega) ?_; intro v9 w9 ho9 hb9; have O9 := Lib.hid ho9; have B9 := Lib.hid (BR.out.trans ((balloc (Below.refl _ wr) _).mono hwr |>.trans hb9)); clear ho9 hb9)
        refine ⟨⟨s.size + 1, s.size + 1, _, by go_num, by go_num, by omega, told_end HT.out, ?_, B9.out⟩, by simp [intOf] <;> omega⟩
        have h9 := O9.out
        rw [extract_bs] at h9
        rw [List.map_append, strs_append]
        exact h9
      · have hgt : ¬ (i : Int) ≤ (s.size : Int) := by omega
        have hW : Hid (strs (D.map bs) = strs (wordsB s)) := by
          rcases HT.out with ⟨h1, -⟩ | ⟨-, h2⟩
          · rw [hL] at h1; omega
          · show _ = _; unfold wordsB; rw [h2]
        obtain ⟨a9, n9, c9, hv9⟩ : ∃ a n c, u3 = Value.slice a n c := by
          obtain ⟨_, a, c, hv, -⟩ := OR.out.shows
          exact ⟨a, _, c, hv⟩
        subst hv9
        go_wp2_with fail
        go_ret
        exact ⟨_, rfl, by rw [← hW.out]; exact OR.out, BR.out⟩

/-! ### at -/
/-- A word's place among some; below 0: it is none. -/
def atL (l : List (List UInt8)) (x : List UInt8) : Int := match l.findIdx? (fun y => y == x) with | some i => (i : Int) | none => -1
theorem atL_eq (l : List (List UInt8)) (x : List UInt8) (j : Nat) (hj : j < l.length) (h1 : ∀ k, k < j → l.getD k [] ≠ x) (h2 : l.getD j [] = x) : atL l x = j := by
  have : l.findIdx? (fun y => y == x) = some j := by
    rw [List.findIdx?_eq_some_iff_getElem]
    refine ⟨hj, by simpa [List.getD, List.getElem?_eq_getElem hj] using h2, fun k hk => ?_⟩
    have := h1 k hk
    simpa [List.getD, List.getElem?_eq_getElem (show k < l.length by omega)] using this
  unfold atL
  simp only [this]
theorem atL_none (l : List (List UInt8)) (x : List UInt8) (h1 : ∀ k, k < l.length → l.getD k [] ≠ x) : atL l x = -1 := by
  have : l.findIdx? (fun y => y == x) = none := by
    rw [List.findIdx?_eq_none_iff]
    intro y hy
    obtain ⟨k, hk, rfl⟩ := List.mem_iff_getElem.1 hy
    have := h1 k hk
    simpa [List.getD, List.getElem?_eq_getElem hk] using this
  unfold atL
  simp only [this]
theorem rat_any (b off n c : Nat) (l : List (List UInt8)) (hn : l.length = n) (x : ByteArray) (hnb : n ≤ 1000000) (w : World) (hc : ∀ j, j < n → w.cell? ⟨b, off + j, none⟩ = some (.string (bs (l.getD j [])))) :
    Calls Tryz.prog 21 #[.slice (some ⟨b, off, none⟩) n c, .string x] w fun e w' => e = .returned (.int .i64 (atL l x.data.toList)) ∧ w = w' := by
  have HC := Lib.hid hc
  have HN := Lib.hid hn
  clear hc hn
  go_enter Tryz.func21, Tryz.ntmps21
  go_wp2_with fail
  go_loop [5] (fun iv => ∃ j : Nat, j ≤ n ∧ iv = .int .i64 j ∧ ∀ k, k < j → l.getD k [] ≠ x.data.toList) (fun iv => n - (intOf iv).toNat)
  case atStart => exact ⟨0, Nat.zero_le _, rfl, fun k hk => by omega⟩
  case round =>
    obtain ⟨j, hj, rfl, h1⟩ := hrel
    have H1 := Lib.hid h1
    clear h1
    by_cases hlt : j < n
    · have hltI : (j : Int) < (n : Int) := by omega
      have hcj := HC.out j hlt
      by_cases he : l.getD j [] = x.data.toList
      · have hb : ((bs (l.getD j [])).toList == x.toList) = true := by rw [toL, toL, beq_iff_eq]; exact he
        have HE : Hid (atL l x.data.toList = (j : Int)) := atL_eq l _ j (by rw [HN.out]; exact hlt) H1.out he
        clear he
        generalize l.getD j [] = y at *
        go_wp2_with fail
        go_ret
        exact ⟨by rw [HE.out]; rfl, rfl⟩
      · have hb : ((bs (l.getD j [])).toList == x.toList) = false := by rw [toL, toL, beq_eq_false_iff_ne]; exact he
        have HE := Lib.hid he
        clear he
        have HJ : Hid (∀ k, k < j + 1 → l.getD k [] ≠ x.data.toList) := fun k hk => by
          rcases Nat.lt_or_ge k j with h | h
          · exact H1.out k h
          · rw [show k = j by omega]; exact HE.out
        generalize l.getD j [] = y at hb hcj
        go_wp2_with fail
        go_round
        case rel => exact ⟨j + 1, by omega, by go_num, HJ.out⟩
        case measure => simp [intOf] <;> omega
    · have hjn : j = n := by omega
      subst hjn
      have HE := Lib.hid (atL_none l x.data.toList (fun k hk => H1.out k (by rw [HN.out] at hk; exact hk)))
      go_wp2_with fail
      go_ret
      exact ⟨by rw [HE.out]; rfl, rfl⟩

/-! ### after -/
theorem rafter_any (s : ByteArray) (w : World) (hs : s.size ≤ 4294967281) : Calls Tryz.prog 23 #[.string s, .int .i64 3] w fun e w' => e = .returned (.string (bs (Shl.afterL s.data.toList 3))) ∧ w = w' := by
  go_enter Tryz.func23, Tryz.ntmps23
  go_wp2_with fail
  have hL : s.data.toList.length = s.size := rfl
  go_loop [1, 5] (fun bv iv => ∃ i b : Nat, iv = .int .i64 i ∧ bv = .int .i64 b ∧ 1 ≤ b ∧ b ≤ 3 ∧ i ≤ s.size ∧ Shl.afterL s.data.toList 3 = Shl.afterL (s.data.toList.drop i) b) (fun _ iv => s.size - (intOf iv).toNat)
  case atStart => exact ⟨0, 3, rfl, rfl, by omega, by omega, by omega, rfl⟩
  case round =>
    obtain ⟨i, b, rfl, rfl, hb1, hb3, hi, ha⟩ := hrel
    have HA := Lib.hid ha
    clear ha
    by_cases hlt : i < s.size
    · have hltI : (i : Int) < (s.size : Int) := by omega
      have hdr : s.data.toList.drop i = s.data.toList.getD i 0 :: s.data.toList.drop (i + 1) := by
        have hlL : i < s.data.toList.length := by rw [hL]; exact hlt
        rw [List.drop_eq_getElem_cons hlL]
        simp [List.getD, List.getElem?_eq_getElem hlL]
      have HDR := Lib.hid hdr
      clear hdr
      by_cases hbl : s.data.toList.getD i 0 = 32
      · have hq : ((((s[i]'hlt).toNat : Nat) : Int) == 32) = true := by
          have : s[i]'hlt = 32 := by rw [← hbl]; exact (Lib.getD_at s i hlt)
          rw [this]; rfl
        have HBL := Lib.hid hbl
        clear hbl
        by_cases hb : b = 1
        · have HAE : Hid (Shl.afterL s.data.toList 3 = s.data.toList.drop (i + 1)) := by
            show _ = _
            rw [HA.out, HDR.out, HBL.out, hb]
            rfl
          subst hb
          have hi1 : (i : Int) + 1 ≤ (s.size : Int) := by omega
          go_wp2_with fail
          go_ret
          refine ⟨?_, rfl⟩
          rw [HAE.out]
          have e1 : s.extract (i + 1) s.size = bs (s.data.toList.drop (i + 1)) := by
            rw [extract_bs, List.take_of_length_le (by rw [List.length_drop, hL]; exact Nat.le_refl _)]
          show Ending.returned (.string (s.extract (i + 1) s.size)) = _
          rw [e1]
        · have hbI : (((b : Int) - 1) == 0) = false := by rw [beq_eq_false_iff_ne]; omega
          have hbN : ¬ (b : Int) = 1 := by omega
          have HAE : Hid (Shl.afterL s.data.toList 3 = Shl.afterL (s.data.toList.drop (i + 1)) (b - 1)) := by
            show _ = _
            rw [HA.out, HDR.out, HBL.out]
            show (if (32 : UInt8) = 32 then (if b = 1 then _ else Shl.afterL _ (b - 1)) else _) = _
            rw [if_pos rfl, if_neg hb]
          have hbc : (b : Int) - 1 = ((b - 1 : Nat) : Int) := by omega
          go_wp2_with fail
          go_round
          case rel => exact ⟨i + 1, b - 1, by go_num, by first | rfl | (rw [hbc]), by omega, by omega, by omega, HAE.out⟩
          case measure => simp [intOf] <;> omega
      · have hq : ((((s[i]'hlt).toNat : Nat) : Int) == 32) = false := by
          rw [beq_eq_false_iff_ne]
          intro h
          refine hbl ?_
          rw [← Lib.getD_at s i hlt]
          exact UInt8.toNat_inj.1 (by show _ = 32; omega)
        have HAE : Hid (Shl.afterL s.data.toList 3 = Shl.afterL (s.data.toList.drop (i + 1)) b) := by
          show _ = _
          rw [HA.out, HDR.out]
          show (if s.data.toList.getD i 0 = 32 then _ else Shl.afterL _ b) = _
          rw [if_neg hbl]
        clear hbl
        go_wp2_with fail
        go_round
        case rel => exact ⟨i + 1, b, by go_num, rfl, hb1, hb3, by omega, HAE.out⟩
        case measure => simp [intOf] <;> omega
    · have hin : i = s.size := by omega
      subst hin
      have HAE : Hid (Shl.afterL s.data.toList 3 = []) := by
        show _ = _
        rw [HA.out, List.drop_of_length_le (by rw [hL]; exact Nat.le_refl _)]
        rfl
      go_wp2_with fail
      go_ret
      exact ⟨by rw [HAE.out]; rfl, rfl⟩

/-! ### Number -/
theorem rnum_any (s : ByteArray) (w : World) (hs : s.size ≤ 4294967281) : Calls Tryz.prog 22 #[.string s] w fun e w' => (∃ v : Int, e = .returned (.tuple #[.int .i64 v, .bool (Shl.numL s.data.toList).isSome]) ∧ (∀ n : Nat, Shl.numL s.data.toList = some n → v = (n : Int))) ∧ w = w' := by
  have hL : s.data.toList.length = s.size := rfl
  by_cases c1 : s.data.toList = []
  · have HN : Hid (Shl.numL s.data.toList = none) := by show _ = _; unfold Shl.numL; rw [if_pos (.inl c1)]
    have h1 : s.toList = [] := by rw [toL]; exact c1
    clear c1
    go_enter Tryz.func22, Tryz.ntmps22
    go_wp2_with fail
    go_ret2
    exact ⟨⟨_, by rw [HN.out]; rfl, fun n hn => (by rw [HN.out] at hn; cases hn)⟩, rfl⟩
  have c1L : ¬ s.toList = [] := by rw [toL]; exact c1
  have c1E : s.toList.isEmpty = false := by rw [toL]; cases h : s.data.toList with
    | nil => exact absurd h c1
    | cons a r => rfl
  have c1B : (s.toList == []) = false := by rw [beq_eq_false_iff_ne]; exact c1L
  have hpos : 0 < s.size := by
    rw [← hL]
    exact List.length_pos_iff.2 c1
  have hposI : (0 : Int) < (s.size : Int) := by omega
  by_cases c2 : 6 < s.size
  · have HN : Hid (Shl.numL s.data.toList = none) := by show _ = _; unfold Shl.numL; rw [if_pos (.inr (.inl (by rw [hL]; exact c2)))]
    have c2I : (6 : Int) < (s.size : Int) := by omega
    have c2B : decide ((6 : Int) < (s.size : Int)) = true := decide_eq_true c2I
    go_enter Tryz.func22, Tryz.ntmps22
    go_wp2_with fail
    go_ret2
    exact ⟨⟨_, by rw [HN.out]; rfl, fun n hn => (by rw [HN.out] at hn; cases hn)⟩, rfl⟩
  have c2I : ¬ (6 : Int) < (s.size : Int) := by omega
  have c2B : decide ((6 : Int) < (s.size : Int)) = false := decide_eq_false c2I
  have hd0 : s.data.toList.headD 0 = s[0] := by
    rw [Lib.getD_at s 0 hpos]
    cases s.data.toList <;> rfl
  by_cases c3 : 1 < s.size ∧ s.data.toList.headD 0 = 48
  · have HN : Hid (Shl.numL s.data.toList = none) := by show _ = _; unfold Shl.numL; rw [if_pos (.inr (.inr ⟨by rw [hL]; exact c3.1, c3.2⟩))]
    have c3I : (1 : Int) < (s.size : Int) := by have := c3.1; omega
    have c3B : decide ((1 : Int) < (s.size : Int)) = true := decide_eq_true c3I
    have hq : (((s[0].toNat : Nat) : Int) == 48) = true := by rw [← hd0, c3.2]; rfl
    clear hd0 c3
    go_enter Tryz.func22, Tryz.ntmps22
    go_wp2_with fail
    go_ret2
    exact ⟨⟨_, by rw [HN.out]; rfl, fun n hn => (by rw [HN.out] at hn; cases hn)⟩, rfl⟩
  have HNL : Hid (Shl.numL s.data.toList = Lib.decFrom 0 s.data.toList) := by
    show _ = _
    unfold Shl.numL
    rw [if_neg]
    rintro (h | h | ⟨h4, h5⟩)
    · exact c1 h
    · rw [hL] at h; exact c2 h
    · rw [hL] at h4; exact c3 ⟨h4, h5⟩
  have hor : Hid (s.size = 1 ∨ (((s[0].toNat : Nat) : Int) == 48) = false) := by
    by_cases h : s.size = 1
    · exact .inl h
    · refine .inr ?_
      rw [beq_eq_false_iff_ne]
      intro h5
      refine c3 ⟨by omega, ?_⟩
      rw [hd0]
      exact UInt8.toNat_inj.1 (by show _ = 48; omega)
  clear hd0 c3 c1
  have hs6 : s.size ≤ 6 := by omega
  rcases hor.out with hh | hh
  · have hh1 : ¬ (1 : Int) < (s.size : Int) := by omega
    have hh2 : decide ((1 : Int) < (s.size : Int)) = false := decide_eq_false hh1
    have HH := Lib.hid hh
    clear hh hor
    go_enter Tryz.func22, Tryz.ntmps22
    go_wp2_with fail
    go_loop [4, 5] (fun nv iv => ∃ i n : Nat, iv = .int .i64 i ∧ nv = .int .i64 n ∧ i ≤ s.size ∧ Lib.decFrom 0 (s.data.toList.take i) = some n) (fun _ iv => s.size - (intOf iv).toNat)
    case atStart => exact ⟨0, 0, rfl, rfl, Nat.zero_le _, rfl⟩
    case round =>
      obtain ⟨i, n, rfl, rfl, hi, hd⟩ := hrel
      have hlt1 := Lib.decFrom_lt _ _ _ hd
      have hti : (s.data.toList.take i).length = i := by rw [List.length_take, hL]; omega
      rw [hti] at hlt1
      have hp6 : (10 : Nat) ^ i ≤ 10 ^ 6 := Nat.pow_le_pow_right (by omega) (by omega)
      have hn6 : n < 1000000 := by omega
      have HD := Lib.hid hd
      clear hd hlt1 hp6 hti
      by_cases hlt : i < s.size
      · have hltI : (i : Int) < (s.size : Int) := by omega
        have hlL : i < s.data.toList.length := by rw [hL]; exact hlt
        have HG : Hid (s.data.toList[i]? = some (s[i]'hlt)) := by
          show _ = _
          rw [List.getElem?_eq_getElem hlL, Lib.getD_at s i hlt]
          simp [List.getD, List.getElem?_eq_getElem hlL]
        obtain ⟨c, hc⟩ : ∃ c : UInt8, s[i]'hlt = c := ⟨_, rfl⟩
        have HC := Lib.hid hc
        rw [hc] at HG
        have hc256 : (c.toNat : Int) < 256 := by have := UInt8.toNat_lt c; omega
        by_cases g1 : c.toNat < 48
        · have HN : Hid (Shl.numL s.data.toList = none) := by
            show _ = _
            rw [HNL.out]
            cases h : Lib.decFrom 0 s.data.toList with
            | none => rfl
            | some m =>
              obtain ⟨d, h2⟩ := Lib.digit_of_decFrom _ 0 m h i c HG.out
              have := (Lib.digitVal_eq h2).1
              omega
          have g1I : (c.toNat : Int) < 48 := by omega
          go_wp2_with fail
          go_ret2
          exact ⟨⟨_, by rw [HN.out]; rfl, fun n hn => (by rw [HN.out] at hn; cases hn)⟩, rfl⟩
        · by_cases g2 : 57 < c.toNat
          · have HN : Hid (Shl.numL s.data.toList = none) := by
              show _ = _
              rw [HNL.out]
              cases h : Lib.decFrom 0 s.data.toList with
              | none => rfl
              | some m =>
                obtain ⟨d, h2⟩ := Lib.digit_of_decFrom _ 0 m h i c HG.out
                have := (Lib.digitVal_eq h2).2.1
                omega
            have g1I : ¬ (c.toNat : Int) < 48 := by omega
            have g2I : (57 : Int) < (c.toNat : Int) := by omega
            go_wp2_with fail
            go_ret2
            exact ⟨⟨_, by rw [HN.out]; rfl, fun n hn => (by rw [HN.out] at hn; cases hn)⟩, rfl⟩
          · have HS : Hid (Lib.decFrom 0 (s.data.toList.take (i + 1)) = some (n * 10 + (c.toNat - 48))) := by
              refine Lib.decFrom_take _ i 0 n c (c.toNat - 48) HD.out HG.out ?_
              unfold Lib.digitVal
              rw [if_pos ⟨by omega, by omega⟩]
            have g1I : ¬ (c.toNat : Int) < 48 := by omega
            have g2I : ¬ (57 : Int) < (c.toNat : Int) := by omega
            have hsub : (c.toNat : Int) - 48 = ((c.toNat - 48 : Nat) : Int) := by omega
            go_wp2_with fail
            go_round
            case rel => exact ⟨i + 1, n * 10 + (c.toNat - 48), by go_num, by first | go_num | (congr 1; omega), by omega, HS.out⟩
            case measure => simp [intOf] <;> omega
      · have hin : i = s.size := by omega
        subst hin
        have HE : Hid (Shl.numL s.data.toList = some n) := by
          show _ = _
          rw [HNL.out]
          have := HD.out
          rwa [List.take_of_length_le (by rw [hL]; exact Nat.le_refl _)] at this
        go_wp2_with fail
        go_ret2
        exact ⟨⟨_, by rw [HE.out]; rfl, fun m hm => (by rw [HE.out] at hm; simp only [Option.some.injEq] at hm; omega)⟩, rfl⟩
  · clear hor
    by_cases hh1 : (1 : Int) < (s.size : Int)
    · have hh2 : decide ((1 : Int) < (s.size : Int)) = true := decide_eq_true hh1
      go_enter Tryz.func22, Tryz.ntmps22
      go_wp2_with fail
      go_loop [4, 5] (fun nv iv => ∃ i n : Nat, iv = .int .i64 i ∧ nv = .int .i64 n ∧ i ≤ s.size ∧ Lib.decFrom 0 (s.data.toList.take i) = some n) (fun _ iv => s.size - (intOf iv).toNat)
      case atStart => exact ⟨0, 0, rfl, rfl, Nat.zero_le _, rfl⟩
      case round =>
        obtain ⟨i, n, rfl, rfl, hi, hd⟩ := hrel
        have hlt1 := Lib.decFrom_lt _ _ _ hd
        have hti : (s.data.toList.take i).length = i := by rw [List.length_take, hL]; omega
        rw [hti] at hlt1
        have hp6 : (10 : Nat) ^ i ≤ 10 ^ 6 := Nat.pow_le_pow_right (by omega) (by omega)
        have hn6 : n < 1000000 := by omega
        have HD := Lib.hid hd
        clear hd hlt1 hp6 hti
        by_cases hlt : i < s.size
        · have hltI : (i : Int) < (s.size : Int) := by omega
          have hlL : i < s.data.toList.length := by rw [hL]; exact hlt
          have HG : Hid (s.data.toList[i]? = some (s[i]'hlt)) := by
            show _ = _
            rw [List.getElem?_eq_getElem hlL, Lib.getD_at s i hlt]
            simp [List.getD, List.getElem?_eq_getElem hlL]
          obtain ⟨c, hc⟩ : ∃ c : UInt8, s[i]'hlt = c := ⟨_, rfl⟩
          have HC := Lib.hid hc
          rw [hc] at HG
          have hc256 : (c.toNat : Int) < 256 := by have := UInt8.toNat_lt c; omega
          by_cases g1 : c.toNat < 48
          · have HN : Hid (Shl.numL s.data.toList = none) := by
              show _ = _
              rw [HNL.out]
              cases h : Lib.decFrom 0 s.data.toList with
              | none => rfl
              | some m =>
                obtain ⟨d, h2⟩ := Lib.digit_of_decFrom _ 0 m h i c HG.out
                have := (Lib.digitVal_eq h2).1
                omega
            have g1I : (c.toNat : Int) < 48 := by omega
            go_wp2_with fail
            go_ret2
            exact ⟨⟨_, by rw [HN.out]; rfl, fun n hn => (by rw [HN.out] at hn; cases hn)⟩, rfl⟩
          · by_cases g2 : 57 < c.toNat
            · have HN : Hid (Shl.numL s.data.toList = none) := by
                show _ = _
                rw [HNL.out]
                cases h : Lib.decFrom 0 s.data.toList with
                | none => rfl
                | some m =>
                  obtain ⟨d, h2⟩ := Lib.digit_of_decFrom _ 0 m h i c HG.out
                  have := (Lib.digitVal_eq h2).2.1
                  omega
              have g1I : ¬ (c.toNat : Int) < 48 := by omega
              have g2I : (57 : Int) < (c.toNat : Int) := by omega
              go_wp2_with fail
              go_ret2
              exact ⟨⟨_, by rw [HN.out]; rfl, fun n hn => (by rw [HN.out] at hn; cases hn)⟩, rfl⟩
            · have HS : Hid (Lib.decFrom 0 (s.data.toList.take (i + 1)) = some (n * 10 + (c.toNat - 48))) := by
                refine Lib.decFrom_take _ i 0 n c (c.toNat - 48) HD.out HG.out ?_
                unfold Lib.digitVal
                rw [if_pos ⟨by omega, by omega⟩]
              have g1I : ¬ (c.toNat : Int) < 48 := by omega
              have g2I : ¬ (57 : Int) < (c.toNat : Int) := by omega
              have hsub : (c.toNat : Int) - 48 = ((c.toNat - 48 : Nat) : Int) := by omega
              go_wp2_with fail
              go_round
              case rel => exact ⟨i + 1, n * 10 + (c.toNat - 48), by go_num, by first | go_num | (congr 1; omega), by omega, HS.out⟩
              case measure => simp [intOf] <;> omega
        · have hin : i = s.size := by omega
          subst hin
          have HE : Hid (Shl.numL s.data.toList = some n) := by
            show _ = _
            rw [HNL.out]
            have := HD.out
            rwa [List.take_of_length_le (by rw [hL]; exact Nat.le_refl _)] at this
          go_wp2_with fail
          go_ret2
          exact ⟨⟨_, by rw [HE.out]; rfl, fun m hm => (by rw [HE.out] at hm; simp only [Option.some.injEq] at hm; omega)⟩, rfl⟩
    · have hh2 : decide ((1 : Int) < (s.size : Int)) = false := decide_eq_false hh1
      go_enter Tryz.func22, Tryz.ntmps22
      go_wp2_with fail
      go_loop [4, 5] (fun nv iv => ∃ i n : Nat, iv = .int .i64 i ∧ nv = .int .i64 n ∧ i ≤ s.size ∧ Lib.decFrom 0 (s.data.toList.take i) = some n) (fun _ iv => s.size - (intOf iv).toNat)
      case atStart => exact ⟨0, 0, rfl, rfl, Nat.zero_le _, rfl⟩
      case round =>
        obtain ⟨i, n, rfl, rfl, hi, hd⟩ := hrel
        have hlt1 := Lib.decFrom_lt _ _ _ hd
        have hti : (s.data.toList.take i).length = i := by rw [List.length_take, hL]; omega
        rw [hti] at hlt1
        have hp6 : (10 : Nat) ^ i ≤ 10 ^ 6 := Nat.pow_le_pow_right (by omega) (by omega)
        have hn6 : n < 1000000 := by omega
        have HD := Lib.hid hd
        clear hd hlt1 hp6 hti
        by_cases hlt : i < s.size
        · have hltI : (i : Int) < (s.size : Int) := by omega
          have hlL : i < s.data.toList.length := by rw [hL]; exact hlt
          have HG : Hid (s.data.toList[i]? = some (s[i]'hlt)) := by
            show _ = _
            rw [List.getElem?_eq_getElem hlL, Lib.getD_at s i hlt]
            simp [List.getD, List.getElem?_eq_getElem hlL]
          obtain ⟨c, hc⟩ : ∃ c : UInt8, s[i]'hlt = c := ⟨_, rfl⟩
          have HC := Lib.hid hc
          rw [hc] at HG
          have hc256 : (c.toNat : Int) < 256 := by have := UInt8.toNat_lt c; omega
          by_cases g1 : c.toNat < 48
          · have HN : Hid (Shl.numL s.data.toList = none) := by
              show _ = _
              rw [HNL.out]
              cases h : Lib.decFrom 0 s.data.toList with
              | none => rfl
              | some m =>
                obtain ⟨d, h2⟩ := Lib.digit_of_decFrom _ 0 m h i c HG.out
                have := (Lib.digitVal_eq h2).1
                omega
            have g1I : (c.toNat : Int) < 48 := by omega
            go_wp2_with fail
            go_ret2
            exact ⟨⟨_, by rw [HN.out]; rfl, fun n hn => (by rw [HN.out] at hn; cases hn)⟩, rfl⟩
          · by_cases g2 : 57 < c.toNat
            · have HN : Hid (Shl.numL s.data.toList = none) := by
                show _ = _
                rw [HNL.out]
                cases h : Lib.decFrom 0 s.data.toList with
                | none => rfl
                | some m =>
                  obtain ⟨d, h2⟩ := Lib.digit_of_decFrom _ 0 m h i c HG.out
                  have := (Lib.digitVal_eq h2).2.1
                  omega
              have g1I : ¬ (c.toNat : Int) < 48 := by omega
              have g2I : (57 : Int) < (c.toNat : Int) := by omega
              go_wp2_with fail
              go_ret2
              exact ⟨⟨_, by rw [HN.out]; rfl, fun n hn => (by rw [HN.out] at hn; cases hn)⟩, rfl⟩
            · have HS : Hid (Lib.decFrom 0 (s.data.toList.take (i + 1)) = some (n * 10 + (c.toNat - 48))) := by
                refine Lib.decFrom_take _ i 0 n c (c.toNat - 48) HD.out HG.out ?_
                unfold Lib.digitVal
                rw [if_pos ⟨by omega, by omega⟩]
              have g1I : ¬ (c.toNat : Int) < 48 := by omega
              have g2I : ¬ (57 : Int) < (c.toNat : Int) := by omega
              have hsub : (c.toNat : Int) - 48 = ((c.toNat - 48 : Nat) : Int) := by omega
              go_wp2_with fail
              go_round
              case rel => exact ⟨i + 1, n * 10 + (c.toNat - 48), by go_num, by first | go_num | (congr 1; omega), by omega, HS.out⟩
              case measure => simp [intOf] <;> omega
        · have hin : i = s.size := by omega
          subst hin
          have HE : Hid (Shl.numL s.data.toList = some n) := by
            show _ = _
            rw [HNL.out]
            have := HD.out
            rwa [List.take_of_length_le (by rw [hL]; exact Nat.le_refl _)] at this
          go_wp2_with fail
          go_ret2
          exact ⟨⟨_, by rw [HE.out]; rfl, fun m hm => (by rw [HE.out] at hm; simp only [Option.some.injEq] at hm; omega)⟩, rfl⟩
end Go.Proofs.YtojoeaaodomfnaaGreatDoor
