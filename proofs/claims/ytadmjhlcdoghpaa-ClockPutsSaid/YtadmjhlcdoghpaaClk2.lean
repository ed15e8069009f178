/- Clocks: Merge, Upto, Order, Tick. -/
import Derived.Test.YtadmjhlcdoghpaaClk
import Derived.Deep.QuietTactic
import Derived.BigQuiet
namespace Go.Proofs.Ytadmjhlcdoghpaa
set_option linter.unusedVariables false
set_option linter.unusedSimpArgs false
set_option linter.unnecessarySimpa false
open Go.RowKit
set_option maxRecDepth 100000
set_option maxHeartbeats 2000000

/-- The first j of the greater numbers, then A's. -/
def mergeTo (A B : List Int) (j : Nat) : List Int := (List.zipWith max A B).take j ++ A.drop j
def merged (A B : List Int) : List Int := List.zipWith max A B
theorem mergeTo_length (A B : List Int) (hA : A.length = 8) (hB : B.length = 8) (j : Nat) (hj : j ≤ 8) : (mergeTo A B j).length = 8 := by simp [mergeTo, hA, hB]; omega
theorem mergeTo_get (A B : List Int) (hA : A.length = 8) (hB : B.length = 8) (j : Nat) (hj : j < 8) : (mergeTo A B j).getD j 0 = A.getD j 0 := by
  unfold mergeTo
  simp only [List.getD]
  rw [List.getElem?_append_right (by simp [hA, hB]; omega)]
  simp [hA, hB, show min j 8 = j by omega]
theorem mergeTo_set (A B : List Int) (hA : A.length = 8) (hB : B.length = 8) (j : Nat) (hj : j < 8) : (mergeTo A B j).set j (max (A.getD j 0) (B.getD j 0)) = mergeTo A B (j + 1) := by
  unfold mergeTo
  have hz : (List.zipWith max A B).length = 8 := by simp [hA, hB]
  rw [List.set_append_right _ _ (by simp [hA, hB]; omega)]
  have h1 : A.drop j = A.getD j 0 :: A.drop (j + 1) := by rw [List.drop_eq_getElem_cons (by omega)]; simp [List.getD, List.getElem?_eq_getElem (show j < A.length by omega)]
  have h2 : (List.zipWith max A B).take (j + 1) = (List.zipWith max A B).take j ++ [max (A.getD j 0) (B.getD j 0)] := by
    rw [List.take_add_one, List.getElem?_eq_getElem (by omega)]
    simp [List.getD, List.getElem?_eq_getElem (show j < A.length by omega), List.getElem?_eq_getElem (show j < B.length by omega)]
  rw [h1, h2]
  simp [hA, hB, show min j 8 = j by omega]
theorem mergeTo_all (A B : List Int) (hA : A.length = 8) (hB : B.length = 8) : mergeTo A B 8 = merged A B := by
  unfold mergeTo merged
  rw [List.take_of_length_le (by simp [hA, hB]), List.drop_of_length_le (by omega), List.append_nil]
theorem merge_any (A B : List Int) (hA : A.length = 8) (hB : B.length = 8) (w : World) :
    Calls Try.prog 8 #[clockV A, clockV B] w fun e w' => e = .returned (clockV (merged A B)) ∧ Below w.heap.size w w' := by
  have HA := Lib.hid hA
  have HB := Lib.hid hB
  clear hA hB
  unfold clockV
  go_enter Try.func8, Try.ntmps8
  go_upto_region 1 with fail
  obtain ⟨W, hW, R0, R1, R2, Hb, -⟩ := pre3 A B w
  rw [hW]
  clear hW
  simp only [clockV_eq]
  go_wp2_with (with_reducible refine load_clock rfl (.tmp 3) rfl _ rfl B HB.out R1.out ?_)
  go_loopw [8] (fun i wr => ∃ j : Nat, j ≤ 8 ∧ i = .int .i64 j ∧ Arr wr w.heap.size 24 .u64 (mergeTo A B j) ∧ Arr wr (w.heap.size + 1 + 1) 24 .u64 zeros ∧ Below w.heap.size w wr) (fun i _ => 8 - (intOf i).toNat)
  case atStart => exact ⟨0, by omega, rfl, by simpa [mergeTo] using R0.out, R2.out, Hb.out⟩
  case round =>
    obtain ⟨j, hj, rfl, hr, hr2, hbr⟩ := hrel
    by_cases hlt : j < 8
    · have hi := index_clock B HB.out j hlt
      have hc := hr.cell j (by rw [mergeTo_length A B HA.out HB.out j hj]; exact hlt)
      rw [mergeTo_get A B HA.out HB.out j hlt] at hc
      have hf := hr.frozen j
      have hs := mergeTo_set A B HA.out HB.out j hlt
      have HS := Lib.hid hs
      have HR := Lib.hid hr
      have HR2 := Lib.hid hr2
      have HBR := Lib.hid hbr
      clear hs hr hr2 hbr
      generalize A.getD j 0 = x at *
      generalize B.getD j 0 = y at *
      go_wp2_with fail
      have hm : (if x < y then y else x) = max x y := by split <;> omega
      rw [hm]
      refine ⟨⟨j + 1, by omega, by go_num, ?_, ?_, ?_⟩, by simp [intOf]; omega⟩
      · rw [← HS.out]; exact HR.out.set j _
      · exact HR2.out.set_other (by simp; omega) _
      · exact bset HBR.out (Nat.le_refl _) _
    · obtain rfl : j = 8 := by omega
      rw [mergeTo_all A B HA.out HB.out] at hr
      have hl : (merged A B).length = 8 := by simp [merged, HA.out, HB.out]
      go_wp2_with (first
        | (with_reducible refine load_clock rfl (.tmp 2) rfl _ rfl (merged A B) hl hr ?_)
        | (with_reducible refine store_clock rfl (.tmp 4) (.tmp 20) rfl _ rfl (merged A B) rfl hl _ zeros hr2 rfl ?_))
      exact ret_clock rfl rfl _ rfl _ (merged A B) (Row.setRow hr2 _) hl ⟨rfl, bsetRow hbr (by omega) _⟩

/-! ### how two stand -/
/-- Is a number of A, of the first j, below B's? -/
def less (A B : List Int) (j : Nat) : Bool := (List.range j).any fun i => decide (A.getD i 0 < B.getD i 0)
theorem less_zero (A B : List Int) : less A B 0 = false := rfl
theorem less_succ (A B : List Int) (j : Nat) : less A B (j + 1) = (less A B j || decide (A.getD j 0 < B.getD j 0)) := by simp [less, List.range_succ, List.any_append]
theorem less_mono {A B : List Int} {j : Nat} (h : A.getD j 0 < B.getD j 0) {n : Nat} (hn : j < n) : less A B n = true := by
  unfold less; rw [List.any_eq_true]; exact ⟨j, by simpa using hn, by simpa using h⟩
theorem less_false {A B : List Int} {n : Nat} (h : less A B n = false) {j : Nat} (hj : j < n) : B.getD j 0 ≤ A.getD j 0 := by
  by_cases hc : A.getD j 0 < B.getD j 0
  · rw [less_mono hc hj] at h; cases h
  · omega

theorem upto_any (A B : List Int) (hA : A.length = 8) (hB : B.length = 8) (w : World) :
    Calls Try.prog 9 #[clockV A, clockV B] w fun e w' => e = .returned (.bool (!less B A 8)) ∧ Below w.heap.size w w' := by
  have HA := Lib.hid hA
  have HB := Lib.hid hB
  clear hA hB
  unfold clockV
  go_enter Try.func9, Try.ntmps9
  go_upto_region 1 with fail
  obtain ⟨W, hW, R0, R1, Hb, -⟩ := pre2 A B w
  rw [hW]
  clear hW
  simp only [clockV_eq]
  go_wp2_with fail
  go_loopw [5] (fun i wr => ∃ j : Nat, j ≤ 8 ∧ i = .int .i64 j ∧ less B A j = false ∧ Arr wr w.heap.size 24 .u64 A ∧ Arr wr (w.heap.size + 1) 24 .u64 B ∧ Below w.heap.size w wr) (fun i _ => 8 - (intOf i).toNat)
  case atStart => exact ⟨0, by omega, rfl, rfl, R0.out, R1.out, Hb.out⟩
  case round =>
    clear R0 R1 Hb
    obtain ⟨j, hj, rfl, hl, r0, r1, hb⟩ := hrel
    have HL := Lib.hid hl
    have R0 := Lib.hid r0
    have R1 := Lib.hid r1
    have Hb := Lib.hid hb
    clear hl r0 r1 hb
    by_cases hlt : j < 8
    · have hc := R0.out.cell j (by have := HA.out; omega)
      have hd := R1.out.cell j (by have := HB.out; omega)
      have hs := less_succ B A j
      rw [HL.out, Bool.false_or] at hs
      have hm := @less_mono B A j
      have HS := Lib.hid hs
      have HM := Lib.hid hm
      clear hs hm
      generalize A.getD j 0 = x at *
      generalize B.getD j 0 = y at *
      by_cases hxy : y < x
      · have h8 := HM.out hxy hlt
        go_wp2_with fail
        go_quiet (fail)
        go_wp2_with fail
        go_ret
        rw [h8]
        exact ⟨rfl, Hb.out.trans ((drewN_below _ _).mono Hb.out.size)⟩
      · have hn : less B A (j + 1) = false := by rw [HS.out]; simpa using hxy
        have HN := Lib.hid hn
        clear hn
        go_wp2_with fail
        go_quiet (fail)
        go_wp2_with fail
        go_roundw
        case rel => exact ⟨j + 1, by omega, by go_num, HN.out, Row.drewN R0.out _, Row.drewN R1.out _, Hb.out.trans ((drewN_below _ _).mono Hb.out.size)⟩
        case measure => simp [intOf]; omega
    · obtain rfl : j = 8 := by omega
      go_wp2_with fail
      go_ret
      rw [HL.out]
      exact ⟨rfl, Hb.out⟩
end Go.Proofs.Ytadmjhlcdoghpaa
