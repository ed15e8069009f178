/- The laws of chapter 21: few, lives. (printed by gen/law21.py) -/
import Derived.Test.YtnhkbbladifmmaaDoorRPut
import Derived.Test.YtnhkbbladifmmaaDoorPth2
namespace Go.Proofs.YtnhkbbladifmmaaDoor
set_option linter.unusedVariables false
set_option linter.unusedSimpArgs false
set_option linter.unnecessarySimpa false
open Go.RowKit
open Tre (It)
set_option maxRecDepth 100000
set_option maxHeartbeats 8000000

/-- An item, its name cut. -/
def cutN (x : It) : It := if 60 < x.name.size then { x with name := x.name.extract 0 60 } else x
def fewL (l : List It) : List It := (l.take 8).map cutN
theorem cutN_size (x : It) : (cutN x).name.size ≤ 60 := by
  unfold cutN
  split
  · simp only [ByteArray.size_extract]; omega
  · omega
theorem cutN_ok {x : It} (h : ItOk x) : ItS (cutN x) := by
  have h1 := cutN_size x
  refine ⟨⟨?_, ?_, ?_⟩, by omega⟩
  · unfold cutN; split
    · exact h.1
    · exact h.1
  · unfold cutN; split
    · exact h.2.1
    · exact h.2.1
  · unfold maxLen; omega
theorem fewL_its {l : List It} (h : Oks l) : ∀ x ∈ fewL l, ItS x := fun x hx => by
  simp only [fewL, List.mem_map] at hx
  obtain ⟨y, hy, rfl⟩ := hx
  exact cutN_ok (h y (List.mem_of_mem_take hy))
theorem fewL_length (l : List It) : (fewL l).length ≤ 8 := by simp [fewL]; omega
theorem few_any (v : Value) (l : List It) (w : World) (hs : Its w v l) (hok : Oks l) (hsz : l.length ≤ 140737488355328) :
    Calls Tryd.prog 9 #[v] w (OIQ w (fewL l)) := by
  obtain ⟨xa, ca, rfl, hc1, hc2, hc3, hs2⟩ := hs.open
  have HS := Lib.hid hs2
  have HOK := Lib.hid hok
  clear hs hs2 hok
  go_enter Tryd.func9, Tryd.ntmps9
  go_wp2_with fail
  have HLIT := Lib.hid (OwnI.lit0 w)
  have HB1 : Hid (Below w.heap.size w (w.alloc (.cells #[] 32))) := balloc (Below.refl _ _) _
  generalize hW1 : w.alloc (.cells #[] 32) = W1 at *
  clear hW1
  go_loopw [3, 4] (fun ov iv wr => ∃ j : Nat, j ≤ l.length ∧ j ≤ 8 ∧ iv = .int .i64 j ∧ OwnI wr w.heap.size ov ((l.take j).map cutN) ∧ Below w.heap.size w wr) (fun _ iv _ => l.length - (intOf iv).toNat)
  case atStart => exact ⟨0, Nat.zero_le _, Nat.zero_le _, rfl, HLIT.out, HB1.out⟩
  case round =>
    clear HLIT HB1
    obtain ⟨j, hj, hj8, rfl, ho, hb⟩ := hrel
    have HO := Lib.hid ho
    have HB := Lib.hid hb
    have hwr := hb.size
    clear ho hb
    by_cases hlt : j < l.length ∧ j < 8
    · have hltI : (j : Int) < (l.length : Int) := by omega
      have hlt8 : (j : Int) < 8 := by omega
      obtain ⟨ba, off, rfl, -⟩ := HS.out.cells (by omega) HOK.out
      have hrg := rangeAt_below (HS.out.range HOK.out j hlt.1) HB.out
      have hym : l.getD j dIt ∈ l := by simp [List.getD, List.getElem?_eq_getElem hlt.1]
      have hyo := HOK.out _ hym
      have hnx : (l.take (j + 1)).map cutN = (l.take j).map cutN ++ [cutN (l.getD j dIt)] := by
        have : l.take (j + 1) = l.take j ++ [l.getD j dIt] := by
          rw [List.take_add_one, List.getElem?_eq_getElem hlt.1]
          simp [List.getD, List.getElem?_eq_getElem hlt.1]
        rw [this, List.map_append]
        rfl
      have HNX := Lib.hid hnx
      obtain ⟨y, hy⟩ : ∃ y, l.getD j dIt = y := ⟨_, rfl⟩
      rw [hy] at hrg hyo HNX
      obtain ⟨hz0, W6, hW6, hr6, hb6⟩ := pre34 wr y hyo
      dsimp only at hW6 hz0
      have HZ0 := Lib.hid hz0
      have HRG := Lib.hid hrg
      have HYO := Lib.hid hyo
      have R6 := Lib.hid hr6
      have B6 := Lib.hid hb6
      have hw6 := hr6.lt
      have hx0 : W6.cell? ⟨wr.heap.size, 0, none⟩ = some (.string y.name) := Row.cell hr6 0
      have hf0 := Row.frozen hr6 0
      have HOL : Hid (((l.take j).map cutN).length ≤ 8) := by show _ ≤ _; rw [List.length_map, List.length_take]; omega
      clear hrg hym hyo hnx hy hr6 hb6 hz0
      go_upto_region 6 with (first
        | (with_reducible refine load_item rfl (.tmp 19) rfl ba _ rfl y HYO.out HRG.out ?_)
        | (with_reducible refine store_item_mid rfl (.tmp 5) (.tmp 20) rfl wr.heap.size 0 rfl y rfl HYO.out 32 (itC dIt) HZ0.out (by decide) ?_))
      rw [hW6]
      clear hW6
      by_cases hsz60 : 60 < y.name.size
      · have hI60 : (60 : Int) < (y.name.size : Int) := by omega
        obtain ⟨z, hz⟩ : ∃ z, z = cutN y := ⟨_, rfl⟩
        have hzc : itC z = (itC y).set 0 (.string (y.name.extract 0 60)) := by rw [hz]; unfold cutN; rw [if_pos hsz60]; rfl
        have hzo : ItOk z := by rw [hz]; exact (cutN_ok HYO.out).1
        obtain ⟨W7, hW7⟩ : ∃ W7, W6.setCell ⟨wr.heap.size, 0, none⟩ (.string (y.name.extract 0 60)) = W7 := ⟨_, rfl⟩
        have hr7 : Row W7 wr.heap.size 32 (itC z) := by rw [← hW7, hzc]; exact R6.out.set 0 _
        have hb7 : Below wr.heap.size wr W7 := by rw [← hW7]; exact B6.out.setCell (p := ⟨wr.heap.size, 0, none⟩) (Nat.le_refl _) _
        have HRX : Hid (W7.rangeAt wr.heap.size 0 (itC z)) := fun k v hv => by rw [Nat.zero_add, Row.cell hr7]; exact hv
        have HZ := Lib.hid hz
        have HZO := Lib.hid hzo
        have hb7a : Below wr.heap.size wr (W7.alloc (.cells (itC z).toArray 32)) := hb7.alloc hb7.size _
        have O7 := Lib.hid (HO.out.below hb7a (Nat.le_refl _))
        have O7z := hb7a.size
        have HB7A := Lib.hid (hb7a.mono hwr)
        clear hb7 hb7a hz hzc hzo hr7
        go_wp2_with (first
          | (with_reducible refine load_item rfl (.tmp 5) rfl wr.heap.size 0 rfl z HZO.out HRX.out ?_)
          | (with_reducible refine build_one rfl (.tmp 30) rfl z HZO.out rfl ?_)
          | (at_builtin; refine app_items (base := w.heap.size) rfl (.tmp 29) (.tmp 31) rfl rfl O7.out rfl (its_lit W7 z HZO.out) (by have := HOL.out; simp only [List.length_singleton]; omega) (by have := O7z; omega) ?_; intro v9 w9 ho9 hb9; have O9 := Lib.hid ho9; have B9 := Lib.hid (HB.out.trans (HB7A.out.trans hb9)); clear ho9 hb9))
        exact ⟨⟨j + 1, by omega, by omega, by go_num, by rw [HNX.out, ← HZ.out]; exact O9.out, B9.out⟩, by simp [intOf]; omega⟩
      · have hI60 : ¬ (60 : Int) < (y.name.size : Int) := by omega
        obtain ⟨z, hz⟩ : ∃ z, z = cutN y := ⟨_, rfl⟩
        have hzy : z = y := by rw [hz]; unfold cutN; rw [if_neg hsz60]
        subst hzy
        have hb7 := B6.out
        have HRX : Hid (W6.rangeAt wr.heap.size 0 (itC z)) := fun k v hv => by rw [Nat.zero_add, Row.cell R6.out]; exact hv
        have HZ := Lib.hid hz
        have HZO := HYO
        have hb7a : Below wr.heap.size wr (W6.alloc (.cells (itC z).toArray 32)) := hb7.alloc hb7.size _
        have O7 := Lib.hid (HO.out.below hb7a (Nat.le_refl _))
        have O7z := hb7a.size
        have HB7A := Lib.hid (hb7a.mono hwr)
        clear hb7 hb7a hz
        go_wp2_with (first
          | (with_reducible refine load_item rfl (.tmp 5) rfl wr.heap.size 0 rfl z HZO.out HRX.out ?_)
          | (with_reducible refine build_one rfl (.tmp 30) rfl z HZO.out rfl ?_)
          | (at_builtin; refine app_items (base := w.heap.size) rfl (.tmp 29) (.tmp 31) rfl rfl O7.out rfl (its_lit W6 z HZO.out) (by have := HOL.out; simp only [List.length_singleton]; omega) (by have := O7z; omega) ?_; intro v9 w9 ho9 hb9; have O9 := Lib.hid ho9; have B9 := Lib.hid (HB.out.trans (HB7A.out.trans hb9)); clear ho9 hb9))
        exact ⟨⟨j + 1, by omega, by omega, by go_num, by rw [HNX.out, ← HZ.out]; exact O9.out, B9.out⟩, by simp [intOf]; omega⟩
    · have hnI : (j : Int) < (l.length : Int) → ¬ (j : Int) < 8 := by omega
      have H3 : Hid (OwnI wr w.heap.size u3 (fewL l)) := by
        have h1 := HO.out
        have : l.take j = l.take 8 := by
          by_cases h8 : j = 8
          · rw [h8]
          · rw [List.take_of_length_le (by omega), List.take_of_length_le (by omega)]
        rw [this] at h1
        exact h1
      by_cases hjl : j < l.length
      · have hjlI : (j : Int) < (l.length : Int) := by omega
        have hn8 := hnI hjlI
        clear hnI hlt
        go_wp2_with fail
        go_ret
        exact ⟨_, rfl, H3.out, HB.out⟩
      · have hjlI : ¬ (j : Int) < (l.length : Int) := by omega
        clear hnI hlt
        go_wp2_with fail
        go_ret
        exact ⟨_, rfl, H3.out, HB.out⟩
end Go.Proofs.YtnhkbbladifmmaaDoor
