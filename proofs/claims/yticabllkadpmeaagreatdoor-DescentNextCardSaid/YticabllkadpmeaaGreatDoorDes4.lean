/- The law's few (chapter 22); the document's Missing. (printed by gen/des4.py) -/
import Derived.Test.YticabllkadpmeaaGreatDoorTAny
import Derived.Test.YticabllkadpmeaaGreatDoorDes1
namespace Go.Proofs.YticabllkadpmeaaGreatDoor
set_option linter.unusedVariables false
set_option linter.unusedSimpArgs false
set_option linter.unnecessarySimpa false
open Go.RowKit
open Tre (It)
set_option maxRecDepth 100000
set_option maxHeartbeats 8000000

/-- An item, its name and its length cut. -/
def cut22 (x : It) : It := { x with name := if 60 < x.name.size then x.name.extract 0 60 else x.name, len := if 4611686018427387903 < x.len then 4611686018427387903 else x.len }
def few22 (l : List It) : List It := Tre.all ((l.take 8).map cut22)
theorem cut22_size (x : It) : (cut22 x).name.size ≤ 60 := by
  unfold cut22
  show (if 60 < x.name.size then x.name.extract 0 60 else x.name).size ≤ 60
  split
  · simp only [ByteArray.size_extract]; omega
  · omega
theorem cut22_ok {x : It} (h : ItOk x) : ItS (cut22 x) := by
  have h1 := cut22_size x
  refine ⟨⟨?_, h.2.1, ?_⟩, by omega⟩
  · show (if 4611686018427387903 < x.len then 4611686018427387903 else x.len) < _
    split
    · decide
    · exact h.1
  · unfold maxLen; omega
theorem cuts_its {l : List It} (h : Oks l) : ∀ x ∈ (l.take 8).map cut22, ItS x := fun x hx => by
  simp only [List.mem_map] at hx
  obtain ⟨y, hy, rfl⟩ := hx
  exact cut22_ok (h y (List.mem_of_mem_take hy))
theorem cuts_length (l : List It) : ((l.take 8).map cut22).length ≤ 8 := by simp; omega
theorem few22_its {l : List It} (h : Oks l) : ∀ x ∈ few22 l, ItS x := all_its (cuts_its h)
theorem few22_length (l : List It) : (few22 l).length ≤ 8 := Nat.le_trans (Tre.all_length _) (cuts_length l)
theorem few22_rise (l : List It) : Tre.Rise (few22 l) := Tre.all_rise _
theorem few22_any (v : Value) (l : List It) (w : World) (hs : Its w v l) (hok : Oks l) (hsz : l.length ≤ 140737488355328) :
    Calls Tryz.prog 4 #[v] w (OIQ w (few22 l)) := by
  obtain ⟨xa, ca, rfl, hc1, hc2, hc3, hs2⟩ := hs.open
  have HS := Lib.hid hs2
  have HOK := Lib.hid hok
  have HCU := Lib.hid (cuts_its hok)
  have HCL := Lib.hid (cuts_length l)
  clear hs hs2 hok
  go_enter Tryz.func4, Tryz.ntmps4
  go_wp2_with fail
  have HLIT := Lib.hid (OwnI.lit0 w)
  have HB1 : Hid (Below w.heap.size w (w.alloc (.cells #[] 38))) := balloc (Below.refl _ _) _
  generalize hW1 : w.alloc (.cells #[] 38) = W1 at *
  clear hW1
  go_loopw [3, 4] (fun ov iv wr => ∃ j : Nat, j ≤ l.length ∧ j ≤ 8 ∧ iv = .int .i64 j ∧ OwnI wr w.heap.size ov ((l.take j).map cut22) ∧ Below w.heap.size w wr) (fun _ iv _ => l.length - (intOf iv).toNat)
  case atStart => exact ⟨0, Nat.zero_le _, Nat.zero_le _, rfl, HLIT.out, HB1.out⟩
  case round =>
    clear HLIT HB1
    obtain ⟨j, hj, hj8, rfl, ho, hb⟩ := hrel
    have HO := Lib.hid ho
    have HB := Lib.hid hb
    have hwr := hb.size
    clear ho hb
    by_cases hlt : j < l.length ∧ j < 8
    · have hltI : (j : Int) < (l.length : Int) := by omega
      have hlt8 : (j : Int) < 8 := by omega
      obtain ⟨ba, off, rfl, -⟩ := HS.out.cells (by omega) HOK.out
      have hrg := rangeAt_below (HS.out.range HOK.out j hlt.1) HB.out
      have hym : l.getD j dIt ∈ l := by simp [List.getD, List.getElem?_eq_getElem hlt.1]
      have hyo := HOK.out _ hym
      have hnx : (l.take (j + 1)).map cut22 = (l.take j).map cut22 ++ [cut22 (l.getD j dIt)] := by
        rw [take_snocI l j hlt.1, List.map_append]; rfl
      have HNX := Lib.hid hnx
      obtain ⟨y, hy⟩ : ∃ y, l.getD j dIt = y := ⟨_, rfl⟩
      rw [hy] at hrg hyo HNX
      obtain ⟨hz0, W6, hW6, hr6, hb6⟩ := pre34 wr y hyo
      dsimp only at hW6 hz0
      have HZ0 := Lib.hid hz0
      have HRG := Lib.hid hrg
      have HYO := Lib.hid hyo
      have R6 := Lib.hid hr6
      have B6 := Lib.hid hb6
      have hw6 := hr6.lt
      have hyl := hyo.1
      have hx0 : W6.cell? ⟨wr.heap.size, 0, none⟩ = some (.string y.name) := Row.cell hr6 0
      have hx1 : W6.cell? ⟨wr.heap.size, 1, none⟩ = some (.int .u64 (y.len : Int)) := Row.cell hr6 1
      have hf0 := Row.frozen hr6 0
      have hf1 := Row.frozen hr6 1
      have HOL : Hid (((l.take j).map cut22).length ≤ 8) := by show _ ≤ _; rw [List.length_map, List.length_take]; omega
      clear hrg hym hyo hnx hy hr6 hb6 hz0
      go_upto_region 6 with (first
        | (with_reducible refine load_item rfl (.tmp 19) rfl ba _ rfl y HYO.out HRG.out ?_)
        | (with_reducible refine store_item_mid rfl (.tmp 5) (.tmp 20) rfl wr.heap.size 0 rfl y rfl HYO.out 38 (itC dIt) HZ0.out (by decide) ?_))
      rw [hW6]
      clear hW6
      by_cases hsz60 : 60 < y.name.size
      · have hI60 : (60 : Int) < (y.name.size : Int) := by omega
        by_cases hM : 4611686018427387903 < y.len
        · have hMI : (4611686018427387903 : Int) < (y.len : Int) := by omega
          obtain ⟨z, hz⟩ : ∃ z, z = cut22 y := ⟨_, rfl⟩
          obtain ⟨W7, hW7⟩ : ∃ W7, W6.setCell ⟨wr.heap.size, 0, none⟩ (.string (y.name.extract 0 60)) = W7 := ⟨_, rfl⟩
          have hr7 : Row W7 wr.heap.size 38 ((itC y).set 0 (.string (y.name.extract 0 60))) := by rw [← hW7]; exact R6.out.set 0 _
          have hb7 : Below wr.heap.size wr W7 := by rw [← hW7]; exact B6.out.setCell (p := ⟨wr.heap.size, 0, none⟩) (Nat.le_refl _) _
          have hx7 : W7.cell? ⟨wr.heap.size, 1, none⟩ = some (.int .u64 (y.len : Int)) := Row.cell hr7 1
          have hf7 := Row.frozen hr7 1
          obtain ⟨W8, hW8⟩ : ∃ W8, W7.setCell ⟨wr.heap.size, 1, none⟩ (.int .u64 4611686018427387903) = W8 := ⟨_, rfl⟩
          have hr8 : Row W8 wr.heap.size 38 (((itC y).set 0 (.string (y.name.extract 0 60))).set 1 (.int .u64 4611686018427387903)) := by rw [← hW8]; exact Row.set hr7 1 _
          have hb8 : Below wr.heap.size wr W8 := by rw [← hW8]; exact Below.setCell hb7 (p := ⟨wr.heap.size, 1, none⟩) (Nat.le_refl _) _
          have hzc : itC z = (((itC y).set 0 (.string (y.name.extract 0 60))).set 1 (.int .u64 4611686018427387903)) := by rw [hz]; unfold cut22; rw [if_pos hsz60, if_pos hM]; rfl
          have hzo : ItOk z := by rw [hz]; exact (cut22_ok HYO.out).1
          have hrz : Row W8 wr.heap.size 38 (itC z) := by rw [hzc]; exact hr8
          have HRX : Hid (W8.rangeAt wr.heap.size 0 (itC z)) := fun k v hv => by rw [Nat.zero_add, Row.cell hrz]; exact hv
          have HZ := Lib.hid hz
          have HZO := Lib.hid hzo
          have hb7a : Below wr.heap.size wr (W8.alloc (.cells (itC z).toArray 38)) := Below.alloc hb8 (Below.size hb8) _
          have O7 := Lib.hid (HO.out.below hb7a (Nat.le_refl _))
          have O7z := hb7a.size
          have HB7A := Lib.hid (hb7a.mono hwr)
          clear hb7a hz hzc hzo hrz hr7 hb7 hr8 hb8
          go_wp2_with (first
            | (with_reducible refine load_item rfl (.tmp 5) rfl wr.heap.size 0 rfl z HZO.out HRX.out ?_)
            | (with_reducible refine build_one rfl (.tmp 34) rfl z HZO.out rfl ?_)
            | (at_builtin; refine app_items (base := w.heap.size) rfl (.tmp 33) (.tmp 35) rfl rfl O7.out rfl (its_lit W8 z HZO.out) (by have := HOL.out; simp only [List.length_singleton]; omega) (by have := O7z; omega) ?_; intro v9 w9 ho9 hb9; have O9 := Lib.hid ho9; have B9 := Lib.hid (HB.out.trans (HB7A.out.trans hb9)); clear ho9 hb9))
          exact ⟨⟨j + 1, by omega, by omega, by go_num, by rw [HNX.out, ← HZ.out]; exact O9.out, B9.out⟩, by simp [intOf]; omega⟩
        · have hMI : ¬ (4611686018427387903 : Int) < (y.len : Int) := by omega
          obtain ⟨z, hz⟩ : ∃ z, z = cut22 y := ⟨_, rfl⟩
          obtain ⟨W7, hW7⟩ : ∃ W7, W6.setCell ⟨wr.heap.size, 0, none⟩ (.string (y.name.extract 0 60)) = W7 := ⟨_, rfl⟩
          have hr7 : Row W7 wr.heap.size 38 ((itC y).set 0 (.string (y.name.extract 0 60))) := by rw [← hW7]; exact R6.out.set 0 _
          have hb7 : Below wr.heap.size wr W7 := by rw [← hW7]; exact B6.out.setCell (p := ⟨wr.heap.size, 0, none⟩) (Nat.le_refl _) _
          have hx7 : W7.cell? ⟨wr.heap.size, 1, none⟩ = some (.int .u64 (y.len : Int)) := Row.cell hr7 1
          have hf7 := Row.frozen hr7 1
          have hzc : itC z = ((itC y).set 0 (.string (y.name.extract 0 60))) := by rw [hz]; unfold cut22; rw [if_pos hsz60, if_neg hM]; rfl
          have hzo : ItOk z := by rw [hz]; exact (cut22_ok HYO.out).1
          have hrz : Row W7 wr.heap.size 38 (itC z) := by rw [hzc]; exact hr7
          have HRX : Hid (W7.rangeAt wr.heap.size 0 (itC z)) := fun k v hv => by rw [Nat.zero_add, Row.cell hrz]; exact hv
          have HZ := Lib.hid hz
          have HZO := Lib.hid hzo
          have hb7a : Below wr.heap.size wr (W7.alloc (.cells (itC z).toArray 38)) := Below.alloc hb7 (Below.size hb7) _
          have O7 := Lib.hid (HO.out.below hb7a (Nat.le_refl _))
          have O7z := hb7a.size
          have HB7A := Lib.hid (hb7a.mono hwr)
          clear hb7a hz hzc hzo hrz hr7 hb7
          go_wp2_with (first
            | (with_reducible refine load_item rfl (.tmp 5) rfl wr.heap.size 0 rfl z HZO.out HRX.out ?_)
            | (with_reducible refine build_one rfl (.tmp 34) rfl z HZO.out rfl ?_)
            | (at_builtin; refine app_items (base := w.heap.size) rfl (.tmp 33) (.tmp 35) rfl rfl O7.out rfl (its_lit W7 z HZO.out) (by have := HOL.out; simp only [List.length_singleton]; omega) (by have := O7z; omega) ?_; intro v9 w9 ho9 hb9; have O9 := Lib.hid ho9; have B9 := Lib.hid (HB.out.trans (HB7A.out.trans hb9)); clear ho9 hb9))
          exact ⟨⟨j + 1, by omega, by omega, by go_num, by rw [HNX.out, ← HZ.out]; exact O9.out, B9.out⟩, by simp [intOf]; omega⟩
      · have hI60 : ¬ (60 : Int) < (y.name.size : Int) := by omega
        by_cases hM : 4611686018427387903 < y.len
        · have hMI : (4611686018427387903 : Int) < (y.len : Int) := by omega
          obtain ⟨z, hz⟩ : ∃ z, z = cut22 y := ⟨_, rfl⟩
          obtain ⟨W8, hW8⟩ : ∃ W8, W6.setCell ⟨wr.heap.size, 1, none⟩ (.int .u64 4611686018427387903) = W8 := ⟨_, rfl⟩
          have hr8 : Row W8 wr.heap.size 38 ((itC y).set 1 (.int .u64 4611686018427387903)) := by rw [← hW8]; exact Row.set R6.out 1 _
          have hb8 : Below wr.heap.size wr W8 := by rw [← hW8]; exact Below.setCell B6.out (p := ⟨wr.heap.size, 1, none⟩) (Nat.le_refl _) _
          have hzc : itC z = ((itC y).set 1 (.int .u64 4611686018427387903)) := by rw [hz]; unfold cut22; rw [if_neg hsz60, if_pos hM]; rfl
          have hzo : ItOk z := by rw [hz]; exact (cut22_ok HYO.out).1
          have hrz : Row W8 wr.heap.size 38 (itC z) := by rw [hzc]; exact hr8
          have HRX : Hid (W8.rangeAt wr.heap.size 0 (itC z)) := fun k v hv => by rw [Nat.zero_add, Row.cell hrz]; exact hv
          have HZ := Lib.hid hz
          have HZO := Lib.hid hzo
          have hb7a : Below wr.heap.size wr (W8.alloc (.cells (itC z).toArray 38)) := Below.alloc hb8 (Below.size hb8) _
          have O7 := Lib.hid (HO.out.below hb7a (Nat.le_refl _))
          have O7z := hb7a.size
          have HB7A := Lib.hid (hb7a.mono hwr)
          clear hb7a hz hzc hzo hrz hr8 hb8
          go_wp2_with (first
            | (with_reducible refine load_item rfl (.tmp 5) rfl wr.heap.size 0 rfl z HZO.out HRX.out ?_)
            | (with_reducible refine build_one rfl (.tmp 34) rfl z HZO.out rfl ?_)
            | (at_builtin; refine app_items (base := w.heap.size) rfl (.tmp 33) (.tmp 35) rfl rfl O7.out rfl (its_lit W8 z HZO.out) (by have := HOL.out; simp only [List.length_singleton]; omega) (by have := O7z; omega) ?_; intro v9 w9 ho9 hb9; have O9 := Lib.hid ho9; have B9 := Lib.hid (HB.out.trans (HB7A.out.trans hb9)); clear ho9 hb9))
          exact ⟨⟨j + 1, by omega, by omega, by go_num, by rw [HNX.out, ← HZ.out]; exact O9.out, B9.out⟩, by simp [intOf]; omega⟩
        · have hMI : ¬ (4611686018427387903 : Int) < (y.len : Int) := by omega
          obtain ⟨z, hz⟩ : ∃ z, z = cut22 y := ⟨_, rfl⟩
          have hzc : itC z = (itC y) := by rw [hz]; unfold cut22; rw [if_neg hsz60, if_neg hM]
          have hzo : ItOk z := by rw [hz]; exact (cut22_ok HYO.out).1
          have hrz : Row W6 wr.heap.size 38 (itC z) := by rw [hzc]; exact R6.out
          have HRX : Hid (W6.rangeAt wr.heap.size 0 (itC z)) := fun k v hv => by rw [Nat.zero_add, Row.cell hrz]; exact hv
          have HZ := Lib.hid hz
          have HZO := Lib.hid hzo
          have hb7a : Below wr.heap.size wr (W6.alloc (.cells (itC z).toArray 38)) := Below.alloc B6.out (Below.size B6.out) _
          have O7 := Lib.hid (HO.out.below hb7a (Nat.le_refl _))
          have O7z := hb7a.size
          have HB7A := Lib.hid (hb7a.mono hwr)
          clear hb7a hz hzc hzo hrz
          go_wp2_with (first
            | (with_reducible refine load_item rfl (.tmp 5) rfl wr.heap.size 0 rfl z HZO.out HRX.out ?_)
            | (with_reducible refine build_one rfl (.tmp 34) rfl z HZO.out rfl ?_)
            | (at_builtin; refine app_items (base := w.heap.size) rfl (.tmp 33) (.tmp 35) rfl rfl O7.out rfl (its_lit W6 z HZO.out) (by have := HOL.out; simp only [List.length_singleton]; omega) (by have := O7z; omega) ?_; intro v9 w9 ho9 hb9; have O9 := Lib.hid ho9; have B9 := Lib.hid (HB.out.trans (HB7A.out.trans hb9)); clear ho9 hb9))
          exact ⟨⟨j + 1, by omega, by omega, by go_num, by rw [HNX.out, ← HZ.out]; exact O9.out, B9.out⟩, by simp [intOf]; omega⟩
    · have HF : Hid ((l.take j).map cut22 = (l.take 8).map cut22) := by
        show _ = _
        by_cases h8 : j = 8
        · rw [h8]
        · rw [List.take_of_length_le (by omega), List.take_of_length_le (by omega)]
      have O2 : Hid (OwnI wr w.heap.size u3 ((l.take 8).map cut22)) := by rw [← HF.out]; exact HO.out
      by_cases hlt1 : j < l.length
      · have hltI : (j : Int) < (l.length : Int) := by omega
        have hn8 : ¬ (j : Int) < 8 := by omega
        go_wp2_with (go_at_call 10; refine (rall_any _ ((l.take 8).map cut22) _ O2.out.its (ItS.oks HCU.out) (by have := HCL.out; omega)).mono ?_; rintro e w5 ⟨v5, rfl, ho5, hb5⟩; have O5 := Lib.hid ho5; have B5 := Lib.hid (HB.out.trans (hb5.mono hwr)); clear ho5 hb5)
        go_ret
        exact ⟨_, rfl, O5.out.mono hwr, B5.out⟩
      · have hltI : ¬ (j : Int) < (l.length : Int) := by omega
        go_wp2_with (go_at_call 10; refine (rall_any _ ((l.take 8).map cut22) _ O2.out.its (ItS.oks HCU.out) (by have := HCL.out; omega)).mono ?_; rintro e w5 ⟨v5, rfl, ho5, hb5⟩; have O5 := Lib.hid ho5; have B5 := Lib.hid (HB.out.trans (hb5.mono hwr)); clear ho5 hb5)
        go_ret
        exact ⟨_, rfl, O5.out.mono hwr, B5.out⟩
theorem lack_append (A L M : List It) : Tre.lackF A (L ++ M) = Tre.lackF A L ++ Tre.lackF A M := by unfold Tre.lackF; rw [List.filterMap_append]
theorem miss_min (A L : List It) : Tre.missF A L = min (Tre.lackF A L).sum 4611686018427387903 := by
  unfold Tre.missF
  rw [Tre.sat_fold _ _ _ (Nat.zero_le _), Nat.zero_add]
theorem miss_full (A C : List It) (j : Nat) (h : Tre.missF A (C.take j) = 4611686018427387903) : Tre.missF A C = 4611686018427387903 := by
  rw [miss_min] at h ⊢
  have : Tre.lackF A C = Tre.lackF A (C.take j) ++ Tre.lackF A (C.drop j) := by rw [← lack_append, List.take_append_drop]
  rw [this, List.sum_append]
  omega
end Go.Proofs.YticabllkadpmeaaGreatDoor
