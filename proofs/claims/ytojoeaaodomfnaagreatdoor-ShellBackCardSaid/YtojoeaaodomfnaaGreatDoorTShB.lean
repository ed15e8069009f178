/- The walk of ShellBack. (printed by gen/tshb.py) -/
import Derived.Test.YtojoeaaodomfnaaGreatDoorTShP
import Derived.Test.YtojoeaaodomfnaaGreatDoorShlB
namespace Go.Proofs.YtojoeaaodomfnaaGreatDoor
set_option linter.unusedVariables false
set_option linter.unusedSimpArgs false
set_option linter.unnecessarySimpa false
open Go.RowKit
set_option maxRecDepth 100000
set_option maxHeartbeats 4000000
/-- An event that a line is: its line is that line. -/
theorem show_back {s : List UInt8} {x : Shl.Ev} (h : Shl.parseL s = .inr x) : showV x 0 0 0 0 = .tuple #[.string (bs s), .bool true] := by
  obtain ⟨v, hv, h1, h2⟩ := Shl.line_back h
  have hh : hitB x 0 0 0 0 v = true := by unfold hitB; rw [h1, h2, h]; simp [isE]
  unfold showV
  cases hf : Shl.verbs.find? (hitB x 0 0 0 0) with
  | none => exact absurd hh (by simpa using List.find?_eq_none.1 hf v hv)
  | some u =>
    have hu := List.find?_some hf
    have hm := List.mem_of_find?_eq_some hf
    have hi : Shl.isOf u x = true := by unfold hitB at hu; exact ((Bool.and_eq_true _ _).mp hu).1
    obtain rfl := Shl.isOf_one hm hv hi h1
    simp only []
    rw [h2]
theorem ShellBack_walk (s : ByteArray) (w : World) (hg : Gl w) : Calls Tryz.prog 4 #[.string s] w fun e w' => e = .returned (.bool true) ∧ Below w.heap.size w w' := by
  have HG := Lib.hid hg
  have HLV := Lib.hid lives_any
  clear hg
  by_cases hbig : 3000 < s.size
  · have hbI : (3000 : Int) < (s.size : Int) := by omega
    go_enter Tryz.func4, Tryz.ntmps4
    go_wp2_with (go_at_call 6; refine (HLV.out _ HG.out).mono ?_; rintro e w1 ⟨rfl, hb1⟩; have B1 := Lib.hid hb1; clear hb1)
    go_ret
    exact ⟨rfl, B1.out⟩
  have hbI : ¬ (3000 : Int) < (s.size : Int) := by omega
  have hsz : s.size < 4294967281 := by omega
  have hp := fun w1 h1 => Parse_any s hsz w1 h1
  have hr := fun w1 => rparse_any s hsz w1
  obtain ⟨hd, hhd⟩ : ∃ hd, (Shl.wordsL s.data.toList).headD [] = hd := ⟨_, rfl⟩
  obtain ⟨pr, hpr⟩ : ∃ pr, Shl.parseL s.data.toList = pr := ⟨_, rfl⟩
  rw [hpr] at hp hr
  rcases pr with n | x
  · obtain ⟨Y, hY⟩ : ∃ Y, evC ev00 = Y := ⟨_, rfl⟩
    have HYL : Hid (Y.length = 11) := by rw [← hY]; exact (rfl : (evC ev00).length = 11)
    have HY1 : Hid (∀ u ∈ Y, u.oneCell' = true) := by rw [← hY]; exact evOne ev00
    simp only [parseV, evV, hY, hhd, Errs.flt] at hp
    have HP := Lib.hid hp
    clear hp hr hpr hY hhd
    go_enter Tryz.func4, Tryz.ntmps4
    go_wp2_with (first
      | (go_at_call 8; refine (HP.out _ HG.out).mono ?_; rintro e w1 ⟨rfl, hb1⟩; have B1 := Lib.hid hb1; have hs1 := hb1.size; clear hb1)
      | (refine store_box rfl 28 (.tmp 3) (.tmp 16) (by rfl) w1.heap.size (by rfl) Y (by rfl) 28 (evC ev00) (Row.new w1 _ _) (by rw [HYL.out]; rfl) (by rw [HYL.out]; kernel_rfl) HY1.out ?_; intro w2 hr2 hu2; have R2 := Lib.hid hr2; have B2 := Lib.hid (Upd.below' (B1.out.alloc hs1 _) hu2 hs1 (by simp; omega)); clear hr2 hu2)
      | (go_at_call 6; refine (HLV.out _ (HG.out.keep B2.out)).mono ?_; rintro e w3 ⟨rfl, hb3⟩; have B3 := Lib.hid (B2.out.trans (hb3.mono B2.out.size)); clear hb3))
    go_ret
    exact ⟨rfl, B3.out⟩
  · have hsm := Shl.parse_small hpr
    have hLs : s.data.toList.length = s.size := rfl
    have hsh := fun w1 h1 => Show_any x (by obtain ⟨h1, h2, h3, h4, h5⟩ := hsm; omega) (by obtain ⟨h1, h2, h3, h4, h5⟩ := hsm; omega) (by obtain ⟨h1, h2, h3, h4, h5⟩ := hsm; omega) (by obtain ⟨h1, h2, h3, h4, h5⟩ := hsm; omega) 0 0 none none 0 0 0 0 (by omega) (by omega) w1 h1
    rw [show_back hpr, data_bs] at hsh
    have hss : ∀ w1, Gl w1 → Calls Tryz.prog 7 #[.agg (evC x).toArray] w1 fun e w' => e = .returned (.tuple #[.string s, .bool true]) ∧ Below w1.heap.size w1 w' := hsh
    obtain ⟨Y, hY⟩ : ∃ Y, evC x = Y := ⟨_, rfl⟩
    have hsb := fun w1 => same_box x w1
    have HYL : Hid (Y.length = 11) := by rw [← hY]; exact (rfl : (evC x).length = 11)
    have HY1 : Hid (∀ u ∈ Y, u.oneCell' = true) := by rw [← hY]; exact evOne x
    simp only [parseV, rparseV, evV, hY] at hp hr
    rw [hY] at hss hsb
    have HP := Lib.hid hp
    have HR := Lib.hid hr
    have HSB := Lib.hid hsb
    have HSS := Lib.hid hss
    clear hp hr hsb hss hsh hsm hpr hY hhd hLs
    go_enter Tryz.func4, Tryz.ntmps4
    go_upto_region 6 with (first
      | (go_at_call 8; refine (HP.out _ HG.out).mono ?_; rintro e w1 ⟨rfl, hb1⟩; have B1 := Lib.hid hb1; have hs1 := hb1.size; clear hb1)
      | (refine store_box rfl 28 (.tmp 3) (.tmp 16) (by rfl) w1.heap.size (by rfl) Y (by rfl) 28 (evC ev00) (Row.new w1 _ _) (by rw [HYL.out]; rfl) (by rw [HYL.out]; kernel_rfl) HY1.out ?_; intro w2 hr2 hu2; have R2 := Lib.hid hr2; have B2 := Lib.hid (Upd.below' (B1.out.alloc hs1 _) hu2 hs1 (by simp; omega)); clear hr2 hu2))
    go_upto_region 7 with (first
      | (refine load_box rfl 28 (.tmp 3) (by rfl) w1.heap.size (by rfl) Y 28 R2.out _ Tryz.underlying28 rfl (by rw [HYL.out]; kernel_rfl) ?_)
      | (go_at_call 7; refine (HSS.out _ (HG.out.keep B2.out)).mono ?_; rintro e w3 ⟨rfl, hb3⟩; have B3 := Lib.hid (B2.out.trans (hb3.mono B2.out.size)); have R3 := Lib.hid (R2.out.keep hb3); have hs3 := B3.out.size; clear hb3))
    go_upto_region 8 with (first
      | (go_at_call 10; refine (HR.out _).mono ?_; rintro e w4 ⟨rfl, hb4⟩; have B4 := Lib.hid (B3.out.trans (hb4.mono hs3)); have R4 := Lib.hid (R3.out.keep hb4); have hs4 := B4.out.size; have hl4 := R4.out.lt; clear hb4)
      | (refine store_box rfl 28 (.tmp 7) (.tmp 29) (by rfl) w4.heap.size (by rfl) Y (by rfl) 28 (evC ev00) (Row.new w4 _ _) (by rw [HYL.out]; rfl) (by rw [HYL.out]; kernel_rfl) HY1.out ?_; intro w5 hr5 hu5; have R5 := Lib.hid hr5; have B5 := Lib.hid (Upd.below' (B4.out.alloc hs4 _) hu5 hs4 (by simp; omega)); have Q5 := Lib.hid (hu5.row (R4.out.alloc _) (by omega)); clear hr5 hu5))
    go_wp2_with (first
      | (refine load_box_g (by kernel_rfl) 28 (.tmp 3) rfl w1.heap.size rfl Y 28 Q5.out _ Tryz.underlying28 rfl (by rw [HYL.out]; kernel_rfl) ?_)
      | (refine load_box_g (by kernel_rfl) 28 (.tmp 7) rfl w4.heap.size rfl Y 28 R5.out _ Tryz.underlying28 rfl (by rw [HYL.out]; kernel_rfl) ?_)
      | (go_at_call 9; refine (HSB.out _).mono ?_; rintro e w6 ⟨rfl, hb6⟩; have B6 := Lib.hid (B5.out.trans (hb6.mono B5.out.size)); clear hb6)
      | (go_at_call 6; refine (HLV.out _ (HG.out.keep B6.out)).mono ?_; rintro e w7 ⟨rfl, hb7⟩; have B7 := Lib.hid (B6.out.trans (hb7.mono B6.out.size)); clear hb7))
    go_ret
    exact ⟨rfl, B7.out⟩
end Go.Proofs.YtojoeaaodomfnaaGreatDoor
