/- Chapter 28's laws: 'lives'. -/
import Derived.Test.YtojoeaaodomfnaaGreatDoorLaw28
import Derived.Test.YtojoeaaodomfnaaGreatDoorShl7
namespace Go.Proofs.YtojoeaaodomfnaaGreatDoor
set_option linter.unusedVariables false
set_option linter.unusedSimpArgs false
set_option linter.unnecessarySimpa false
open Go.RowKit
set_option maxRecDepth 100000
set_option maxHeartbeats 4000000
/-- 'register 0 s int' -/
def lineL : List UInt8 := [114, 101, 103, 105, 115, 116, 101, 114, 32, 48, 32, 115, 32, 105, 110, 116]
def evL : Shl.Ev := ⟨0, 0, 0, 0, [115], [105, 110, 116], 0⟩
theorem parse_evL : Shl.parseL lineL = .inr evL := by decide
theorem line_evL : Shl.lineOf (Shl.verbs.getD 0 dV) evL = lineL := by
  have h : Lib.itoa evL.a = [48] := by
    show Lib.itoa ((0 : Nat) : Int) = _
    rw [Lib.itoa_nonneg, Lib.decDigits, dif_pos (by omega)]
    rfl
  have h2 : Shl.lineOf (Shl.verbs.getD 0 dV) evL = Shl.joinL [[114, 101, 103, 105, 115, 116, 101, 114], Lib.itoa evL.a, [115], [105, 110, 116]] := rfl
  rw [h2, h]
  rfl
theorem show_evL : showV evL 0 0 0 0 = .tuple #[.string (bs lineL), .bool true] := by
  have h : hitB evL 0 0 0 0 (Shl.verbs.getD 0 dV) = true := by
    unfold hitB
    rw [line_evL, parse_evL]
    decide
  unfold showV
  rw [Shl.verbs_one (hitB evL 0 0 0 0) dV 0 (by omega) (fun k hk => by omega) h]
  simp only []
  rw [line_evL]
theorem lives_any (w : World) (hg : Gl w) : Calls Tryz.prog 6 #[] w fun e w' => e = .returned (.bool true) ∧ Below w.heap.size w w' := by
  have hp : ∀ w1, Gl w1 → Calls Tryz.prog 8 #[.string ⟨#[114, 101, 103, 105, 115, 116, 101, 114, 32, 48, 32, 115, 32, 105, 110, 116]⟩] w1 fun e w' => e = .returned (.tuple #[.agg (evC evL).toArray, .nilIface]) ∧ Below w1.heap.size w1 w' := fun w1 h1 => by
    have h := Parse_any (bs lineL) (by decide) w1 h1
    rw [bs_data, parse_evL] at h
    exact h
  have hs : ∀ w1, Gl w1 → Calls Tryz.prog 7 #[.agg (evC evL).toArray] w1 fun e w' => e = .returned (.tuple #[.string ⟨#[114, 101, 103, 105, 115, 116, 101, 114, 32, 48, 32, 115, 32, 105, 110, 116]⟩, .bool true]) ∧ Below w1.heap.size w1 w' := fun w1 h1 => by
    have h := Show_any evL (by decide) (by decide) (by decide) (by decide) 0 0 none none 0 0 0 0 (by omega) (by omega) w1 h1
    rw [show_evL] at h
    exact h
  have h5 : (evC evL)[5]? = some (.string ⟨#[105, 110, 116]⟩) := rfl
  have hl : (evC evL).length = 11 := rfl
  have h1 := evOne evL
  obtain ⟨Y, hY⟩ : ∃ Y, evC evL = Y := ⟨_, rfl⟩
  rw [hY] at hp hs h5 hl h1
  have HP := Lib.hid hp
  have HS := Lib.hid hs
  have H5 := Lib.hid h5
  have HYL := Lib.hid hl
  have HY1 := Lib.hid h1
  have HG := Lib.hid hg
  clear hp hs h5 hl h1 hY hg
  go_enter Tryz.func6, Tryz.ntmps6
  go_upto_region 2 with (first
    | (go_at_call 8; refine (HP.out _ HG.out).mono ?_; rintro e w1 ⟨rfl, hb1⟩; have B1 := Lib.hid hb1; have hs1 := hb1.size; clear hb1)
    | (refine store_box rfl 28 (.tmp 1) (.tmp 7) (by rfl) w1.heap.size (by rfl) Y (by rfl) 28 (evC ev00) (Row.new w1 _ _) (by rw [HYL.out]; rfl) (by rw [HYL.out]; kernel_rfl) HY1.out ?_; intro w2 hr2 hu2; have R2 := Lib.hid hr2; have B2 := Lib.hid (Upd.below' (B1.out.alloc hs1 _) hu2 hs1 (by simp; omega)); clear hr2 hu2))
  go_wp2_with (first
    | (refine load_box rfl 28 (.tmp 1) (by rfl) w1.heap.size (by rfl) Y 28 R2.out _ Tryz.underlying28 rfl (by rw [HYL.out]; kernel_rfl) ?_)
    | (go_at_call 7; refine (HS.out _ (HG.out.keep B2.out)).mono ?_; rintro e w3 ⟨rfl, hb3⟩; have B3 := Lib.hid (B2.out.trans (hb3.mono B2.out.size)); have hc5 := (R2.out.keep hb3).cell 5; rw [H5.out] at hc5; clear hb3))
  go_ret
  exact ⟨rfl, B3.out⟩
end Go.Proofs.YtojoeaaodomfnaaGreatDoor
