/- errors.Is at package api's errors; package fault. (printed by gen/errs3.py) -/
import Derived.Test.YtojoeaaodomfnaaGreatDoorErrs2
import Derived.Lib.IfaceEq
namespace Go.Proofs.YtojoeaaodomfnaaGreatDoor
set_option linter.unusedVariables false
set_option linter.unusedSimpArgs false
set_option linter.unnecessarySimpa false
open Go.RowKit Go.Extern.Stop Go.Stop Go.Extern
set_option maxRecDepth 100000
set_option maxHeartbeats 4000000
namespace Errs
def compM : Array Value → Sem Value := ReflectliteType.method fun t => do Rtype.noPackHeld "Comparable" t; pure (.bool (← typeInfo t).comparable)
theorem compE (w : World) : (compM #[.agg #[.pointer (some ⟨11, 38, none⟩)]]).run Tryz.prog w = .ok (.bool true) w := by kernel_rfl
theorem isCompE : (Tryz.prog.info? 38).map (·.comparable) = some true := by kernel_rfl
/-- An error of package api, wrapped. -/
def flt (s : ByteArray) (n : Int) : Value := .iface 61 (.agg #[.string s, .iface 38 (.int .i64 n)])
theorem is_FE (s : ByteArray) (n : Int) (w : World) : Calls Tryz.prog 14 #[flt s n, .iface 38 (.int .i64 n)] w fun e w' => e = .returned (.bool true) ∧ Below w.heap.size w w' := by
  have h_TO := @run_callFunc_extern Tryz.prog 25 _ ReflectliteType.typeOf Tryz.func25 (by kernel_rfl) (by kernel_rfl) (by kernel_rfl) (by kernel_rfl)
  have h_RC := @run_callFunc_extern Tryz.prog 120 _ compM Tryz.func120 (by kernel_rfl) (by kernel_rfl) (by kernel_rfl) (by kernel_rfl)
  have k_typeOfE := typeOfE
  have k_compE := compE
  have k_mComp := mComp
  have k_noIsF := noIsF
  have k_noIsE := noIsE
  have k_hasUnwrapF := hasUnwrapF
  have k_mUnwrap := mUnwrap
  have hty := run_eql_iface_types (P := Tryz.prog) 61 38 (.agg #[.string s, .iface 38 (.int .i64 n)]) (.int .i64 n) Tryz.underlying33 (by decide) w
  have heq : ∀ W : World, (binOp .eql 33 (.iface 38 (.int .i64 n)) (.iface 38 (.int .i64 n))).run Tryz.prog W = .ok (.bool true) W := fun W => by
    have := Lib.run_eql_iface_int (P := Tryz.prog) (k := .i64) W n n Tryz.underlying33 isCompE Tryz.underlying38
    simpa using this
  unfold flt
  go_enter Tryz.func14, Tryz.ntmps14
  go_wp2
  refine wp_loop_rounds 2 ?_
  rw [rounds_succ]
  go_wp2
  rw [rounds_succ]
  go_wp2
  go_ret
  exact ⟨rfl, balloc (Below.refl _ _) _⟩
theorem why_E (n : Int) (w : World) (hg : w.cell? ⟨2, 0, none⟩ = some (.iface 97 (.agg #[.pointer (some ⟨11, 33, none⟩)]))) :
    Calls Tryz.prog 47 #[.iface 38 (.int .i64 n)] w fun e w' => e = .returned (.int .i64 n) ∧ Below w.heap.size w w' := by
  have hlt := blt hg
  have HG := Lib.hid (bcell (balloc (Below.refl _ w) (.cells #[.int .i64 0] 38)) hg hlt)
  have B1 := Lib.hid (balloc (Below.refl _ w) (.cells #[.int .i64 0] 38))
  clear hg
  go_enter Tryz.func47, Tryz.ntmps47
  go_wp2_with (go_at_call 24; refine (as_EE w.heap.size n [.int .i64 0] _ HG.out (Row.new w 38 [.int .i64 0]) rfl).mono ?_; rintro e w2 ⟨rfl, hu, hr⟩; have U2 := Lib.hid hu; have hc := hr.cell 0; simp only [List.getElem?_cons_zero] at hc; clear hu hr)
  go_ret
  exact ⟨rfl, B1.out.trans (U2.out.below (Nat.le_refl _) B1.out.size)⟩
theorem At_E (s : ByteArray) (n : Int) (hn : n ≠ 0) (w : World) (hg : w.cell? ⟨2, 0, none⟩ = some (.iface 97 (.agg #[.pointer (some ⟨11, 33, none⟩)]))) :
    Calls Tryz.prog 35 #[.string s, .iface 38 (.int .i64 n)] w fun e w' => e = .returned (flt s n) ∧ Below w.heap.size w w' := by
  have HG := Lib.hid hg
  have hnb : (n == 0) = false := by rw [beq_eq_false_iff_ne]; exact hn
  clear hg
  go_enter Tryz.func35, Tryz.ntmps35
  go_wp2_with (go_at_call 47; refine (why_E n _ HG.out).mono ?_; rintro e w2 ⟨rfl, hb⟩; have B2 := Lib.hid hb; clear hb)
  go_ret
  exact ⟨rfl, B2.out⟩
end Errs
end Go.Proofs.YtojoeaaodomfnaaGreatDoor
