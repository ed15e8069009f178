/- errors.As, errors.Is at package api's errors: the walks. (printed by gen/errs2.py, after the kit's worked texts ToyasAs, SentryIs) -/
import Derived.Test.YtojoeaaodomfnaaGreatDoorErrs
namespace Go.Proofs.YtojoeaaodomfnaaGreatDoor
set_option linter.unusedVariables false
set_option linter.unusedSimpArgs false
set_option linter.unnecessarySimpa false
open Go.RowKit Go.Extern.Stop Go.Stop Go.Extern
set_option maxRecDepth 100000
set_option maxHeartbeats 4000000
namespace Errs

theorem setE (tb sb : Nat) (n : Int) (C : List Value) (W : World) (ht : Row W tb 38 C) (hC : C.length = 1) (hb : W.cell? ⟨sb, 0, none⟩ = some (.int .i64 n)) :
    (ReflectliteValue.set #[.agg #[.pointer (some ⟨11, 38, none⟩), .pointer (some ⟨tb, 0, none⟩), .int .u64 386], .agg #[.pointer (some ⟨11, 38, none⟩), .pointer (some ⟨sb, 0, none⟩), .int .u64 130]]).run Tryz.prog W
      = .ok (.tuple #[]) (W.setCell ⟨tb, 0, none⟩ (.int .i64 n)) := by
  rw [rls]
  simp only [Sem.run_bind, partsAE, partsE, Result.andThen]
  have h0 : ∃ u, C[0]? = some u := ⟨_, List.getElem?_eq_getElem (by omega)⟩
  obtain ⟨u, hu⟩ := h0
  have ht0 := ht.cell 0
  rw [hu] at ht0
  have hf := ht.frozen 0
  simp [ReflectliteValue.flagAddr, loadVar, isAgg, underlying, Tryz.underlying38, hb, Result.andThen, directE, storeVar, Value.cells, storeCells, Addr.add]
  rw [run_store Tryz.prog W ⟨tb, 0, none⟩ _ _ (by rfl)]
  simp [ht0, hf]
theorem setF (tb sb : Nat) (s : ByteArray) (n : Int) (C : List Value) (W : World) (ht : Row W tb 61 C) (hC : C.length = 2) (hb : W.cell? ⟨sb, 0, none⟩ = some (.string s)) (hb1 : W.cell? ⟨sb, 1, none⟩ = some (.iface 38 (.int .i64 n))) :
    (ReflectliteValue.set #[.agg #[.pointer (some ⟨11, 61, none⟩), .pointer (some ⟨tb, 0, none⟩), .int .u64 409], .agg #[.pointer (some ⟨11, 61, none⟩), .pointer (some ⟨sb, 0, none⟩), .int .u64 153]]).run Tryz.prog W
      = .ok (.tuple #[]) ((W.setCell ⟨tb, 0, none⟩ (.string s)).setCell ⟨tb, 1, none⟩ (.iface 38 (.int .i64 n))) := by
  rw [rls]
  simp only [Sem.run_bind, partsAF, partsF, Result.andThen]
  obtain ⟨u, hu⟩ : ∃ u, C[0]? = some u := ⟨_, List.getElem?_eq_getElem (by omega)⟩
  obtain ⟨v, hv⟩ : ∃ v, C[1]? = some v := ⟨_, List.getElem?_eq_getElem (by omega)⟩
  have ht0 := ht.cell 0
  rw [hu] at ht0
  have hf := ht.frozen 0
  have h2 := ht.set 0 (.string s)
  have ht1 := h2.cell 1
  have hv2 : (C.set 0 (.string s))[1]? = some v := by rw [List.getElem?_set_ne (by decide)]; exact hv
  rw [hv2] at ht1
  have hf1 := h2.frozen 1
  have hlc : (loadCells ⟨sb, 0, none⟩ 2).run Tryz.prog W = .ok #[.string s, .iface 38 (.int .i64 n)] W := run_loadCells_list (P := Tryz.prog) (w := W) ⟨sb, 0, none⟩ [.string s, .iface 38 (.int .i64 n)] (fun j v hj => by
    match j, hj with
    | 0, hj => simp only [List.getElem?_cons_zero, Option.some.injEq] at hj; subst hj; simpa [Addr.add] using hb
    | 1, hj => simp only [List.getElem?_cons_succ, List.getElem?_cons_zero, Option.some.injEq] at hj; subst hj; simpa [Addr.add] using hb1)
  simp [ReflectliteValue.flagAddr, loadVar, isAgg, underlying, Tryz.underlying61, Tryz.underlying60, sizeF, hlc, Result.andThen, directF, storeVar, Value.cells, storeCells, Addr.add]
  rw [run_store Tryz.prog W ⟨tb, 0, none⟩ _ _ (by rfl)]
  simp [ht0, hf]
  rw [run_store Tryz.prog (W.setCell ⟨tb, 0, none⟩ (.string s)) ⟨tb, 1, none⟩ _ _ (by rfl)]
  simp [ht1, hf1]
theorem as_EE (tb : Nat) (n : Int) (C : List Value) (w : World) (hg : w.cell? ⟨2, 0, none⟩ = some (.iface 97 (.agg #[.pointer (some ⟨11, 33, none⟩)]))) (ht : Row w tb 38 C) (hC : C.length = 1) :
    Calls Tryz.prog 24 #[.iface 38 (.int .i64 n), .iface 59 (.pointer (some ⟨tb, 0, none⟩))] w fun e w' => e = .returned (.bool true) ∧ Upd tb w w' ∧ Row w' tb 38 [.int .i64 n] := by
  have h_VO := @run_callFunc_extern Tryz.prog 39 _ (fun args => ReflectliteValue.unpack (args.getD 0 (.tuple #[]))) Tryz.func39 (by kernel_rfl) (by kernel_rfl) (by kernel_rfl) (by kernel_rfl)
  have h_VT := @run_callFunc_extern Tryz.prog 40 _ (ReflectliteValue.methodAny (ReflectliteValue.valueError "reflectlite.Value.Type" 0) (fun t _ _ _ => ReflectliteType.toType t)) Tryz.func40 (by kernel_rfl) (by kernel_rfl) (by kernel_rfl) (by kernel_rfl)
  have h_VN := @run_callFunc_extern Tryz.prog 41 _ (ReflectliteValue.method (ReflectliteValue.valueError "reflectlite.Value.IsNil" 0) ReflectliteValue.isNil) Tryz.func41 (by kernel_rfl) (by kernel_rfl) (by kernel_rfl) (by kernel_rfl)
  have h_KI := @run_callFunc_extern Tryz.prog 108 _ (ReflectliteType.abiMethod fun t => do pure (.int .u8 (← Rtype.kind t))) Tryz.func108 (by kernel_rfl) (by kernel_rfl) (by kernel_rfl) (by kernel_rfl)
  have h_RE := @run_callFunc_extern Tryz.prog 121 _ (ReflectliteType.method ReflectliteType.elem) Tryz.func121 (by kernel_rfl) (by kernel_rfl) (by kernel_rfl) (by kernel_rfl)
  have h_RI := @run_callFunc_extern Tryz.prog 122 _ (ReflectliteType.relation "Implements" ReflectliteType.implements_) Tryz.func122 (by kernel_rfl) (by kernel_rfl) (by kernel_rfl) (by kernel_rfl)
  have h_TO := @run_callFunc_extern Tryz.prog 25 _ ReflectliteType.typeOf Tryz.func25 (by kernel_rfl) (by kernel_rfl) (by kernel_rfl) (by kernel_rfl)
  have h_RA := @run_callFunc_extern Tryz.prog 119 _ (ReflectliteType.relation "AssignableTo" ReflectliteType.assignableTo) Tryz.func119 (by kernel_rfl) (by kernel_rfl) (by kernel_rfl) (by kernel_rfl)
  have h_VE := @run_callFunc_extern Tryz.prog 52 _ (ReflectliteValue.method (ReflectliteValue.valueError "reflectlite.Value.Elem" 0) ReflectliteValue.elem) Tryz.func52 (by kernel_rfl) (by kernel_rfl) (by kernel_rfl) (by kernel_rfl)
  have h_VS := @run_callFunc_extern Tryz.prog 53 _ ReflectliteValue.set Tryz.func53 (by kernel_rfl) (by kernel_rfl) (by kernel_rfl) (by kernel_rfl)
  have k_mKind := mKind
  have k_mElem := mElem
  have k_mImpl := mImpl
  have k_mAssign := mAssign
  have k_valueOfPE := valueOfPE
  have k_typePE := typePE
  have k_kindPE := kindPE
  have k_kindE := kindE
  have k_elemTPE := elemTPE
  have k_implementsE := implementsE
  have k_elemVPE := elemVPE
  have k_valueOfE := valueOfE
  have k_typeOfE := typeOfE
  have k_assignEE := assignEE
  have hlt : 2 < w.heap.size := blt hg
  have htl := ht.lt
  have n8 := isNilPE ⟨w.heap.size, 0, none⟩ ⟨tb, 0, none⟩ ((w.alloc (.cells #[.pointer (some ⟨tb, 0, none⟩)] 59)).alloc (.cells #[.pointer (some ⟨11, 59, none⟩), .pointer (some ⟨w.heap.size, 0, none⟩), .int .u64 150] 89)) (by simp)
  have hg2 : ((w.alloc (.cells #[.pointer (some ⟨tb, 0, none⟩)] 59)).alloc (.cells #[.pointer (some ⟨11, 59, none⟩), .pointer (some ⟨w.heap.size, 0, none⟩), .int .u64 150] 89)).cell? ⟨2, 0, none⟩ = some (.iface 97 (.agg #[.pointer (some ⟨11, 33, none⟩)])) := by
    rw [World.cell?_alloc_lt _ _ ⟨2, 0, none⟩ (by simp; omega), World.cell?_alloc_lt _ _ ⟨2, 0, none⟩ hlt]; exact hg
  have el := elemVPE ⟨w.heap.size, 0, none⟩ ⟨tb, 0, none⟩ (((w.alloc (.cells #[.pointer (some ⟨tb, 0, none⟩)] 59)).alloc (.cells #[.pointer (some ⟨11, 59, none⟩), .pointer (some ⟨w.heap.size, 0, none⟩), .int .u64 150] 89)).alloc (.cells #[.pointer (some ⟨11, 59, none⟩), .pointer (some ⟨w.heap.size, 0, none⟩), .int .u64 150] 89)) (by rw [World.cell?_alloc_lt _ _ ⟨w.heap.size, 0, none⟩ (by simp; omega), World.cell?_alloc_lt _ _ ⟨w.heap.size, 0, none⟩ (by simp)]; simp)
  have r4 : Row ((((w.alloc (.cells #[.pointer (some ⟨tb, 0, none⟩)] 59)).alloc (.cells #[.pointer (some ⟨11, 59, none⟩), .pointer (some ⟨w.heap.size, 0, none⟩), .int .u64 150] 89)).alloc (.cells #[.pointer (some ⟨11, 59, none⟩), .pointer (some ⟨w.heap.size, 0, none⟩), .int .u64 150] 89)).alloc (.cells #[.int .i64 n] 38)) tb 38 C := ((((ht.alloc _).alloc _).alloc _).alloc _)
  have st := setE tb (w.heap.size + 1 + 1 + 1) n C ((((w.alloc (.cells #[.pointer (some ⟨tb, 0, none⟩)] 59)).alloc (.cells #[.pointer (some ⟨11, 59, none⟩), .pointer (some ⟨w.heap.size, 0, none⟩), .int .u64 150] 89)).alloc (.cells #[.pointer (some ⟨11, 59, none⟩), .pointer (some ⟨w.heap.size, 0, none⟩), .int .u64 150] 89)).alloc (.cells #[.int .i64 n] 38)) r4 hC (by first | (rw [World.cell?_alloc_at _ _ _ _ (by simp)]; rfl) | (have := Row.cell (Row.new (((w.alloc (.cells #[.pointer (some ⟨tb, 0, none⟩)] 59)).alloc (.cells #[.pointer (some ⟨11, 59, none⟩), .pointer (some ⟨w.heap.size, 0, none⟩), .int .u64 150] 89)).alloc (.cells #[.pointer (some ⟨11, 59, none⟩), .pointer (some ⟨w.heap.size, 0, none⟩), .int .u64 150] 89)) 38 [.int .i64 n]) 0; simpa using this)) 
  have HT := Lib.hid ht
  clear ht
  go_enter Tryz.func24, Tryz.ntmps24
  go_wp2
  refine wp_loop_rounds 1 ?_
  rw [rounds_succ]
  go_wp2
  go_ret
  have u4 : Upd tb w ((((w.alloc (.cells #[.pointer (some ⟨tb, 0, none⟩)] 59)).alloc (.cells #[.pointer (some ⟨11, 59, none⟩), .pointer (some ⟨w.heap.size, 0, none⟩), .int .u64 150] 89)).alloc (.cells #[.pointer (some ⟨11, 59, none⟩), .pointer (some ⟨w.heap.size, 0, none⟩), .int .u64 150] 89)).alloc (.cells #[.int .i64 n] 38)) := Upd.of_below (balloc (balloc (balloc (balloc (Below.refl _ _) _) _) _) _)
  refine ⟨rfl, u4.trans (Upd.set _ _ _ _), ?_⟩
  have := r4.set 0 (.int .i64 n)
  match C, hC with
  | [u], _ => exact this
theorem as_FE (tb : Nat) (s : ByteArray) (n : Int) (C : List Value) (w : World) (hg : w.cell? ⟨2, 0, none⟩ = some (.iface 97 (.agg #[.pointer (some ⟨11, 33, none⟩)]))) (ht : Row w tb 38 C) (hC : C.length = 1) :
    Calls Tryz.prog 24 #[.iface 61 (.agg #[.string s, .iface 38 (.int .i64 n)]), .iface 59 (.pointer (some ⟨tb, 0, none⟩))] w fun e w' => e = .returned (.bool true) ∧ Upd tb w w' ∧ Row w' tb 38 [.int .i64 n] := by
  have h_VO := @run_callFunc_extern Tryz.prog 39 _ (fun args => ReflectliteValue.unpack (args.getD 0 (.tuple #[]))) Tryz.func39 (by kernel_rfl) (by kernel_rfl) (by kernel_rfl) (by kernel_rfl)
  have h_VT := @run_callFunc_extern Tryz.prog 40 _ (ReflectliteValue.methodAny (ReflectliteValue.valueError "reflectlite.Value.Type" 0) (fun t _ _ _ => ReflectliteType.toType t)) Tryz.func40 (by kernel_rfl) (by kernel_rfl) (by kernel_rfl) (by kernel_rfl)
  have h_VN := @run_callFunc_extern Tryz.prog 41 _ (ReflectliteValue.method (ReflectliteValue.valueError "reflectlite.Value.IsNil" 0) ReflectliteValue.isNil) Tryz.func41 (by kernel_rfl) (by kernel_rfl) (by kernel_rfl) (by kernel_rfl)
  have h_KI := @run_callFunc_extern Tryz.prog 108 _ (ReflectliteType.abiMethod fun t => do pure (.int .u8 (← Rtype.kind t))) Tryz.func108 (by kernel_rfl) (by kernel_rfl) (by kernel_rfl) (by kernel_rfl)
  have h_RE := @run_callFunc_extern Tryz.prog 121 _ (ReflectliteType.method ReflectliteType.elem) Tryz.func121 (by kernel_rfl) (by kernel_rfl) (by kernel_rfl) (by kernel_rfl)
  have h_RI := @run_callFunc_extern Tryz.prog 122 _ (ReflectliteType.relation "Implements" ReflectliteType.implements_) Tryz.func122 (by kernel_rfl) (by kernel_rfl) (by kernel_rfl) (by kernel_rfl)
  have h_TO := @run_callFunc_extern Tryz.prog 25 _ ReflectliteType.typeOf Tryz.func25 (by kernel_rfl) (by kernel_rfl) (by kernel_rfl) (by kernel_rfl)
  have h_RA := @run_callFunc_extern Tryz.prog 119 _ (ReflectliteType.relation "AssignableTo" ReflectliteType.assignableTo) Tryz.func119 (by kernel_rfl) (by kernel_rfl) (by kernel_rfl) (by kernel_rfl)
  have h_VE := @run_callFunc_extern Tryz.prog 52 _ (ReflectliteValue.method (ReflectliteValue.valueError "reflectlite.Value.Elem" 0) ReflectliteValue.elem) Tryz.func52 (by kernel_rfl) (by kernel_rfl) (by kernel_rfl) (by kernel_rfl)
  have h_VS := @run_callFunc_extern Tryz.prog 53 _ ReflectliteValue.set Tryz.func53 (by kernel_rfl) (by kernel_rfl) (by kernel_rfl) (by kernel_rfl)
  have k_mKind := mKind
  have k_mElem := mElem
  have k_mImpl := mImpl
  have k_mAssign := mAssign
  have k_valueOfPE := valueOfPE
  have k_typePE := typePE
  have k_kindPE := kindPE
  have k_kindE := kindE
  have k_elemTPE := elemTPE
  have k_implementsE := implementsE
  have k_elemVPE := elemVPE
  have k_valueOfE := valueOfE
  have k_typeOfE := typeOfE
  have k_typeOfF := typeOfF
  have k_assignEE := assignEE
  have k_assignFE := assignFE
  have k_noAsF := noAsF
  have k_hasUnwrapF := hasUnwrapF
  have k_mUnwrap := mUnwrap
  have hlt : 2 < w.heap.size := blt hg
  have htl := ht.lt
  have n8 := isNilPE ⟨w.heap.size, 0, none⟩ ⟨tb, 0, none⟩ ((w.alloc (.cells #[.pointer (some ⟨tb, 0, none⟩)] 59)).alloc (.cells #[.pointer (some ⟨11, 59, none⟩), .pointer (some ⟨w.heap.size, 0, none⟩), .int .u64 150] 89)) (by simp)
  have hg2 : ((w.alloc (.cells #[.pointer (some ⟨tb, 0, none⟩)] 59)).alloc (.cells #[.pointer (some ⟨11, 59, none⟩), .pointer (some ⟨w.heap.size, 0, none⟩), .int .u64 150] 89)).cell? ⟨2, 0, none⟩ = some (.iface 97 (.agg #[.pointer (some ⟨11, 33, none⟩)])) := by
    rw [World.cell?_alloc_lt _ _ ⟨2, 0, none⟩ (by simp; omega), World.cell?_alloc_lt _ _ ⟨2, 0, none⟩ hlt]; exact hg
  have el := elemVPE ⟨w.heap.size, 0, none⟩ ⟨tb, 0, none⟩ ((((w.alloc (.cells #[.pointer (some ⟨tb, 0, none⟩)] 59)).alloc (.cells #[.pointer (some ⟨11, 59, none⟩), .pointer (some ⟨w.heap.size, 0, none⟩), .int .u64 150] 89)).alloc (.cells #[.pointer (some ⟨11, 59, none⟩), .pointer (some ⟨w.heap.size, 0, none⟩), .int .u64 150] 89)).alloc (.cells #[.string s, .iface 38 (.int .i64 n)] 61)) (by rw [World.cell?_alloc_lt _ _ ⟨w.heap.size, 0, none⟩ (by simp; omega), World.cell?_alloc_lt _ _ ⟨w.heap.size, 0, none⟩ (by simp; omega), World.cell?_alloc_lt _ _ ⟨w.heap.size, 0, none⟩ (by simp)]; simp)
  have r4 : Row (((((w.alloc (.cells #[.pointer (some ⟨tb, 0, none⟩)] 59)).alloc (.cells #[.pointer (some ⟨11, 59, none⟩), .pointer (some ⟨w.heap.size, 0, none⟩), .int .u64 150] 89)).alloc (.cells #[.pointer (some ⟨11, 59, none⟩), .pointer (some ⟨w.heap.size, 0, none⟩), .int .u64 150] 89)).alloc (.cells #[.string s, .iface 38 (.int .i64 n)] 61)).alloc (.cells #[.int .i64 n] 38)) tb 38 C := (((((ht.alloc _).alloc _).alloc _).alloc _).alloc _)
  have st := setE tb (w.heap.size + 1 + 1 + 1 + 1) n C (((((w.alloc (.cells #[.pointer (some ⟨tb, 0, none⟩)] 59)).alloc (.cells #[.pointer (some ⟨11, 59, none⟩), .pointer (some ⟨w.heap.size, 0, none⟩), .int .u64 150] 89)).alloc (.cells #[.pointer (some ⟨11, 59, none⟩), .pointer (some ⟨w.heap.size, 0, none⟩), .int .u64 150] 89)).alloc (.cells #[.string s, .iface 38 (.int .i64 n)] 61)).alloc (.cells #[.int .i64 n] 38)) r4 hC (by first | (rw [World.cell?_alloc_at _ _ _ _ (by simp)]; rfl) | (have := Row.cell (Row.new ((((w.alloc (.cells #[.pointer (some ⟨tb, 0, none⟩)] 59)).alloc (.cells #[.pointer (some ⟨11, 59, none⟩), .pointer (some ⟨w.heap.size, 0, none⟩), .int .u64 150] 89)).alloc (.cells #[.pointer (some ⟨11, 59, none⟩), .pointer (some ⟨w.heap.size, 0, none⟩), .int .u64 150] 89)).alloc (.cells #[.string s, .iface 38 (.int .i64 n)] 61)) 38 [.int .i64 n]) 0; simpa using this)) 
  have HT := Lib.hid ht
  clear ht
  go_enter Tryz.func24, Tryz.ntmps24
  go_wp2
  refine wp_loop_rounds 2 ?_
  rw [rounds_succ]
  go_wp2
  rw [rounds_succ]
  go_wp2
  go_ret
  have u4 : Upd tb w (((((w.alloc (.cells #[.pointer (some ⟨tb, 0, none⟩)] 59)).alloc (.cells #[.pointer (some ⟨11, 59, none⟩), .pointer (some ⟨w.heap.size, 0, none⟩), .int .u64 150] 89)).alloc (.cells #[.pointer (some ⟨11, 59, none⟩), .pointer (some ⟨w.heap.size, 0, none⟩), .int .u64 150] 89)).alloc (.cells #[.string s, .iface 38 (.int .i64 n)] 61)).alloc (.cells #[.int .i64 n] 38)) := Upd.of_below (balloc (balloc (balloc (balloc (balloc (Below.refl _ _) _) _) _) _) _)
  refine ⟨rfl, u4.trans (Upd.set _ _ _ _), ?_⟩
  have := r4.set 0 (.int .i64 n)
  match C, hC with
  | [u], _ => exact this
theorem as_FF (tb : Nat) (s : ByteArray) (n : Int) (C : List Value) (w : World) (hg : w.cell? ⟨2, 0, none⟩ = some (.iface 97 (.agg #[.pointer (some ⟨11, 33, none⟩)]))) (ht : Row w tb 61 C) (hC : C.length = 2) :
    Calls Tryz.prog 24 #[.iface 61 (.agg #[.string s, .iface 38 (.int .i64 n)]), .iface 62 (.pointer (some ⟨tb, 0, none⟩))] w fun e w' => e = .returned (.bool true) ∧ Upd tb w w' ∧ Row w' tb 61 [.string s, .iface 38 (.int .i64 n)] := by
  have h_VO := @run_callFunc_extern Tryz.prog 39 _ (fun args => ReflectliteValue.unpack (args.getD 0 (.tuple #[]))) Tryz.func39 (by kernel_rfl) (by kernel_rfl) (by kernel_rfl) (by kernel_rfl)
  have h_VT := @run_callFunc_extern Tryz.prog 40 _ (ReflectliteValue.methodAny (ReflectliteValue.valueError "reflectlite.Value.Type" 0) (fun t _ _ _ => ReflectliteType.toType t)) Tryz.func40 (by kernel_rfl) (by kernel_rfl) (by kernel_rfl) (by kernel_rfl)
  have h_VN := @run_callFunc_extern Tryz.prog 41 _ (ReflectliteValue.method (ReflectliteValue.valueError "reflectlite.Value.IsNil" 0) ReflectliteValue.isNil) Tryz.func41 (by kernel_rfl) (by kernel_rfl) (by kernel_rfl) (by kernel_rfl)
  have h_KI := @run_callFunc_extern Tryz.prog 108 _ (ReflectliteType.abiMethod fun t => do pure (.int .u8 (← Rtype.kind t))) Tryz.func108 (by kernel_rfl) (by kernel_rfl) (by kernel_rfl) (by kernel_rfl)
  have h_RE := @run_callFunc_extern Tryz.prog 121 _ (ReflectliteType.method ReflectliteType.elem) Tryz.func121 (by kernel_rfl) (by kernel_rfl) (by kernel_rfl) (by kernel_rfl)
  have h_RI := @run_callFunc_extern Tryz.prog 122 _ (ReflectliteType.relation "Implements" ReflectliteType.implements_) Tryz.func122 (by kernel_rfl) (by kernel_rfl) (by kernel_rfl) (by kernel_rfl)
  have h_TO := @run_callFunc_extern Tryz.prog 25 _ ReflectliteType.typeOf Tryz.func25 (by kernel_rfl) (by kernel_rfl) (by kernel_rfl) (by kernel_rfl)
  have h_RA := @run_callFunc_extern Tryz.prog 119 _ (ReflectliteType.relation "AssignableTo" ReflectliteType.assignableTo) Tryz.func119 (by kernel_rfl) (by kernel_rfl) (by kernel_rfl) (by kernel_rfl)
  have h_VE := @run_callFunc_extern Tryz.prog 52 _ (ReflectliteValue.method (ReflectliteValue.valueError "reflectlite.Value.Elem" 0) ReflectliteValue.elem) Tryz.func52 (by kernel_rfl) (by kernel_rfl) (by kernel_rfl) (by kernel_rfl)
  have h_VS := @run_callFunc_extern Tryz.prog 53 _ ReflectliteValue.set Tryz.func53 (by kernel_rfl) (by kernel_rfl) (by kernel_rfl) (by kernel_rfl)
  have k_mKind := mKind
  have k_mElem := mElem
  have k_mImpl := mImpl
  have k_mAssign := mAssign
  have k_valueOfPF := valueOfPF
  have k_typePF := typePF
  have k_kindPF := kindPF
  have k_kindF := kindF
  have k_elemTPF := elemTPF
  have k_implementsF := implementsF
  have k_elemVPF := elemVPF
  have k_valueOfF := valueOfF
  have k_typeOfF := typeOfF
  have k_assignFF := assignFF
  have hlt : 2 < w.heap.size := blt hg
  have htl := ht.lt
  have n8 := isNilPF ⟨w.heap.size, 0, none⟩ ⟨tb, 0, none⟩ ((w.alloc (.cells #[.pointer (some ⟨tb, 0, none⟩)] 62)).alloc (.cells #[.pointer (some ⟨11, 62, none⟩), .pointer (some ⟨w.heap.size, 0, none⟩), .int .u64 150] 89)) (by simp)
  have hg2 : ((w.alloc (.cells #[.pointer (some ⟨tb, 0, none⟩)] 62)).alloc (.cells #[.pointer (some ⟨11, 62, none⟩), .pointer (some ⟨w.heap.size, 0, none⟩), .int .u64 150] 89)).cell? ⟨2, 0, none⟩ = some (.iface 97 (.agg #[.pointer (some ⟨11, 33, none⟩)])) := by
    rw [World.cell?_alloc_lt _ _ ⟨2, 0, none⟩ (by simp; omega), World.cell?_alloc_lt _ _ ⟨2, 0, none⟩ hlt]; exact hg
  have el := elemVPF ⟨w.heap.size, 0, none⟩ ⟨tb, 0, none⟩ (((w.alloc (.cells #[.pointer (some ⟨tb, 0, none⟩)] 62)).alloc (.cells #[.pointer (some ⟨11, 62, none⟩), .pointer (some ⟨w.heap.size, 0, none⟩), .int .u64 150] 89)).alloc (.cells #[.pointer (some ⟨11, 62, none⟩), .pointer (some ⟨w.heap.size, 0, none⟩), .int .u64 150] 89)) (by rw [World.cell?_alloc_lt _ _ ⟨w.heap.size, 0, none⟩ (by simp; omega), World.cell?_alloc_lt _ _ ⟨w.heap.size, 0, none⟩ (by simp)]; simp)
  have r4 : Row ((((w.alloc (.cells #[.pointer (some ⟨tb, 0, none⟩)] 62)).alloc (.cells #[.pointer (some ⟨11, 62, none⟩), .pointer (some ⟨w.heap.size, 0, none⟩), .int .u64 150] 89)).alloc (.cells #[.pointer (some ⟨11, 62, none⟩), .pointer (some ⟨w.heap.size, 0, none⟩), .int .u64 150] 89)).alloc (.cells #[.string s, .iface 38 (.int .i64 n)] 61)) tb 61 C := ((((ht.alloc _).alloc _).alloc _).alloc _)
  have st := setF tb (w.heap.size + 1 + 1 + 1) s n C ((((w.alloc (.cells #[.pointer (some ⟨tb, 0, none⟩)] 62)).alloc (.cells #[.pointer (some ⟨11, 62, none⟩), .pointer (some ⟨w.heap.size, 0, none⟩), .int .u64 150] 89)).alloc (.cells #[.pointer (some ⟨11, 62, none⟩), .pointer (some ⟨w.heap.size, 0, none⟩), .int .u64 150] 89)).alloc (.cells #[.string s, .iface 38 (.int .i64 n)] 61)) r4 hC (by first | (rw [World.cell?_alloc_at _ _ _ _ (by simp)]; rfl) | (have := Row.cell (Row.new (((w.alloc (.cells #[.pointer (some ⟨tb, 0, none⟩)] 62)).alloc (.cells #[.pointer (some ⟨11, 62, none⟩), .pointer (some ⟨w.heap.size, 0, none⟩), .int .u64 150] 89)).alloc (.cells #[.pointer (some ⟨11, 62, none⟩), .pointer (some ⟨w.heap.size, 0, none⟩), .int .u64 150] 89)) 61 [.string s, .iface 38 (.int .i64 n)]) 0; simpa using this)) (by have := Row.cell (Row.new (((w.alloc (.cells #[.pointer (some ⟨tb, 0, none⟩)] 62)).alloc (.cells #[.pointer (some ⟨11, 62, none⟩), .pointer (some ⟨w.heap.size, 0, none⟩), .int .u64 150] 89)).alloc (.cells #[.pointer (some ⟨11, 62, none⟩), .pointer (some ⟨w.heap.size, 0, none⟩), .int .u64 150] 89)) 61 [.string s, .iface 38 (.int .i64 n)]) 1; simpa using this)
  have HT := Lib.hid ht
  clear ht
  go_enter Tryz.func24, Tryz.ntmps24
  go_wp2
  refine wp_loop_rounds 1 ?_
  rw [rounds_succ]
  go_wp2
  go_ret
  have u4 : Upd tb w ((((w.alloc (.cells #[.pointer (some ⟨tb, 0, none⟩)] 62)).alloc (.cells #[.pointer (some ⟨11, 62, none⟩), .pointer (some ⟨w.heap.size, 0, none⟩), .int .u64 150] 89)).alloc (.cells #[.pointer (some ⟨11, 62, none⟩), .pointer (some ⟨w.heap.size, 0, none⟩), .int .u64 150] 89)).alloc (.cells #[.string s, .iface 38 (.int .i64 n)] 61)) := Upd.of_below (balloc (balloc (balloc (balloc (Below.refl _ _) _) _) _) _)
  refine ⟨rfl, (u4.trans (Upd.set _ _ _ _)).trans (Upd.set _ _ _ _), ?_⟩
  have := (r4.set 0 (.string s)).set 1 (.iface 38 (.int .i64 n))
  match C, hC with
  | [u, v], _ => exact this
theorem as_EF (tb : Nat) (n : Int) (C : List Value) (w : World) (hg : w.cell? ⟨2, 0, none⟩ = some (.iface 97 (.agg #[.pointer (some ⟨11, 33, none⟩)]))) (ht : Row w tb 61 C) :
    Calls Tryz.prog 24 #[.iface 38 (.int .i64 n), .iface 62 (.pointer (some ⟨tb, 0, none⟩))] w fun e w' => e = .returned (.bool false) ∧ Upd tb w w' ∧ Row w' tb 61 C := by
  have h_VO := @run_callFunc_extern Tryz.prog 39 _ (fun args => ReflectliteValue.unpack (args.getD 0 (.tuple #[]))) Tryz.func39 (by kernel_rfl) (by kernel_rfl) (by kernel_rfl) (by kernel_rfl)
  have h_VT := @run_callFunc_extern Tryz.prog 40 _ (ReflectliteValue.methodAny (ReflectliteValue.valueError "reflectlite.Value.Type" 0) (fun t _ _ _ => ReflectliteType.toType t)) Tryz.func40 (by kernel_rfl) (by kernel_rfl) (by kernel_rfl) (by kernel_rfl)
  have h_VN := @run_callFunc_extern Tryz.prog 41 _ (ReflectliteValue.method (ReflectliteValue.valueError "reflectlite.Value.IsNil" 0) ReflectliteValue.isNil) Tryz.func41 (by kernel_rfl) (by kernel_rfl) (by kernel_rfl) (by kernel_rfl)
  have h_KI := @run_callFunc_extern Tryz.prog 108 _ (ReflectliteType.abiMethod fun t => do pure (.int .u8 (← Rtype.kind t))) Tryz.func108 (by kernel_rfl) (by kernel_rfl) (by kernel_rfl) (by kernel_rfl)
  have h_RE := @run_callFunc_extern Tryz.prog 121 _ (ReflectliteType.method ReflectliteType.elem) Tryz.func121 (by kernel_rfl) (by kernel_rfl) (by kernel_rfl) (by kernel_rfl)
  have h_RI := @run_callFunc_extern Tryz.prog 122 _ (ReflectliteType.relation "Implements" ReflectliteType.implements_) Tryz.func122 (by kernel_rfl) (by kernel_rfl) (by kernel_rfl) (by kernel_rfl)
  have h_TO := @run_callFunc_extern Tryz.prog 25 _ ReflectliteType.typeOf Tryz.func25 (by kernel_rfl) (by kernel_rfl) (by kernel_rfl) (by kernel_rfl)
  have h_RA := @run_callFunc_extern Tryz.prog 119 _ (ReflectliteType.relation "AssignableTo" ReflectliteType.assignableTo) Tryz.func119 (by kernel_rfl) (by kernel_rfl) (by kernel_rfl) (by kernel_rfl)
  have h_VE := @run_callFunc_extern Tryz.prog 52 _ (ReflectliteValue.method (ReflectliteValue.valueError "reflectlite.Value.Elem" 0) ReflectliteValue.elem) Tryz.func52 (by kernel_rfl) (by kernel_rfl) (by kernel_rfl) (by kernel_rfl)
  have h_VS := @run_callFunc_extern Tryz.prog 53 _ ReflectliteValue.set Tryz.func53 (by kernel_rfl) (by kernel_rfl) (by kernel_rfl) (by kernel_rfl)
  have k_mKind := mKind
  have k_mElem := mElem
  have k_mImpl := mImpl
  have k_mAssign := mAssign
  have k_valueOfPF := valueOfPF
  have k_typePF := typePF
  have k_kindPF := kindPF
  have k_kindF := kindF
  have k_elemTPF := elemTPF
  have k_implementsF := implementsF
  have k_elemVPF := elemVPF
  have k_typeOfE := typeOfE
  have k_assignEF := assignEF
  have k_noAsE := noAsE
  have k_noUnwrapE := noUnwrapE
  have k_noUnwrapsE := noUnwrapsE
  have hlt : 2 < w.heap.size := blt hg
  have htl := ht.lt
  have n8 := isNilPF ⟨w.heap.size, 0, none⟩ ⟨tb, 0, none⟩ ((w.alloc (.cells #[.pointer (some ⟨tb, 0, none⟩)] 62)).alloc (.cells #[.pointer (some ⟨11, 62, none⟩), .pointer (some ⟨w.heap.size, 0, none⟩), .int .u64 150] 89)) (by simp)
  have hg2 : ((w.alloc (.cells #[.pointer (some ⟨tb, 0, none⟩)] 62)).alloc (.cells #[.pointer (some ⟨11, 62, none⟩), .pointer (some ⟨w.heap.size, 0, none⟩), .int .u64 150] 89)).cell? ⟨2, 0, none⟩ = some (.iface 97 (.agg #[.pointer (some ⟨11, 33, none⟩)])) := by
    rw [World.cell?_alloc_lt _ _ ⟨2, 0, none⟩ (by simp; omega), World.cell?_alloc_lt _ _ ⟨2, 0, none⟩ hlt]; exact hg
  have HT := Lib.hid ht
  clear ht
  go_enter Tryz.func24, Tryz.ntmps24
  go_wp2
  refine wp_loop_rounds 1 ?_
  rw [rounds_succ]
  go_wp2
  go_ret
  have u4 : Upd tb w (((w.alloc (.cells #[.pointer (some ⟨tb, 0, none⟩)] 62)).alloc (.cells #[.pointer (some ⟨11, 62, none⟩), .pointer (some ⟨w.heap.size, 0, none⟩), .int .u64 150] 89)).alloc (.cells #[.pointer (some ⟨11, 62, none⟩), .pointer (some ⟨w.heap.size, 0, none⟩), .int .u64 150] 89)) := Upd.of_below (balloc (balloc (balloc (Below.refl _ _) _) _) _)
  exact ⟨rfl, u4, (((HT.out.alloc _).alloc _).alloc _)⟩
theorem as_nil (t : Value) (w : World) : Calls Tryz.prog 24 #[.nilIface, t] w fun e w' => e = .returned (.bool false) ∧ w = w' := by
  go_enter Tryz.func24, Tryz.ntmps24
  go_wp2
  go_ret
  exact ⟨rfl, rfl⟩
end Errs
end Go.Proofs.YtojoeaaodomfnaaGreatDoor
