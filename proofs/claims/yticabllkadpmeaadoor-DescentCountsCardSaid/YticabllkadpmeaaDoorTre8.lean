/- Items: equality. -/
import Derived.Test.YticabllkadpmeaaDoorTre5
import Derived.OrdersHeld
import Derived.Deep.RegionHeld
namespace Go.Proofs.YticabllkadpmeaaDoor
set_option linter.unusedVariables false
set_option linter.unusedSimpArgs false
set_option linter.unnecessarySimpa false
open Go.RowKit
open Tre (It)
set_option maxRecDepth 100000
set_option maxHeartbeats 4000000

theorem item_stood : Tryd.prog.stoodInHeld 35 = false := by kernel_rfl
theorem eq_item_d (d : Nat) (x y : It) (hx : ItOk x) (hy : ItOk y) (w : World) : (Op.equalIn (d + 1 + 1 + 1) 35 (.agg (itC x).toArray) (.agg (itC y).toArray)).run Tryd.prog w = .ok (x.name.toList == y.name.toList && x.len == y.len && x.sum == y.sum) w := by
  have hf : (Tryd.prog.fieldsOf 35).toList = [⟨"Name", 9, 0, false, "", "", 0⟩, ⟨"Len", 31, 1, false, "", "", 16⟩, ⟨"Sum", 33, 2, false, "", "", 24⟩] := by
    unfold Program.fieldsOf
    rw [Tryd.underlying35]
  have hst : Tryd.prog.underlying 35 = some (.struct (Tryd.prog.fieldsOf 35)) := by
    unfold Program.fieldsOf
    rw [Tryd.underlying35]
  have hs := eq_sum_d d x.sum y.sum hx.2.1 hy.2.1 w
  rw [show d + 2 = d + 1 + 1 from rfl] at hs
  have e1 := run_equalIn_string w (d + 1) 9 x.name y.name Tryd.underlying9
  have e2 := run_equalIn_int w (d + 1) 31 .u64 .u64 (x.len : Int) (y.len : Int) Tryd.underlying31
  rw [run_equalIn_struct w (d + 1 + 1) 35 _ _ hst item_stood, hf]
  have p1 : ∀ z : It, (part 9 (itC z).toArray 0).run Tryd.prog w = .ok (.string z.name) w := by
    intro z
    simp [part, isAgg, run_underlying Tryd.underlying9, itC]
  have p2 : ∀ z : It, (part 31 (itC z).toArray 1).run Tryd.prog w = .ok (.int .u64 (z.len : Int)) w := by
    intro z
    simp [part, isAgg, run_underlying Tryd.underlying31, itC]
  have p3 : ∀ z : It, ItOk z → (part 33 (itC z).toArray 2).run Tryd.prog w = .ok (sumV z.sum) w := by
    intro z hz
    simp [part, isAgg, run_underlying Tryd.underlying33, itC]
    rw [List.take_of_length_le (by simp [hz.2.1])]
    rfl
  have g2 := p3 x hx
  have g3 := p3 y hy
  have this : ((x.len : Int) == (y.len : Int)) = (x.len == y.len) := by
    by_cases h : x.len = y.len
    · simp [h]
    · rw [beq_eq_false_iff_ne.2 h, beq_eq_false_iff_ne.2 (by omega)]
  rw [this] at e2
  clear this hst hf
  obtain ⟨b1, h1⟩ : ∃ b, (x.name.toList == y.name.toList) = b := ⟨_, rfl⟩
  obtain ⟨b2, h2⟩ : ∃ b, (x.len == y.len) = b := ⟨_, rfl⟩
  obtain ⟨b3, h3⟩ : ∃ b, (x.sum == y.sum) = b := ⟨_, rfl⟩
  rw [h1] at e1
  rw [h2] at e2
  rw [h3] at hs
  rw [h1, h2, h3]
  clear h1 h2 h3
  generalize d + 1 + 1 = D at e1 e2 hs ⊢
  simp [Op.eqFields, p1, e1]
  rw [p2, Result.andThen_ok, p2, Result.andThen_ok, e2, Result.andThen_ok, g2, Result.andThen_ok, g3, Result.andThen_ok, hs, Result.andThen_ok]
  cases b1 <;> cases b2 <;> cases b3 <;> rfl
end Go.Proofs.YticabllkadpmeaaDoor
namespace Go.Proofs.YticabllkadpmeaaDoor
set_option linter.unusedVariables false
set_option linter.unusedSimpArgs false
set_option linter.unnecessarySimpa false
open Go.RowKit
open Tre (It)
set_option maxRecDepth 100000
set_option maxHeartbeats 8000000

theorem eqG_item : Tryd.prog.eqGuardType Tryd.prog.depth 35 = false := by kernel_rfl
def itEq (x y : It) : Bool := x.name.toList == y.name.toList && x.len == y.len && x.sum == y.sum
theorem itEq_iff (x y : It) : itEq x y = true ↔ x = y := by
  constructor
  · intro h
    unfold itEq at h
    simp only [Bool.and_eq_true, beq_iff_eq] at h
    obtain ⟨⟨h1, h2⟩, h3⟩ := h
    have h4 : x.name = y.name := by
      rw [ByteArray.toList_eq, ByteArray.toList_eq] at h1
      exact Tre.name_eq h1
    cases x; cases y; simp_all
  · rintro rfl; unfold itEq; simp
theorem exec_neq_item {ρ : Operand → Value} {o : Oper} (x y : Operand) (ho : o.op = .binOp .neq 35 x y 35) (A B : It) (hx : ρ x = .agg (itC A).toArray) (hy : ρ y = .agg (itC B).toArray) (hA : ItOk A) (hB : ItOk B) (w : World) :
    (execOp ρ o).run Tryd.prog w = .ok (.value (.bool (!(itEq A B)))) w := by
  have h1 := run_eqGuard_agg w .neq 35 x y (itC A).toArray (itC B).toArray eqG_item
  have h2 := run_neq_struct (P := Tryd.prog) w 35 (itC A).toArray (itC B).toArray
  have h3 := eq_item_d 9997 A B hA hB w
  rw [h3] at h2
  unfold execOp
  rw [ho]
  simp only [hx, hy, Sem.run_bind, h1, h2, Result.andThen_ok, Sem.run_pure]
  rfl
theorem yieldsIf_neq_item {ops : Array Oper} {S : World → Prop} {o : Oper} {a : Act} (hw : Region.wanted o (yielded ops a.tmps) = true) (x y : Operand) (ho : o.op = .binOp .neq 35 x y 35) (A B : It) (hx : a.eval x = .agg (itC A).toArray) (hy : a.eval y = .agg (itC B).toArray) (hA : ItOk A) (hB : ItOk B) (b : Bool) (hb : itEq A B = b) :
    YieldsIf Tryd.prog ops S o (.bool (!b)) a := .inl ⟨hw, fun w _ => by rw [exec_neq_item x y ho A B hx hy hA hB w, hb]⟩
theorem yieldsIf_item_mid {ops : Array Oper} {S : World → Prop} {o : Oper} {a : Act} (hw : Region.wanted o (yielded ops a.tmps) = true) (x : Operand) (ho : o.op = .load 35 x)
    (b off : Nat) (hx : a.eval x = .pointer (some ⟨b, off, none⟩)) (A : It) (hA : ItOk A) (hS : ∀ w, S w → w.rangeAt b off (itC A)) : YieldsIf Tryd.prog ops S o (.agg (itC A).toArray) a :=
  yieldsIf_load_mid hw 35 x ho b off hx (itC A) _ hS Tryd.underlying35 rfl (by rw [size_item, itC_length hA])
theorem its_eq {A B : List It} (h : A.length = B.length) (hj : ∀ k, k < A.length → A.getD k dIt = B.getD k dIt) : A = B := by
  refine List.ext_getElem h fun k h3 h4 => ?_
  have := hj k h3
  simpa [List.getD, List.getElem?_eq_getElem h3, List.getElem?_eq_getElem h4] using this
theorem rsame_any (va vb : Value) (A B : List It) (w : World) (hsA : Its w va A) (hsB : Its w vb B) (h32A : Oks A) (h32B : Oks B) :
    Calls Tryd.prog 6 #[va, vb] w fun e w' => ∃ q : Bool, e = .returned (.bool q) ∧ (q = true ↔ A = B) ∧ Below w.heap.size w w' := by
  obtain ⟨xa, ca, rfl, hc1, hc2, -⟩ := hsA.open
  obtain ⟨xb, cb, rfl, hd1, hd2, -⟩ := hsB.open
  have HSA := Lib.hid hsA
  have HSB := Lib.hid hsB
  have HLA := Lib.hid h32A
  have HLB := Lib.hid h32B
  clear hsA hsB h32A h32B
  go_enter Tryd.func6, Tryd.ntmps6
  by_cases hln : A.length = B.length
  case neg =>
    have hnI : ¬ (A.length : Int) = (B.length : Int) := by omega
    go_wp2_with fail
    go_ret
    exact ⟨false, rfl, by simp only [Bool.false_eq_true, false_iff]; exact fun h => hln (by rw [h]), by exact Below.refl _ _⟩
  have HLN := Lib.hid hln
  have hlI : (A.length : Int) = (B.length : Int) := by omega
  clear hln
  go_wp2_with fail
  go_loopw [5] (fun iv wr => ∃ j : Nat, j ≤ A.length ∧ iv = .int .i64 j ∧ (∀ k, k < j → A.getD k dIt = B.getD k dIt) ∧ Below w.heap.size w wr) (fun iv _ => A.length - (intOf iv).toNat)
  case atStart => exact ⟨0, Nat.zero_le _, rfl, (fun k hk => by omega), Below.refl _ _⟩
  case round =>
    obtain ⟨j, hj, rfl, h1, hb⟩ := hrel
    have H1 := Lib.hid h1
    have HB := Lib.hid hb
    clear h1 hb
    by_cases hlt : j < A.length
    · have hltI : (j : Int) < (A.length : Int) := by omega
      have hltB : j < B.length := by rw [← HLN.out]; exact hlt
      have hltBI : (j : Int) < (B.length : Int) := by omega
      obtain ⟨ba, offa, rfl, -⟩ := HSA.out.cells (by omega) HLA.out
      obtain ⟨bb, offb, rfl, -⟩ := HSB.out.cells (by omega) HLB.out
      have hra := rangeAt_below (HSA.out.range HLA.out j hlt) HB.out
      have hrb := rangeAt_below (HSB.out.range HLB.out j hltB) HB.out
      obtain ⟨x, hx⟩ : ∃ x, A.getD j dIt = x := ⟨_, rfl⟩
      obtain ⟨y, hy⟩ : ∃ y, B.getD j dIt = y := ⟨_, rfl⟩
      have hxl : ItOk x := by subst hx; exact HLA.out _ (by simp [List.getD, List.getElem?_eq_getElem hlt])
      have hyl : ItOk y := by subst hy; exact HLB.out _ (by simp [List.getD, List.getElem?_eq_getElem hltB])
      rw [hx] at hra
      rw [hy] at hrb
      have HX := Lib.hid hx
      have HY := Lib.hid hy
      have HXL := Lib.hid hxl
      have HYL := Lib.hid hyl
      have HRA := Lib.hid hra
      have HRB := Lib.hid hrb
      clear hra hrb hx hy hxl hyl
      obtain ⟨q, hq⟩ : ∃ q, itEq x y = q := ⟨_, rfl⟩
      have HQ := Lib.hid hq
      clear hq
      go_upto_region 6 with fail
      refine wp_region_held_drew (S := fun w' => Below wr.heap.size wr w') (by kernel_rfl) (by exact (Below.refl _ _).drew) (fun hHeld => ?_)
      refine wpAnyH_take (i := 0) (v := ?_) (by simp only [List.getElem?_toArray, List.getElem?_cons_zero, List.getElem?_cons_succ] <;> rfl) (by kernel_rfl) (by kernel_rfl) (by kernel_rfl) (by intro _ _ _ h; exact h) (Or.inl ⟨by rfl, ?_⟩) (by assumption) ?_
      rotate_left
      · intro w _; go_simp; try with_reducible rfl
      try simp only [Act.put, List.setIfInBounds_toArray, List.set_cons_zero, List.set_cons_succ, Array.replicate]
      refine wpAnyH_take (i := 1) (v := ?_) (by simp only [List.getElem?_toArray, List.getElem?_cons_zero, List.getElem?_cons_succ] <;> rfl) (by kernel_rfl) (by kernel_rfl) (by kernel_rfl) (by intro _ _ _ h; exact h) (Or.inl ⟨by rfl, ?_⟩) (by assumption) ?_
      rotate_left
      · intro w _; go_simp; try with_reducible rfl
      try simp only [Act.put, List.setIfInBounds_toArray, List.set_cons_zero, List.set_cons_succ, Array.replicate]
      refine wpAnyH_take (i := 2) (v := ?_) (by simp only [List.getElem?_toArray, List.getElem?_cons_zero, List.getElem?_cons_succ] <;> rfl) (by kernel_rfl) (by kernel_rfl) (by kernel_rfl) (by intro _ _ _ h; exact h) (Or.inl ⟨by rfl, ?_⟩) (by assumption) ?_
      rotate_left
      · intro w _; go_simp; try with_reducible rfl
      try simp only [Act.put, List.setIfInBounds_toArray, List.set_cons_zero, List.set_cons_succ, Array.replicate]
      refine wpAnyH_take (i := 3) (v := _) (by simp only [List.getElem?_toArray, List.getElem?_cons_zero, List.getElem?_cons_succ] <;> rfl) (by kernel_rfl) (by kernel_rfl) (by kernel_rfl) (by intro _ _ _ h; exact h) (yieldsIf_item_mid (by with_unfolding_all rfl) (.tmp 19) rfl ba _ rfl x HXL.out (fun w' hS => rangeAt_below HRA.out hS)) (by assumption) ?_
      try simp only [Act.put, List.setIfInBounds_toArray, List.set_cons_zero, List.set_cons_succ, Array.replicate]
      refine wpAnyH_take (i := 4) (v := ?_) (by simp only [List.getElem?_toArray, List.getElem?_cons_zero, List.getElem?_cons_succ] <;> rfl) (by kernel_rfl) (by kernel_rfl) (by kernel_rfl) (by intro _ _ _ h; exact h) (Or.inl ⟨by rfl, ?_⟩) (by assumption) ?_
      rotate_left
      · intro w _; go_simp; try with_reducible rfl
      try simp only [Act.put, List.setIfInBounds_toArray, List.set_cons_zero, List.set_cons_succ, Array.replicate]
      refine wpAnyH_take (i := 5) (v := ?_) (by simp only [List.getElem?_toArray, List.getElem?_cons_zero, List.getElem?_cons_succ] <;> rfl) (by kernel_rfl) (by kernel_rfl) (by kernel_rfl) (by intro _ _ _ h; exact h) (Or.inl ⟨by rfl, ?_⟩) (by assumption) ?_
      rotate_left
      · intro w _; go_simp; try with_reducible rfl
      try simp only [Act.put, List.setIfInBounds_toArray, List.set_cons_zero, List.set_cons_succ, Array.replicate]
      refine wpAnyH_take (i := 6) (v := ?_) (by simp only [List.getElem?_toArray, List.getElem?_cons_zero, List.getElem?_cons_succ] <;> rfl) (by kernel_rfl) (by kernel_rfl) (by kernel_rfl) (by intro _ _ _ h; exact h) (Or.inl ⟨by rfl, ?_⟩) (by assumption) ?_
      rotate_left
      · intro w _; go_simp; try with_reducible rfl
      try simp only [Act.put, List.setIfInBounds_toArray, List.set_cons_zero, List.set_cons_succ, Array.replicate]
      refine wpAnyH_take (i := 7) (v := _) (by simp only [List.getElem?_toArray, List.getElem?_cons_zero, List.getElem?_cons_succ] <;> rfl) (by kernel_rfl) (by kernel_rfl) (by kernel_rfl) (by intro _ _ _ h; exact h) (yieldsIf_item_mid (by with_unfolding_all rfl) (.tmp 23) rfl bb _ rfl y HYL.out (fun w' hS => rangeAt_below HRB.out hS)) (by assumption) ?_
      try simp only [Act.put, List.setIfInBounds_toArray, List.set_cons_zero, List.set_cons_succ, Array.replicate]
      refine wpAnyH_take (i := 8) (v := _) (by simp only [List.getElem?_toArray, List.getElem?_cons_zero, List.getElem?_cons_succ] <;> rfl) (by kernel_rfl) (by kernel_rfl) (by kernel_rfl) (by intro _ _ _ h; exact h) (yieldsIf_neq_item (by with_unfolding_all rfl) (.tmp 20) (.tmp 24) rfl x y rfl rfl HXL.out HYL.out _ HQ.out) (by assumption) ?_
      try simp only [Act.put, List.setIfInBounds_toArray, List.set_cons_zero, List.set_cons_succ, Array.replicate]
      refine wpAnyH_done (by kernel_rfl) ?_ _
      cases q with
      | false =>
        go_wp2_with fail
        go_ret
        exact ⟨false, rfl, by simp only [Bool.false_eq_true, false_iff]; exact (fun h => by have := HQ.out; rw [← HX.out, ← HY.out, h, (itEq_iff _ _).2 rfl] at this; cases this), HB.out.trans (hHeld.mono HB.out.size)⟩
      | true =>
        go_wp2_with fail
        refine ⟨⟨j + 1, by omega, by go_num, fun k hk => ?_, HB.out.trans (hHeld.mono HB.out.size)⟩, by simp [intOf]; omega⟩
        rcases Nat.lt_or_ge k j with h | h
        · exact H1.out k h
        · rw [show k = j by omega, HX.out, HY.out]; exact (itEq_iff _ _).1 HQ.out
    · have hjl : j = A.length := by omega
      have hnI : ¬ (j : Int) < (A.length : Int) := by omega
      have HG : Hid (A = B) := its_eq HLN.out (fun k hk => H1.out k (by omega))
      clear hjl hlt hj
      go_wp2_with fail
      go_ret
      exact Or.inr ⟨rfl, HG.out, HB.out⟩
end Go.Proofs.YticabllkadpmeaaDoor
