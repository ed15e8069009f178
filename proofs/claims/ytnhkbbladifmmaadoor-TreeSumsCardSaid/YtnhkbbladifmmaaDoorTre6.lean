/- ref21.Sums. (printed by gen/tre6.py) -/
import Derived.Test.YtnhkbbladifmmaaDoorTre5
import Derived.OrdersHeld
import Derived.Deep.RegionHeld
namespace Go.Proofs.YtnhkbbladifmmaaDoor
set_option linter.unusedVariables false
set_option linter.unusedSimpArgs false
set_option linter.unnecessarySimpa false
open Go.RowKit
open Tre (It)
set_option maxRecDepth 100000
set_option maxHeartbeats 8000000

theorem eqG_sum : Tryd.prog.eqGuardType Tryd.prog.depth 30 = false := by kernel_rfl
theorem exec_neq_sum {ρ : Operand → Value} {o : Oper} (x y : Operand) (ho : o.op = .binOp .neq 30 x y 30) (A B : List UInt8) (hx : ρ x = sumV A) (hy : ρ y = sumV B) (hA : A.length = 32) (hB : B.length = 32) (w : World) :
    (execOp ρ o).run Tryd.prog w = .ok (.value (.bool (!(A == B)))) w := by
  have h1 := run_eqGuard_agg w .neq 30 x y (bytes A).toArray (bytes B).toArray eqG_sum
  have h2 := run_neq_struct (P := Tryd.prog) w 30 (bytes A).toArray (bytes B).toArray
  have h3 := eq_sum A B hA hB w
  unfold sumV at h3 hx hy
  rw [h3] at h2
  unfold execOp
  rw [ho]
  simp only [hx, hy, Sem.run_bind, h1, h2, Result.andThen_ok, Sem.run_pure]
theorem yieldsIf_neq_sum {ops : Array Oper} {S : World → Prop} {o : Oper} {a : Act} (hw : Region.wanted o (yielded ops a.tmps) = true) (x y : Operand) (ho : o.op = .binOp .neq 30 x y 30) (A B : List UInt8) (hx : a.eval x = sumV A) (hy : a.eval y = sumV B) (hA : A.length = 32) (hB : B.length = 32) (b : Bool) (hb : (A == B) = b) :
    YieldsIf Tryd.prog ops S o (.bool (!b)) a := .inl ⟨hw, fun w _ => by rw [exec_neq_sum x y ho A B hx hy hA hB w, hb]⟩
theorem yieldsIf_sum_mid {ops : Array Oper} {S : World → Prop} {o : Oper} {a : Act} (hw : Region.wanted o (yielded ops a.tmps) = true) (x : Operand) (ho : o.op = .load 30 x)
    (b off : Nat) (hx : a.eval x = .pointer (some ⟨b, off, none⟩)) (A : List UInt8) (hA : A.length = 32) (hS : ∀ w, S w → w.rangeAt b off (bytes A)) : YieldsIf Tryd.prog ops S o (sumV A) a :=
  yieldsIf_load_mid hw 30 x ho b off hx (bytes A) _ hS Tryd.underlying30 rfl (by rw [size_sum]; simp [hA])
theorem sms_eq {A B : List (List UInt8)} (h : A.length = B.length) (hj : ∀ k, k < A.length → A.getD k [] = B.getD k []) : A = B := by
  refine List.ext_getElem h fun k h3 h4 => ?_
  have := hj k h3
  simpa [List.getD, List.getElem?_eq_getElem h3, List.getElem?_eq_getElem h4] using this
theorem rsums_any (va vb : Value) (A B : List (List UInt8)) (w : World) (hsA : Sms w va A) (hsB : Sms w vb B) (h32A : L32 A) (h32B : L32 B) :
    Calls Tryd.prog 37 #[va, vb] w fun e w' => e = .returned (.bool (A == B)) ∧ Below w.heap.size w w' := by
  obtain ⟨xa, ca, rfl, hc1, hc2, -, -⟩ := hsA.open
  obtain ⟨xb, cb, rfl, hd1, hd2, -, -⟩ := hsB.open
  have HSA := Lib.hid hsA
  have HSB := Lib.hid hsB
  have HLA := Lib.hid h32A
  have HLB := Lib.hid h32B
  clear hsA hsB h32A h32B
  go_enter Tryd.func37, Tryd.ntmps37
  by_cases hln : A.length = B.length
  case neg =>
    have hnI : ¬ (A.length : Int) = (B.length : Int) := by omega
    go_wp2_with fail
    go_ret
    exact ⟨by rw [beq_eq_false_iff_ne.2 (fun h => hln (by rw [h]))]; rfl, by exact Below.refl _ _⟩
  have HLN := Lib.hid hln
  have hlI : (A.length : Int) = (B.length : Int) := by omega
  clear hln
  go_wp2_with fail
  go_loopw [5] (fun iv wr => ∃ j : Nat, j ≤ A.length ∧ iv = .int .i64 j ∧ (∀ k, k < j → A.getD k [] = B.getD k []) ∧ Below w.heap.size w wr) (fun iv _ => A.length - (intOf iv).toNat)
  case atStart => exact ⟨0, Nat.zero_le _, rfl, (fun k hk => by omega), Below.refl _ _⟩
  case round =>
    obtain ⟨j, hj, rfl, h1, hb⟩ := hrel
    have H1 := Lib.hid h1
    have HB := Lib.hid hb
    clear h1 hb
    by_cases hlt : j < A.length
    · have hltI : (j : Int) < (A.length : Int) := by omega
      have hltB : j < B.length := by rw [← HLN.out]; exact hlt
      have hltBI : (j : Int) < (B.length : Int) := by omega
      obtain ⟨ba, offa, rfl, hata⟩ := HSA.out.at (by omega) HLA.out
      obtain ⟨bb, offb, rfl, hatb⟩ := HSB.out.at (by omega) HLB.out
      have hra := rangeAt_below (hata j hlt) HB.out
      have hrb := rangeAt_below (hatb j hltB) HB.out
      obtain ⟨x, hx⟩ : ∃ x, A.getD j [] = x := ⟨_, rfl⟩
      obtain ⟨y, hy⟩ : ∃ y, B.getD j [] = y := ⟨_, rfl⟩
      have hxl : x.length = 32 := by subst hx; exact HLA.out _ (by simp [List.getD, List.getElem?_eq_getElem hlt])
      have hyl : y.length = 32 := by subst hy; exact HLB.out _ (by simp [List.getD, List.getElem?_eq_getElem hltB])
      rw [hx] at hra
      rw [hy] at hrb
      have HX := Lib.hid hx
      have HY := Lib.hid hy
      have HXL := Lib.hid hxl
      have HYL := Lib.hid hyl
      have HRA := Lib.hid hra
      have HRB := Lib.hid hrb
      clear hra hrb hx hy hxl hyl hata hatb
      obtain ⟨q, hq⟩ : ∃ q, (x == y) = q := ⟨_, rfl⟩
      have HQ := Lib.hid hq
      clear hq
      go_upto_region 6 with fail
      refine wp_region_held_drew (S := fun w' => Below wr.heap.size wr w') (by kernel_rfl) (by exact (Below.refl _ _).drew) (fun hHeld => ?_)
      refine wpAnyH_take (i := 0) (v := ?_) (by simp only [List.getElem?_toArray, List.getElem?_cons_zero, List.getElem?_cons_succ] <;> rfl) (by kernel_rfl) (by kernel_rfl) (by kernel_rfl) (by intro _ _ _ h; exact h) (Or.inl ⟨by rfl, ?_⟩) (by assumption) ?_
      rotate_left
      · intro w _; go_simp; try with_reducible rfl
      try simp only [Act.put, List.setIfInBounds_toArray, List.set_cons_zero, List.set_cons_succ, Array.replicate]
      refine wpAnyH_take (i := 1) (v := ?_) (by simp only [List.getElem?_toArray, List.getElem?_cons_zero, List.getElem?_cons_succ] <;> rfl) (by kernel_rfl) (by kernel_rfl) (by kernel_rfl) (by intro _ _ _ h; exact h) (Or.inl ⟨by rfl, ?_⟩) (by assumption) ?_
      rotate_left
      · intro w _; go_simp; try with_reducible rfl
      try simp only [Act.put, List.setIfInBounds_toArray, List.set_cons_zero, List.set_cons_succ, Array.replicate]
      refine wpAnyH_take (i := 2) (v := ?_) (by simp only [List.getElem?_toArray, List.getElem?_cons_zero, List.getElem?_cons_succ] <;> rfl) (by kernel_rfl) (by kernel_rfl) (by kernel_rfl) (by intro _ _ _ h; exact h) (Or.inl ⟨by rfl, ?_⟩) (by assumption) ?_
      rotate_left
      · intro w _; go_simp; try with_reducible rfl
      try simp only [Act.put, List.setIfInBounds_toArray, List.set_cons_zero, List.set_cons_succ, Array.replicate]
      refine wpAnyH_take (i := 3) (v := _) (by simp only [List.getElem?_toArray, List.getElem?_cons_zero, List.getElem?_cons_succ] <;> rfl) (by kernel_rfl) (by kernel_rfl) (by kernel_rfl) (by intro _ _ _ h; exact h) (yieldsIf_sum_mid (by with_unfolding_all rfl) (.tmp 19) rfl ba _ rfl x HXL.out (fun w' hS => rangeAt_below HRA.out hS)) (by assumption) ?_
      try simp only [Act.put, List.setIfInBounds_toArray, List.set_cons_zero, List.set_cons_succ, Array.replicate]
      refine wpAnyH_take (i := 4) (v := ?_) (by simp only [List.getElem?_toArray, List.getElem?_cons_zero, List.getElem?_cons_succ] <;> rfl) (by kernel_rfl) (by kernel_rfl) (by kernel_rfl) (by intro _ _ _ h; exact h) (Or.inl ⟨by rfl, ?_⟩) (by assumption) ?_
      rotate_left
      · intro w _; go_simp; try with_reducible rfl
      try simp only [Act.put, List.setIfInBounds_toArray, List.set_cons_zero, List.set_cons_succ, Array.replicate]
      refine wpAnyH_take (i := 5) (v := ?_) (by simp only [List.getElem?_toArray, List.getElem?_cons_zero, List.getElem?_cons_succ] <;> rfl) (by kernel_rfl) (by kernel_rfl) (by kernel_rfl) (by intro _ _ _ h; exact h) (Or.inl ⟨by rfl, ?_⟩) (by assumption) ?_
      rotate_left
      · intro w _; go_simp; try with_reducible rfl
      try simp only [Act.put, List.setIfInBounds_toArray, List.set_cons_zero, List.set_cons_succ, Array.replicate]
      refine wpAnyH_take (i := 6) (v := ?_) (by simp only [List.getElem?_toArray, List.getElem?_cons_zero, List.getElem?_cons_succ] <;> rfl) (by kernel_rfl) (by kernel_rfl) (by kernel_rfl) (by intro _ _ _ h; exact h) (Or.inl ⟨by rfl, ?_⟩) (by assumption) ?_
      rotate_left
      · intro w _; go_simp; try with_reducible rfl
      try simp only [Act.put, List.setIfInBounds_toArray, List.set_cons_zero, List.set_cons_succ, Array.replicate]
      refine wpAnyH_take (i := 7) (v := _) (by simp only [List.getElem?_toArray, List.getElem?_cons_zero, List.getElem?_cons_succ] <;> rfl) (by kernel_rfl) (by kernel_rfl) (by kernel_rfl) (by intro _ _ _ h; exact h) (yieldsIf_sum_mid (by with_unfolding_all rfl) (.tmp 23) rfl bb _ rfl y HYL.out (fun w' hS => rangeAt_below HRB.out hS)) (by assumption) ?_
      try simp only [Act.put, List.setIfInBounds_toArray, List.set_cons_zero, List.set_cons_succ, Array.replicate]
      refine wpAnyH_take (i := 8) (v := _) (by simp only [List.getElem?_toArray, List.getElem?_cons_zero, List.getElem?_cons_succ] <;> rfl) (by kernel_rfl) (by kernel_rfl) (by kernel_rfl) (by intro _ _ _ h; exact h) (yieldsIf_neq_sum (by with_unfolding_all rfl) (.tmp 20) (.tmp 24) rfl x y rfl rfl HXL.out HYL.out _ HQ.out) (by assumption) ?_
      try simp only [Act.put, List.setIfInBounds_toArray, List.set_cons_zero, List.set_cons_succ, Array.replicate]
      refine wpAnyH_done (by kernel_rfl) ?_ _
      cases q with
      | false =>
        go_wp2_with fail
        go_ret
        exact ⟨by rw [beq_eq_false_iff_ne.2 (fun h => by have := HQ.out; rw [← HX.out, ← HY.out, h] at this; simp at this)]; rfl, HB.out.trans (hHeld.mono HB.out.size)⟩
      | true =>
        go_wp2_with fail
        refine ⟨⟨j + 1, by omega, by go_num, fun k hk => ?_, HB.out.trans (hHeld.mono HB.out.size)⟩, by simp [intOf]; omega⟩
        rcases Nat.lt_or_ge k j with h | h
        · exact H1.out k h
        · rw [show k = j by omega, HX.out, HY.out]; exact beq_iff_eq.1 HQ.out
    · have hjl : j = A.length := by omega
      have hnI : ¬ (j : Int) < (A.length : Int) := by omega
      have HG : Hid (A = B) := sms_eq HLN.out (fun k hk => H1.out k (by omega))
      clear hjl hlt hj
      go_wp2_with fail
      go_ret
      exact ⟨by rw [HG.out]; simp, by exact HB.out⟩
end Go.Proofs.YtnhkbbladifmmaaDoor
