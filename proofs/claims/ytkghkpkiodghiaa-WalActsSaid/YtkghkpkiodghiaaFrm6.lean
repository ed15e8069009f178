/- Frames: the document's Good and Take. (printed by gen/frm6.py) -/
import Derived.Test.YtkghkpkiodghiaaTk
import Derived.Test.YtkghkpkiodghiaaFrm4
import Derived.Test.YtkghkpkiodghiaaFrm3
import Derived.OrdersHeld
import Derived.Deep.RegionHeld
namespace Go.Proofs.Ytkghkpkiodghiaa
set_option linter.unusedVariables false
set_option linter.unusedSimpArgs false
set_option linter.unnecessarySimpa false
open Go.RowKit
set_option maxRecDepth 100000
set_option maxHeartbeats 4000000

theorem sumB_inj (q : List UInt8) (hq : q.length = 4) (s : Nat) (hs : s < 4294967296) : q = sumB s ↔ beN q = s := by
 match q, hq with
 | [a, b, c, d], _ =>
  have ha := UInt8.toNat_lt a
  have hb := UInt8.toNat_lt b
  have hc := UInt8.toNat_lt c
  have hd := UInt8.toNat_lt d
  have e : beN [a, b, c, d] = ((a.toNat * 256 + b.toNat) * 256 + c.toNat) * 256 + d.toNat := by simp [beN]
  rw [e]
  constructor
  ·intro h
   simp only [sumB, List.cons.injEq, and_true] at h
   obtain ⟨h1, h2, h3, h4⟩ := h
   have k1 := congrArg UInt8.toNat h1
   have k2 := congrArg UInt8.toNat h2
   have k3 := congrArg UInt8.toNat h3
   have k4 := congrArg UInt8.toNat h4
   simp only [UInt8.toNat_ofNat'] at k1 k2 k3 k4
   omega
  ·intro h
   have f (x : UInt8) (n : Nat) (h : x.toNat = n % 256) : x = UInt8.ofNat n := by
    apply UInt8.toNat_inj.1
    rw [UInt8.toNat_ofNat']; exact h
   simp only [sumB, List.cons.injEq, and_true]
   exact ⟨f _ _ (by omega), f _ _ (by omega), f _ _ (by omega), f _ _ (by omega)⟩
theorem goodB_iff (l : List UInt8) (h : 4 ≤ l.length) : goodB l = decide (l.drop (l.length - 4) = sumB (onL 4294967295 (l.take (l.length - 4)))) := by
 have hq : (l.drop (l.length - 4)).length = 4 := by simp; omega
 have := sumB_inj _ hq (onL 4294967295 (l.take (l.length - 4))) (onL_lt _ (by omega) _)
 unfold goodB last4
 rw [decide_eq_true h, Bool.true_and]
 by_cases hc : l.drop (l.length - 4) = sumB (onL 4294967295 (l.take (l.length - 4)))
 ·rw [decide_eq_true hc, this.1 hc]; simp
 ·rw [decide_eq_false hc, beq_eq_false_iff_ne]
  intro hx
  exact hc (this.2 (by omega))
theorem refGood_any (v : Value) (l : List UInt8) (w : World) (h : Sh w v l) :
  Calls Try.prog 63 #[v] w fun e w' => e = .returned (.bool (goodB l)) ∧ Below w.heap.size w w' := by
 obtain ⟨a, cap, rfl, g1, g2, g3, g4⟩ := h.open
 by_cases hl : l.length < 4
 ·have HG := Lib.hid (show goodB l = false by unfold goodB; rw [decide_eq_false (by omega)]; rfl)
  have hI : ¬ 4 ≤ (l.length : Int) := by omega
  clear h g3 g4
  go_enter Try.func63, Try.ntmps63
  go_upto_region 1 with fail
  refine wp_region_held_drew (S := fun w' => Below w.heap.size w w') (by kernel_rfl) (by exact (Below.refl _ _).drew) (fun hHeld => ?_)
  refine tH (i := 0) (v := ?_) (y := (Or.inl ⟨by rfl, ?_⟩)) (h := ?_)
  rotate_left
  ·intro w _; go_simp; try with_reducible rfl
  try simp only [Act.put, List.setIfInBounds_toArray, List.set_cons_zero, List.set_cons_succ, Array.replicate]
  refine tH (i := 1) (v := ?_) (y := (Or.inl ⟨by rfl, ?_⟩)) (h := ?_)
  rotate_left
  ·intro w _; go_simp; try with_reducible rfl
  try simp only [Act.put, List.setIfInBounds_toArray, List.set_cons_zero, List.set_cons_succ, Array.replicate]
  refine tH (i := 2) (v := ?_) (y := (Or.inl ⟨by rfl, ?_⟩)) (h := ?_)
  rotate_left
  ·intro w _; go_simp; try with_reducible rfl
  try simp only [Act.put, List.setIfInBounds_toArray, List.set_cons_zero, List.set_cons_succ, Array.replicate]
  refine tH (i := 3) (v := ?_) (y := (Or.inl ⟨by rfl, ?_⟩)) (h := ?_)
  rotate_left
  ·intro w _; go_simp; try with_reducible rfl
  try simp only [Act.put, List.setIfInBounds_toArray, List.set_cons_zero, List.set_cons_succ, Array.replicate]
  refine tH (i := 4) (v := undef) (y := (Or.inr ⟨by rfl, rfl⟩)) (h := ?_)
  try simp only [Act.put, List.setIfInBounds_toArray, List.set_cons_zero, List.set_cons_succ, Array.replicate]
  refine tH (i := 5) (v := undef) (y := (Or.inr ⟨by rfl, rfl⟩)) (h := ?_)
  try simp only [Act.put, List.setIfInBounds_toArray, List.set_cons_zero, List.set_cons_succ, Array.replicate]
  refine tH (i := 6) (v := undef) (y := (Or.inr ⟨by rfl, rfl⟩)) (h := ?_)
  try simp only [Act.put, List.setIfInBounds_toArray, List.set_cons_zero, List.set_cons_succ, Array.replicate]
  refine tH (i := 7) (v := undef) (y := (Or.inr ⟨by rfl, rfl⟩)) (h := ?_)
  try simp only [Act.put, List.setIfInBounds_toArray, List.set_cons_zero, List.set_cons_succ, Array.replicate]
  refine tH (i := 8) (v := undef) (y := (Or.inr ⟨by rfl, rfl⟩)) (h := ?_)
  try simp only [Act.put, List.setIfInBounds_toArray, List.set_cons_zero, List.set_cons_succ, Array.replicate]
  refine tH (i := 9) (v := undef) (y := (Or.inr ⟨by rfl, rfl⟩)) (h := ?_)
  try simp only [Act.put, List.setIfInBounds_toArray, List.set_cons_zero, List.set_cons_succ, Array.replicate]
  refine tH (i := 10) (v := undef) (y := (Or.inr ⟨by rfl, rfl⟩)) (h := ?_)
  try simp only [Act.put, List.setIfInBounds_toArray, List.set_cons_zero, List.set_cons_succ, Array.replicate]
  refine tH (i := 11) (v := undef) (y := (Or.inr ⟨by rfl, rfl⟩)) (h := ?_)
  try simp only [Act.put, List.setIfInBounds_toArray, List.set_cons_zero, List.set_cons_succ, Array.replicate]
  refine tH (i := 12) (v := undef) (y := (Or.inr ⟨by rfl, rfl⟩)) (h := ?_)
  try simp only [Act.put, List.setIfInBounds_toArray, List.set_cons_zero, List.set_cons_succ, Array.replicate]
  refine tH (i := 13) (v := undef) (y := (Or.inr ⟨by rfl, rfl⟩)) (h := ?_)
  try simp only [Act.put, List.setIfInBounds_toArray, List.set_cons_zero, List.set_cons_succ, Array.replicate]
  refine tH (i := 14) (v := undef) (y := (Or.inr ⟨by rfl, rfl⟩)) (h := ?_)
  try simp only [Act.put, List.setIfInBounds_toArray, List.set_cons_zero, List.set_cons_succ, Array.replicate]
  refine tH (i := 15) (v := undef) (y := (Or.inr ⟨by rfl, rfl⟩)) (h := ?_)
  try simp only [Act.put, List.setIfInBounds_toArray, List.set_cons_zero, List.set_cons_succ, Array.replicate]
  refine tH (i := 16) (v := undef) (y := (Or.inr ⟨by rfl, rfl⟩)) (h := ?_)
  try simp only [Act.put, List.setIfInBounds_toArray, List.set_cons_zero, List.set_cons_succ, Array.replicate]
  refine tH (i := 17) (v := undef) (y := (Or.inr ⟨by rfl, rfl⟩)) (h := ?_)
  try simp only [Act.put, List.setIfInBounds_toArray, List.set_cons_zero, List.set_cons_succ, Array.replicate]
  refine tH (i := 18) (v := undef) (y := (Or.inr ⟨by rfl, rfl⟩)) (h := ?_)
  try simp only [Act.put, List.setIfInBounds_toArray, List.set_cons_zero, List.set_cons_succ, Array.replicate]
  refine tH (i := 19) (v := ?_) (y := (Or.inl ⟨by rfl, ?_⟩)) (h := ?_)
  rotate_left
  ·intro w _; go_simp; try with_reducible rfl
  try simp only [Act.put, List.setIfInBounds_toArray, List.set_cons_zero, List.set_cons_succ, Array.replicate]
  refine tH (i := 20) (v := ?_) (y := (Or.inl ⟨by rfl, ?_⟩)) (h := ?_)
  rotate_left
  ·intro w _; go_simp; try with_reducible rfl
  try simp only [Act.put, List.setIfInBounds_toArray, List.set_cons_zero, List.set_cons_succ, Array.replicate]
  refine wpAnyH_done (by kernel_rfl) ?_ _
  go_wp2_with fail
  go_ret
  rw [HG.out]
  exact ⟨rfl, (Below.refl _ _).drew⟩
 ·have hl4 : 4 ≤ l.length := by omega
  obtain ⟨m, hm⟩ : ∃ m, l.length = m + 4 := ⟨l.length - 4, by omega⟩
  have HG := Lib.hid (goodB_iff l hl4)
  rw [hm, Nat.add_sub_cancel] at HG
  have HT := Lib.hid (g4.take m (by omega))
  have HD := Lib.hid (g4.drop m (by omega))
  have hsm := onL_lt 4294967295 (by omega) (l.take m)
  rw [hm] at g1 HD
  rw [hm]
  have hcx : cap ≠ m := by omega
  have h45 : m + 4 - m = 4 := by omega
  rw [if_neg hcx, h45] at HD
  have h4I : 4 ≤ (m : Int) + 4 := by omega
  have hm4 : (m : Int) ≤ (m : Int) + 4 := by omega
  have hmc : (m : Int) ≤ (cap : Int) := by omega
  have hmn : m ≤ cap := by omega
  have hw : IntKind.i64.wrap (m : Int) = (m : Int) := IntWalk.i64_in _ ⟨by omega, by omega⟩
  have HM := Lib.hid hm
  clear h g3 g4 hl hm hl4 h45
  generalize hO : onL 4294967295 (l.take m) = O at *
  have HO := Lib.hid hO
  clear hO
  generalize l.drop m = q at *
  have HGT := Lib.hid (show goodB l = (q == sumB O) by rw [HG.out]; by_cases hc : q = sumB O <;> simp [hc])
  clear HG
  go_enter Try.func63, Try.ntmps63
  go_upto_region 1 with fail
  refine wp_region_held_drew (S := fun w' => Below w.heap.size w w') (by kernel_rfl) (by exact (Below.refl _ _).drew) (fun hHeld => ?_)
  refine tH (i := 0) (v := ?_) (y := (Or.inl ⟨by rfl, ?_⟩)) (h := ?_)
  rotate_left
  ·intro w _; go_simp; try with_reducible rfl
  try simp only [Act.put, List.setIfInBounds_toArray, List.set_cons_zero, List.set_cons_succ, Array.replicate]
  refine tH (i := 1) (v := ?_) (y := (Or.inl ⟨by rfl, ?_⟩)) (h := ?_)
  rotate_left
  ·intro w _; go_simp; try with_reducible rfl
  try simp only [Act.put, List.setIfInBounds_toArray, List.set_cons_zero, List.set_cons_succ, Array.replicate]
  refine tH (i := 2) (v := ?_) (y := (Or.inl ⟨by rfl, ?_⟩)) (h := ?_)
  rotate_left
  ·intro w _; go_simp; try with_reducible rfl
  try simp only [Act.put, List.setIfInBounds_toArray, List.set_cons_zero, List.set_cons_succ, Array.replicate]
  refine tH (i := 3) (v := ?_) (y := (Or.inl ⟨by rfl, ?_⟩)) (h := ?_)
  rotate_left
  ·intro w _; go_simp; try with_reducible rfl
  try simp only [Act.put, List.setIfInBounds_toArray, List.set_cons_zero, List.set_cons_succ, Array.replicate]
  refine tH (i := 4) (v := ?_) (y := (Or.inl ⟨by rfl, ?_⟩)) (h := ?_)
  rotate_left
  ·intro w _; go_simp; try with_reducible rfl
  try simp only [Act.put, List.setIfInBounds_toArray, List.set_cons_zero, List.set_cons_succ, Array.replicate]
  refine tH (i := 5) (v := ?_) (y := (Or.inl ⟨by rfl, ?_⟩)) (h := ?_)
  rotate_left
  ·intro w _; go_simp; try with_reducible rfl
  try simp only [Act.put, List.setIfInBounds_toArray, List.set_cons_zero, List.set_cons_succ, Array.replicate]
  refine tH (i := 6) (v := ?_) (y := (Or.inl ⟨by rfl, ?_⟩)) (h := ?_)
  rotate_left
  ·intro w _; go_simp; try with_reducible rfl
  try simp only [Act.put, List.setIfInBounds_toArray, List.set_cons_zero, List.set_cons_succ, Array.replicate]
  refine tH (i := 7) (v := ?_) (y := (Or.inl ⟨by rfl, ?_⟩)) (h := ?_)
  rotate_left
  ·intro w _; go_simp; try with_reducible rfl
  try simp only [Act.put, List.setIfInBounds_toArray, List.set_cons_zero, List.set_cons_succ, Array.replicate]
  refine tH (i := 8) (v := ?_) (y := (Or.inl ⟨by rfl, ?_⟩)) (h := ?_)
  rotate_left
  ·intro w _; go_simp; try with_reducible rfl
  try simp only [Act.put, List.setIfInBounds_toArray, List.set_cons_zero, List.set_cons_succ, Array.replicate]
  refine tH (i := 9) (v := ?_) (y := (Or.inl ⟨by rfl, ?_⟩)) (h := ?_)
  rotate_left
  ·intro w hSS; have hcv := conv_run (HD.out.below hSS); go_simp; try with_reducible rfl
  try simp only [Act.put, List.setIfInBounds_toArray, List.set_cons_zero, List.set_cons_succ, Array.replicate]
  refine tH (i := 10) (v := ?_) (y := (Or.inl ⟨by rfl, ?_⟩)) (h := ?_)
  rotate_left
  ·intro w _; go_simp; try with_reducible rfl
  try simp only [Act.put, List.setIfInBounds_toArray, List.set_cons_zero, List.set_cons_succ, Array.replicate]
  refine tH (i := 11) (v := ?_) (y := (Or.inl ⟨by rfl, ?_⟩)) (h := ?_)
  rotate_left
  ·intro w _; go_simp; try with_reducible rfl
  try simp only [Act.put, List.setIfInBounds_toArray, List.set_cons_zero, List.set_cons_succ, Array.replicate]
  refine tH (i := 12) (v := ?_) (y := (Or.inl ⟨by rfl, ?_⟩)) (h := ?_)
  rotate_left
  ·intro w _; go_simp; try with_reducible rfl
  try simp only [Act.put, List.setIfInBounds_toArray, List.set_cons_zero, List.set_cons_succ, Array.replicate]
  refine tH (i := 13) (v := ?_) (y := (Or.inl ⟨by rfl, ?_⟩)) (h := ?_)
  rotate_left
  ·intro w _; go_simp; try with_reducible rfl
  try simp only [Act.put, List.setIfInBounds_toArray, List.set_cons_zero, List.set_cons_succ, Array.replicate]
  refine tH (i := 14) (v := ?_) (y := (Or.inl ⟨by rfl, ?_⟩)) (h := ?_)
  rotate_left
  ·intro w _; go_simp; try with_reducible rfl
  try simp only [Act.put, List.setIfInBounds_toArray, List.set_cons_zero, List.set_cons_succ, Array.replicate]
  refine rH [15] (h := ?_)
  refine cH (h := fun K hK => ?_) (hs := ?_)
  ·go_simp; go_at_call 73; refine (refSum_any _ (l.take m) _ (HT.out.below (by exact hHeld))).mono ?_; rintro e wq ⟨he, hw⟩; rw [HO.out] at he; subst he; subst hw; try go_simp
   refine hK.out _ _ (by first | exact bstep hHeld hbq | exact hHeld) (fun hHeld => ?_)
   clear hK K
   try simp only [Act.put, List.setIfInBounds_toArray, List.set_cons_zero, List.set_cons_succ, Array.replicate]
   refine rH [16] (h := ?_)
   refine cH (h := fun K hK => ?_) (hs := ?_)
   ·go_simp; go_at_call 72; refine (refBytes_any _ hsm _).mono ?_; rintro e wq ⟨vb, rfl, hob, hbq⟩; have hcb := conv_run hob.sh; try go_simp
    refine hK.out _ _ (by first | exact bstep hHeld hbq | exact hHeld) (fun hHeld => ?_)
    clear hK K
    try simp only [Act.put, List.setIfInBounds_toArray, List.set_cons_zero, List.set_cons_succ, Array.replicate]
    refine rH [17] (h := ?_)
    refine cH (h := fun K hK => ?_) (hs := ?_)
    ·go_simp
     refine hK.out _ _ (by first | exact bstep hHeld hbq | exact hHeld) (fun hHeld => ?_)
     clear hK K
     try simp only [Act.put, List.setIfInBounds_toArray, List.set_cons_zero, List.set_cons_succ, Array.replicate]
     refine tH (i := 18) (v := ?_) (y := (Or.inl ⟨by rfl, ?_⟩)) (h := ?_)
     rotate_left
     ·intro w _; go_simp; try with_reducible rfl
     try simp only [Act.put, List.setIfInBounds_toArray, List.set_cons_zero, List.set_cons_succ, Array.replicate]
     refine tH (i := 19) (v := ?_) (y := (Or.inl ⟨by rfl, ?_⟩)) (h := ?_)
     rotate_left
     ·intro w _; go_simp; try with_reducible rfl
     try simp only [Act.put, List.setIfInBounds_toArray, List.set_cons_zero, List.set_cons_succ, Array.replicate]
     refine tH (i := 20) (v := ?_) (y := (Or.inl ⟨by rfl, ?_⟩)) (h := ?_)
     rotate_left
     ·intro w _; go_simp; try with_reducible rfl
     try simp only [Act.put, List.setIfInBounds_toArray, List.set_cons_zero, List.set_cons_succ, Array.replicate]
     refine wpAnyH_done (by kernel_rfl) ?_ _
     clear hcb hw hm4 hmc hmn h4I hcx
     go_wp2_with fail
     go_ret
     rw [HGT.out]
     exact ⟨rfl, by assumption⟩
    exact AllReadyH.nil
   exact AllReadyH.nil
  exact AllReadyH.nil
end Go.Proofs.Ytkghkpkiodghiaa
