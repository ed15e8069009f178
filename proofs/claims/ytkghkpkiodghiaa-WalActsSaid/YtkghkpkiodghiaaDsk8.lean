/- The document's disk: Write, Replace, Sync. (printed by gen/dsk8.py) -/
import Derived.Test.YtkghkpkiodghiaaTk
import Derived.Test.YtkghkpkiodghiaaDsk6
namespace Go.Proofs.Ytkghkpkiodghiaa
set_option linter.unusedVariables false
set_option linter.unusedSimpArgs false
set_option linter.unnecessarySimpa false
open Go.RowKit
set_option maxRecDepth 100000
set_option maxHeartbeats 4000000

def RD.write (R : RD) (n : Int) (b : List UInt8) : RD × Nat :=
 if R.dead = true ∨ (R.armed = true ∧ R.left = 0) then (R.kill, 140) else if n < 0 ∨ 1 < n then (R.tick, 1) else if R.lim - (((R.all 0).length + (R.all 1).length : Nat) : Int) < (b.length : Int) then (R.tick, 8)
 else if n = 0 then ({ R.tick with m0 := R.m0 ++ b }, 0) else ({ R.tick with m1 := R.m1 ++ b }, 0)
def RD.replace (R : RD) (n : Int) (b : List UInt8) : RD × Nat :=
 if R.dead = true ∨ (R.armed = true ∧ R.left = 0) then (R.kill, 140) else if n < 0 ∨ 1 < n then (R.tick, 1) else if R.lim - ((R.all (if n = 0 then 1 else 0)).length : Int) < (b.length : Int) then (R.tick, 8)
 else if n = 0 then ({ R.tick with o0 := b, m0 := [], i0 := true }, 0) else ({ R.tick with o1 := b, m1 := [], i1 := true }, 0)
def RD.sync (R : RD) (n : Int) : RD × Nat :=
 if R.dead = true ∨ (R.armed = true ∧ R.left = 0) then (R.kill, 140) else if n < 0 ∨ 1 < n then (R.tick, 1) else (R.tick.fast n.toNat (R.all n.toNat), 0)
theorem Rdk.lim {w : World} {q : Nat} {R : RD} (h : Rdk w q R) : w.cell? ⟨q, 8, none⟩ = some (.int .i64 R.lim) := by
 obtain ⟨xf0, kf0, xf1, kf1, xm0, km0, xm1, km1, xo0, ko0, xo1, ko1, hR, -⟩ := h
 rw [Row.cell hR 8]; rfl
theorem refSize_of (q : Nat) (R : RD) (A : Nat) (hA : (R.all 0).length + (R.all 1).length = A) (w : World) (hR0 : Rdk w q R) (hs : R.sz ≤ 140737488355328) :
  Calls Try.prog 68 #[.pointer (some ⟨q, 0, none⟩)] w fun e w' => e = .returned (.int .i64 (A : Int)) ∧ Below w.heap.size w w' := by
 subst hA; exact rdSize_any q R w hR0 hs
theorem refAll_len (q : Nat) (n : Nat) (hn : n < 2) (R : RD) (A : Nat) (hA : (R.all n).length = A) (w : World) (hR0 : Rdk w q R) (hs : R.sz ≤ 140737488355328) :
  Calls Try.prog 38 #[.pointer (some ⟨q, 0, none⟩), .int .i64 n] w fun e w' => ∃ x k, e = .returned (.slice x A k) ∧ Below w.heap.size w w' := by
 subst hA
 exact (refAll_any q n hn R w hR0 hs).mono fun e w' ⟨v, h1, h2, h3⟩ => by
  obtain ⟨x, k, rfl, -⟩ := h2.sh.open
  exact ⟨x, k, h1, h3⟩
theorem refWrite_any (q : Nat) (n : Int) (vb : Value) (b : List UInt8) (R : RD) (w : World) (hR0 : Rdk w q R) (hsb : ∀ w', Upd q w w' → Sh w' vb b) (hbl : b.length ≤ 140737488355328) (hm : -9223372036854775808 < R.left ∧ R.left ≤ 9223372036854775807) (hs : R.sz ≤ 100000000000) (hlim : -1000000000000 ≤ R.lim ∧ R.lim ≤ 1000000000000) :
  Calls Try.prog 52 #[.pointer (some ⟨q, 0, none⟩), .int .i64 n, vb] w fun e w' => e = .returned (.int .i64 ((R.write n b).2 : Int)) ∧ Rdk w' q (R.write n b).1 ∧ Upd q w w' := by
 obtain ⟨xv, kv, rfl, -⟩ := (hsb w (Upd.refl _ _)).open
 have HSB := Lib.hid hsb
 clear hsb
 have H := Lib.hid hR0
 clear hR0
 by_cases hbad : R.dead = true ∨ (R.armed = true ∧ R.left = 0)
 ·have e0 : R.write n b = (R.kill, 140) := by unfold RD.write; rw [if_pos hbad]
  rw [e0]
  clear e0
  go_enter Try.func52, Try.ntmps52
  go_wp2_with fail
  refine (refcounts_bad q n R _ H.out hbad).mono ?_; rintro e w1 ⟨rfl, hr1, hu1⟩
  go_wp2_with fail
  go_ret
  exact ⟨rfl, hr1, hu1⟩
 ·by_cases harg : n < 0 ∨ 1 < n
  ·have e0 : R.write n b = (R.tick, 1) := by unfold RD.write; rw [if_neg hbad, if_pos harg]
   rw [e0]
   clear e0
   go_enter Try.func52, Try.ntmps52
   go_wp2_with fail
   refine (refcounts_arg q n R _ H.out hbad hm harg).mono ?_; rintro e w1 ⟨rfl, hr1, hu1⟩
   go_wp2_with fail
   go_ret
   exact ⟨rfl, hr1, hu1⟩
  ·have hn01 : n = ((0 : Nat) : Int) ∨ n = ((1 : Nat) : Int) := by omega
   rcases hn01 with rfl | rfl
   ·obtain ⟨A, hA⟩ : ∃ A, (R.tick.all 0).length + (R.tick.all 1).length = A := ⟨_, rfl⟩
    have hA' : (R.all 0).length + (R.all 1).length = A := hA
    have hAb : A ≤ 200000000000 := by have h0 := R.all_le 0; have h1 := R.all_le 1; omega
    have hl8 : R.tick.lim = R.lim := rfl
    have hw6 : IntKind.i64.wrap (R.lim - (A : Int)) = R.lim - (A : Int) := IntWalk.i64_in _ ⟨by omega, by omega⟩
    by_cases hfit : R.lim - (A : Int) < (b.length : Int)
    ·have e0 : R.write ((0 : Nat) : Int) b = (R.tick, 8) := by unfold RD.write; rw [if_neg hbad, if_neg harg, hA']; exact if_pos hfit
     rw [e0]
     clear e0
     go_enter Try.func52, Try.ntmps52
     go_wp2_with fail
     refine (refcounts_ok q _ R _ H.out hbad hm (by omega)).mono ?_; rintro e w1 ⟨rfl, hr1, hu1⟩
     have HR1 := Lib.hid hr1
     have HU1 := Lib.hid hu1
     clear hr1 hu1
     have h8 := Rdk.lim HR1.out
     have H8 := Lib.hid h8
     clear h8
     go_upto_region 4 with fail
     refine wp_region_held_drew (S := fun w' => Below w1.heap.size w1 w') (by kernel_rfl) (by exact (Below.refl _ _).drew) (fun hHeld => ?_)
     refine tH (i := 0) (v := ?_) (y := (Or.inl ⟨by rfl, ?_⟩)) (h := ?_)
     rotate_left
     ·intro w _; go_simp; try with_reducible rfl
     try simp only [Act.put, List.setIfInBounds_toArray, List.set_cons_zero, List.set_cons_succ, Array.replicate]
     refine tH (i := 1) (v := ?_) (y := (Or.inl ⟨by rfl, ?_⟩)) (h := ?_)
     rotate_left
     ·intro w _; go_simp; try with_reducible rfl
     try simp only [Act.put, List.setIfInBounds_toArray, List.set_cons_zero, List.set_cons_succ, Array.replicate]
     refine tH (i := 2) (v := ?_) (y := (Or.inl ⟨by rfl, ?_⟩)) (h := ?_)
     rotate_left
     ·intro w _; go_simp; try with_reducible rfl
     try simp only [Act.put, List.setIfInBounds_toArray, List.set_cons_zero, List.set_cons_succ, Array.replicate]
     refine tH (i := 3) (v := ?_) (y := (Or.inl ⟨by rfl, ?_⟩)) (h := ?_)
     rotate_left
     ·intro w _; go_simp; try with_reducible rfl
     try simp only [Act.put, List.setIfInBounds_toArray, List.set_cons_zero, List.set_cons_succ, Array.replicate]
     refine tH (i := 4) (v := ?_) (y := (Or.inl ⟨by rfl, ?_⟩)) (h := ?_)
     rotate_left
     ·intro w _; go_simp; try with_reducible rfl
     try simp only [Act.put, List.setIfInBounds_toArray, List.set_cons_zero, List.set_cons_succ, Array.replicate]
     refine tH (i := 5) (v := ?_) (y := (Or.inl ⟨by rfl, ?_⟩)) (h := ?_)
     rotate_left
     ·intro w hSS; have h8 := bkeep hSS H8.out; go_simp; try with_reducible rfl
     try simp only [Act.put, List.setIfInBounds_toArray, List.set_cons_zero, List.set_cons_succ, Array.replicate]
     refine tH (i := 6) (v := ?_) (y := (Or.inl ⟨by rfl, ?_⟩)) (h := ?_)
     rotate_left
     ·intro w _; go_simp; try with_reducible rfl
     try simp only [Act.put, List.setIfInBounds_toArray, List.set_cons_zero, List.set_cons_succ, Array.replicate]
     refine rH [7] (h := ?_)
     refine cH (h := fun K hK => ?_) (hs := ?_)
     ·go_simp; go_at_call 68; refine (refSize_of q R.tick A hA _ (HR1.out.below (by exact hHeld)) (by exact Nat.le_trans hs (by decide))).mono ?_; rintro e wq ⟨rfl, hbq⟩; try go_simp
      refine hK.out _ _ (by exact bstep hHeld hbq) (fun hHeld => ?_)
      clear hK K
      try simp only [Act.put, List.setIfInBounds_toArray, List.set_cons_zero, List.set_cons_succ, Array.replicate]
      refine tH (i := 8) (v := ?_) (y := (Or.inl ⟨by rfl, ?_⟩)) (h := ?_)
      rotate_left
      ·intro w _; go_simp; try with_reducible rfl
      try simp only [Act.put, List.setIfInBounds_toArray, List.set_cons_zero, List.set_cons_succ, Array.replicate]
      refine tH (i := 9) (v := ?_) (y := (Or.inl ⟨by rfl, ?_⟩)) (h := ?_)
      rotate_left
      ·intro w _; go_simp; try with_reducible rfl
      try simp only [Act.put, List.setIfInBounds_toArray, List.set_cons_zero, List.set_cons_succ, Array.replicate]
      refine wpAnyH_done (by kernel_rfl) ?_ _
      have hu2 := HU1.out.trans (Upd.of_below hHeld)
      go_wp2_with fail
      go_ret
      exact ⟨rfl, HR1.out.below hHeld, hu2⟩
     exact AllReadyH.nil
    ·have e0 : R.write ((0 : Nat) : Int) b = ({ R.tick with m0 := R.m0 ++ b }, 0) := by unfold RD.write; rw [if_neg hbad, if_neg harg, hA']; exact (if_neg hfit).trans rfl
     rw [e0]
     clear e0
     go_enter Try.func52, Try.ntmps52
     go_wp2_with fail
     refine (refcounts_ok q _ R _ H.out hbad hm (by omega)).mono ?_; rintro e w1 ⟨rfl, hr1, hu1⟩
     have HR1 := Lib.hid hr1
     have HU1 := Lib.hid hu1
     clear hr1 hu1
     have h8 := Rdk.lim HR1.out
     have H8 := Lib.hid h8
     clear h8
     go_upto_region 4 with fail
     refine wp_region_held_drew (S := fun w' => Below w1.heap.size w1 w') (by kernel_rfl) (by exact (Below.refl _ _).drew) (fun hHeld => ?_)
     refine tH (i := 0) (v := ?_) (y := (Or.inl ⟨by rfl, ?_⟩)) (h := ?_)
     rotate_left
     ·intro w _; go_simp; try with_reducible rfl
     try simp only [Act.put, List.setIfInBounds_toArray, List.set_cons_zero, List.set_cons_succ, Array.replicate]
     refine tH (i := 1) (v := ?_) (y := (Or.inl ⟨by rfl, ?_⟩)) (h := ?_)
     rotate_left
     ·intro w _; go_simp; try with_reducible rfl
     try simp only [Act.put, List.setIfInBounds_toArray, List.set_cons_zero, List.set_cons_succ, Array.replicate]
     refine tH (i := 2) (v := ?_) (y := (Or.inl ⟨by rfl, ?_⟩)) (h := ?_)
     rotate_left
     ·intro w _; go_simp; try with_reducible rfl
     try simp only [Act.put, List.setIfInBounds_toArray, List.set_cons_zero, List.set_cons_succ, Array.replicate]
     refine tH (i := 3) (v := ?_) (y := (Or.inl ⟨by rfl, ?_⟩)) (h := ?_)
     rotate_left
     ·intro w _; go_simp; try with_reducible rfl
     try simp only [Act.put, List.setIfInBounds_toArray, List.set_cons_zero, List.set_cons_succ, Array.replicate]
     refine tH (i := 4) (v := ?_) (y := (Or.inl ⟨by rfl, ?_⟩)) (h := ?_)
     rotate_left
     ·intro w _; go_simp; try with_reducible rfl
     try simp only [Act.put, List.setIfInBounds_toArray, List.set_cons_zero, List.set_cons_succ, Array.replicate]
     refine tH (i := 5) (v := ?_) (y := (Or.inl ⟨by rfl, ?_⟩)) (h := ?_)
     rotate_left
     ·intro w hSS; have h8 := bkeep hSS H8.out; go_simp; try with_reducible rfl
     try simp only [Act.put, List.setIfInBounds_toArray, List.set_cons_zero, List.set_cons_succ, Array.replicate]
     refine tH (i := 6) (v := ?_) (y := (Or.inl ⟨by rfl, ?_⟩)) (h := ?_)
     rotate_left
     ·intro w _; go_simp; try with_reducible rfl
     try simp only [Act.put, List.setIfInBounds_toArray, List.set_cons_zero, List.set_cons_succ, Array.replicate]
     refine rH [7] (h := ?_)
     refine cH (h := fun K hK => ?_) (hs := ?_)
     ·go_simp; go_at_call 68; refine (refSize_of q R.tick A hA _ (HR1.out.below (by exact hHeld)) (by exact Nat.le_trans hs (by decide))).mono ?_; rintro e wq ⟨rfl, hbq⟩; try go_simp
      refine hK.out _ _ (by exact bstep hHeld hbq) (fun hHeld => ?_)
      clear hK K
      try simp only [Act.put, List.setIfInBounds_toArray, List.set_cons_zero, List.set_cons_succ, Array.replicate]
      refine tH (i := 8) (v := ?_) (y := (Or.inl ⟨by rfl, ?_⟩)) (h := ?_)
      rotate_left
      ·intro w _; go_simp; try with_reducible rfl
      try simp only [Act.put, List.setIfInBounds_toArray, List.set_cons_zero, List.set_cons_succ, Array.replicate]
      refine tH (i := 9) (v := ?_) (y := (Or.inl ⟨by rfl, ?_⟩)) (h := ?_)
      rotate_left
      ·intro w _; go_simp; try with_reducible rfl
      try simp only [Act.put, List.setIfInBounds_toArray, List.set_cons_zero, List.set_cons_succ, Array.replicate]
      refine wpAnyH_done (by kernel_rfl) ?_ _
      have hrq := HR1.out.below hHeld
      have huq : Upd q w wq := HU1.out.trans (Upd.of_below hHeld)
      have HUQ := Lib.hid huq
      clear huq
      obtain ⟨xf0, kf0, xf1, kf1, xm0, km0, xm1, km1, xo0, ko0, xo1, ko1, hR, of0, of1, om0, om1, oo0, oo1⟩ := hrq
      have HR := Lib.hid hR
      have OF0 := Lib.hid of0
      have OF1 := Lib.hid of1
      have OM0 := Lib.hid om0
      have OM1 := Lib.hid om1
      have OO0 := Lib.hid oo0
      have OO1 := Lib.hid oo1
      clear hR of0 of1 om0 om1 oo0 oo1
      have hh2 := Row.cell HR.out 2
      simp only [RdC, List.getElem?_cons_succ, List.getElem?_cons_zero] at hh2
      have hca := bkeep (balloc (Below.refl wq.heap.size wq) (.cells #[] 5)) hh2
      have hsz : R.tick.m0.length ≤ 100000000000 := by have h0 := hs; unfold RD.sz at h0; show R.m0.length ≤ _; omega
      go_upto_region 6 with fail
      refine wp_region_any (by kernel_rfl) ?_
      try (change wpAny _ _ _ _ _ _ _ (World.drew _))
      refine tA (i := 0) (v := ?_) (y := (Or.inl ⟨by rfl, ?_⟩)) (h := ?_)
      rotate_left
      ·intro w; go_simp; try with_reducible rfl
      try simp only [Act.put, List.setIfInBounds_toArray, List.set_cons_zero, List.set_cons_succ, Array.replicate]
      refine tA (i := 1) (v := ?_) (y := (Or.inl ⟨by rfl, ?_⟩)) (h := ?_)
      rotate_left
      ·intro w; go_simp; try with_reducible rfl
      try simp only [Act.put, List.setIfInBounds_toArray, List.set_cons_zero, List.set_cons_succ, Array.replicate]
      refine tA (i := 3) (v := ?_) (y := (Or.inl ⟨by rfl, ?_⟩)) (h := ?_)
      rotate_left
      ·intro w; go_simp; try with_reducible rfl
      try simp only [Act.put, List.setIfInBounds_toArray, List.set_cons_zero, List.set_cons_succ, Array.replicate]
      refine tA (i := 4) (v := ?_) (y := (Or.inl ⟨by rfl, ?_⟩)) (h := ?_)
      rotate_left
      ·intro w; go_simp; try with_reducible rfl
      try simp only [Act.put, List.setIfInBounds_toArray, List.set_cons_zero, List.set_cons_succ, Array.replicate]
      refine tA (i := 5) (v := ?_) (y := (Or.inl ⟨by rfl, ?_⟩)) (h := ?_)
      rotate_left
      ·intro w; go_simp; try with_reducible rfl
      try simp only [Act.put, List.setIfInBounds_toArray, List.set_cons_zero, List.set_cons_succ, Array.replicate]
      refine tA (i := 6) (v := ?_) (y := (Or.inl ⟨by rfl, ?_⟩)) (h := ?_)
      rotate_left
      ·intro w; go_simp; try with_reducible rfl
      try simp only [Act.put, List.setIfInBounds_toArray, List.set_cons_zero, List.set_cons_succ, Array.replicate]
      refine tA (i := 7) (v := ?_) (y := (Or.inl ⟨by rfl, ?_⟩)) (h := ?_)
      rotate_left
      ·intro w; go_simp; try with_reducible rfl
      try simp only [Act.put, List.setIfInBounds_toArray, List.set_cons_zero, List.set_cons_succ, Array.replicate]
      refine tA (i := 10) (v := ?_) (y := (Or.inl ⟨by rfl, ?_⟩)) (h := ?_)
      rotate_left
      ·intro w; go_simp; try with_reducible rfl
      try simp only [Act.put, List.setIfInBounds_toArray, List.set_cons_zero, List.set_cons_succ, Array.replicate]
      refine tA (i := 12) (v := ?_) (y := (Or.inl ⟨by rfl, ?_⟩)) (h := ?_)
      rotate_left
      ·intro w; go_simp; try with_reducible rfl
      try simp only [Act.put, List.setIfInBounds_toArray, List.set_cons_zero, List.set_cons_succ, Array.replicate]
      refine tA (i := 13) (v := ?_) (y := (Or.inl ⟨by rfl, ?_⟩)) (h := ?_)
      rotate_left
      ·intro w; go_simp; try with_reducible rfl
      try simp only [Act.put, List.setIfInBounds_toArray, List.set_cons_zero, List.set_cons_succ, Array.replicate]
      refine rA [2, 8] (h := ?_)
      refine cA (h := fun K hK => ?_) (hs := ?_)
      ·go_simp
       refine hK _ _ ?_
       clear hK K
       try simp only [Act.put, List.setIfInBounds_toArray, List.set_cons_zero, List.set_cons_succ, Array.replicate]
       refine rA [8] (h := ?_)
       refine cA (h := fun K hK => ?_) (hs := ?_)
       ·go_simp
        refine hK _ _ ?_
        clear hK K
        try simp only [Act.put, List.setIfInBounds_toArray, List.set_cons_zero, List.set_cons_succ, Array.replicate]
        refine rA [9] (h := ?_)
        refine cA (h := fun K hK => ?_) (hs := ?_)
        ·refine step_app_own Try.underlying27 info_byte (by with_unfolding_all rfl) (.tmp 26) (.tmp 32) rfl rfl (Row.new _ _ []) rfl ((OM0.out.sh).below (balloc (Below.refl _ _).drew _)) (by have h0 := hsz; omega) ?_; intro v4 w4 ho4 hb4
         refine hK _ _ ?_
         clear hK K
         try simp only [Act.put, List.setIfInBounds_toArray, List.set_cons_zero, List.set_cons_succ, Array.replicate]
         refine rA [11] (h := ?_)
         refine cA (h := fun K hK => ?_) (hs := ?_)
         ·have hbq4 : Below wq.heap.size wq w4 := bstep (balloc (Below.refl _ _).drew _) hb4; refine step_app_more Try.underlying27 info_byte (by with_unfolding_all rfl) (.tmp 33) (.tmp 34) rfl rfl ho4 rfl (HSB.out _ (HUQ.out.trans (Upd.of_below hbq4))) (by have h0 := hsz; omega) (by exact hbq4.size) ?_; intro v5 w5 ho5 hb5; have hbq5 : Below wq.heap.size wq w5 := hbq4.trans hb5; obtain ⟨x5, k5, rfl, -⟩ := ho5.sh.open; have hr5 := Row.keep HR.out hbq5; have hfz := Row.frozen hr5 2; have hcl := Row.cell hr5 2; simp only [RdC, List.getElem?_cons_succ, List.getElem?_cons_zero] at hcl
          refine hK _ _ ?_
          clear hK K
          try simp only [Act.put, List.setIfInBounds_toArray, List.set_cons_zero, List.set_cons_succ, Array.replicate]
          refine tA (i := 14) (v := ?_) (y := (Or.inl ⟨by rfl, ?_⟩)) (h := ?_)
          rotate_left
          ·intro w; go_simp; try with_reducible rfl
          try simp only [Act.put, List.setIfInBounds_toArray, List.set_cons_zero, List.set_cons_succ, Array.replicate]
          refine rA [15] (h := ?_)
          refine cA (h := fun K hK => ?_) (hs := ?_)
          ·go_simp
           refine hK _ _ ?_
           clear hK K
           try simp only [Act.put, List.setIfInBounds_toArray, List.set_cons_zero, List.set_cons_succ, Array.replicate]
           refine wpAny_done (by kernel_rfl) ?_ _
           go_wp2_with fail
           go_ret
           have hll : R.tick.m0.length + b.length = (R.tick.m0 ++ b).length := List.length_append.symm
           try rw [hll]
           have hs3 := rset2 hr5 (.slice x5 (R.tick.m0 ++ b).length k5)
           have hu4 := (HUQ.out.trans (Upd.of_below hbq5)).trans hs3.2
           have hu5 := (Upd.of_below (p := q) hbq5).trans hs3.2
           exact ⟨rfl, ⟨xf0, kf0, xf1, kf1, x5, k5, xm1, km1, xo0, ko0, xo1, ko1, hs3.1, rkeep OF0.out HR.out hu5, rkeep OF1.out HR.out hu5, rkeep ho5 hr5 hs3.2, rkeep OM1.out HR.out hu5, rkeep OO0.out HR.out hu5, rkeep OO1.out HR.out hu5⟩, hu4⟩
          exact AllReady.nil
         exact AllReady.nil
        exact AllReady.nil
       exact AllReady.nil
      refine cA (h := fun K hK => ?_) (hs := ?_)
      ·go_simp
       refine hK _ _ ?_
       clear hK K
       try simp only [Act.put, List.setIfInBounds_toArray, List.set_cons_zero, List.set_cons_succ, Array.replicate]
       refine rA [2] (h := ?_)
       refine cA (h := fun K hK => ?_) (hs := ?_)
       ·go_simp
        refine hK _ _ ?_
        clear hK K
        try simp only [Act.put, List.setIfInBounds_toArray, List.set_cons_zero, List.set_cons_succ, Array.replicate]
        refine rA [9] (h := ?_)
        refine cA (h := fun K hK => ?_) (hs := ?_)
        ·refine step_app_own Try.underlying27 info_byte (by with_unfolding_all rfl) (.tmp 26) (.tmp 32) rfl rfl (Row.new _ _ []) rfl ((OM0.out.sh).below (balloc (Below.refl _ _).drew _)) (by have h0 := hsz; omega) ?_; intro v4 w4 ho4 hb4
         refine hK _ _ ?_
         clear hK K
         try simp only [Act.put, List.setIfInBounds_toArray, List.set_cons_zero, List.set_cons_succ, Array.replicate]
         refine rA [11] (h := ?_)
         refine cA (h := fun K hK => ?_) (hs := ?_)
         ·have hbq4 : Below wq.heap.size wq w4 := bstep (balloc (Below.refl _ _).drew _) hb4; refine step_app_more Try.underlying27 info_byte (by with_unfolding_all rfl) (.tmp 33) (.tmp 34) rfl rfl ho4 rfl (HSB.out _ (HUQ.out.trans (Upd.of_below hbq4))) (by have h0 := hsz; omega) (by exact hbq4.size) ?_; intro v5 w5 ho5 hb5; have hbq5 : Below wq.heap.size wq w5 := hbq4.trans hb5; obtain ⟨x5, k5, rfl, -⟩ := ho5.sh.open; have hr5 := Row.keep HR.out hbq5; have hfz := Row.frozen hr5 2; have hcl := Row.cell hr5 2; simp only [RdC, List.getElem?_cons_succ, List.getElem?_cons_zero] at hcl
          refine hK _ _ ?_
          clear hK K
          try simp only [Act.put, List.setIfInBounds_toArray, List.set_cons_zero, List.set_cons_succ, Array.replicate]
          refine tA (i := 14) (v := ?_) (y := (Or.inl ⟨by rfl, ?_⟩)) (h := ?_)
          rotate_left
          ·intro w; go_simp; try with_reducible rfl
          try simp only [Act.put, List.setIfInBounds_toArray, List.set_cons_zero, List.set_cons_succ, Array.replicate]
          refine rA [15] (h := ?_)
          refine cA (h := fun K hK => ?_) (hs := ?_)
          ·go_simp
           refine hK _ _ ?_
           clear hK K
           try simp only [Act.put, List.setIfInBounds_toArray, List.set_cons_zero, List.set_cons_succ, Array.replicate]
           refine wpAny_done (by kernel_rfl) ?_ _
           go_wp2_with fail
           go_ret
           have hll : R.tick.m0.length + b.length = (R.tick.m0 ++ b).length := List.length_append.symm
           try rw [hll]
           have hs3 := rset2 hr5 (.slice x5 (R.tick.m0 ++ b).length k5)
           have hu4 := (HUQ.out.trans (Upd.of_below hbq5)).trans hs3.2
           have hu5 := (Upd.of_below (p := q) hbq5).trans hs3.2
           exact ⟨rfl, ⟨xf0, kf0, xf1, kf1, x5, k5, xm1, km1, xo0, ko0, xo1, ko1, hs3.1, rkeep OF0.out HR.out hu5, rkeep OF1.out HR.out hu5, rkeep ho5 hr5 hs3.2, rkeep OM1.out HR.out hu5, rkeep OO0.out HR.out hu5, rkeep OO1.out HR.out hu5⟩, hu4⟩
          exact AllReady.nil
         exact AllReady.nil
        exact AllReady.nil
       exact AllReady.nil
      exact AllReady.nil
     exact AllReadyH.nil
   ·obtain ⟨A, hA⟩ : ∃ A, (R.tick.all 0).length + (R.tick.all 1).length = A := ⟨_, rfl⟩
    have hA' : (R.all 0).length + (R.all 1).length = A := hA
    have hAb : A ≤ 200000000000 := by have h0 := R.all_le 0; have h1 := R.all_le 1; omega
    have hl8 : R.tick.lim = R.lim := rfl
    have hw6 : IntKind.i64.wrap (R.lim - (A : Int)) = R.lim - (A : Int) := IntWalk.i64_in _ ⟨by omega, by omega⟩
    by_cases hfit : R.lim - (A : Int) < (b.length : Int)
    ·have e0 : R.write ((1 : Nat) : Int) b = (R.tick, 8) := by unfold RD.write; rw [if_neg hbad, if_neg harg, hA']; exact if_pos hfit
     rw [e0]
     clear e0
     go_enter Try.func52, Try.ntmps52
     go_wp2_with fail
     refine (refcounts_ok q _ R _ H.out hbad hm (by omega)).mono ?_; rintro e w1 ⟨rfl, hr1, hu1⟩
     have HR1 := Lib.hid hr1
     have HU1 := Lib.hid hu1
     clear hr1 hu1
     have h8 := Rdk.lim HR1.out
     have H8 := Lib.hid h8
     clear h8
     go_upto_region 4 with fail
     refine wp_region_held_drew (S := fun w' => Below w1.heap.size w1 w') (by kernel_rfl) (by exact (Below.refl _ _).drew) (fun hHeld => ?_)
     refine tH (i := 0) (v := ?_) (y := (Or.inl ⟨by rfl, ?_⟩)) (h := ?_)
     rotate_left
     ·intro w _; go_simp; try with_reducible rfl
     try simp only [Act.put, List.setIfInBounds_toArray, List.set_cons_zero, List.set_cons_succ, Array.replicate]
     refine tH (i := 1) (v := ?_) (y := (Or.inl ⟨by rfl, ?_⟩)) (h := ?_)
     rotate_left
     ·intro w _; go_simp; try with_reducible rfl
     try simp only [Act.put, List.setIfInBounds_toArray, List.set_cons_zero, List.set_cons_succ, Array.replicate]
     refine tH (i := 2) (v := ?_) (y := (Or.inl ⟨by rfl, ?_⟩)) (h := ?_)
     rotate_left
     ·intro w _; go_simp; try with_reducible rfl
     try simp only [Act.put, List.setIfInBounds_toArray, List.set_cons_zero, List.set_cons_succ, Array.replicate]
     refine tH (i := 3) (v := ?_) (y := (Or.inl ⟨by rfl, ?_⟩)) (h := ?_)
     rotate_left
     ·intro w _; go_simp; try with_reducible rfl
     try simp only [Act.put, List.setIfInBounds_toArray, List.set_cons_zero, List.set_cons_succ, Array.replicate]
     refine tH (i := 4) (v := ?_) (y := (Or.inl ⟨by rfl, ?_⟩)) (h := ?_)
     rotate_left
     ·intro w _; go_simp; try with_reducible rfl
     try simp only [Act.put, List.setIfInBounds_toArray, List.set_cons_zero, List.set_cons_succ, Array.replicate]
     refine tH (i := 5) (v := ?_) (y := (Or.inl ⟨by rfl, ?_⟩)) (h := ?_)
     rotate_left
     ·intro w hSS; have h8 := bkeep hSS H8.out; go_simp; try with_reducible rfl
     try simp only [Act.put, List.setIfInBounds_toArray, List.set_cons_zero, List.set_cons_succ, Array.replicate]
     refine tH (i := 6) (v := ?_) (y := (Or.inl ⟨by rfl, ?_⟩)) (h := ?_)
     rotate_left
     ·intro w _; go_simp; try with_reducible rfl
     try simp only [Act.put, List.setIfInBounds_toArray, List.set_cons_zero, List.set_cons_succ, Array.replicate]
     refine rH [7] (h := ?_)
     refine cH (h := fun K hK => ?_) (hs := ?_)
     ·go_simp; go_at_call 68; refine (refSize_of q R.tick A hA _ (HR1.out.below (by exact hHeld)) (by exact Nat.le_trans hs (by decide))).mono ?_; rintro e wq ⟨rfl, hbq⟩; try go_simp
      refine hK.out _ _ (by exact bstep hHeld hbq) (fun hHeld => ?_)
      clear hK K
      try simp only [Act.put, List.setIfInBounds_toArray, List.set_cons_zero, List.set_cons_succ, Array.replicate]
      refine tH (i := 8) (v := ?_) (y := (Or.inl ⟨by rfl, ?_⟩)) (h := ?_)
      rotate_left
      ·intro w _; go_simp; try with_reducible rfl
      try simp only [Act.put, List.setIfInBounds_toArray, List.set_cons_zero, List.set_cons_succ, Array.replicate]
      refine tH (i := 9) (v := ?_) (y := (Or.inl ⟨by rfl, ?_⟩)) (h := ?_)
      rotate_left
      ·intro w _; go_simp; try with_reducible rfl
      try simp only [Act.put, List.setIfInBounds_toArray, List.set_cons_zero, List.set_cons_succ, Array.replicate]
      refine wpAnyH_done (by kernel_rfl) ?_ _
      have hu2 := HU1.out.trans (Upd.of_below hHeld)
      go_wp2_with fail
      go_ret
      exact ⟨rfl, HR1.out.below hHeld, hu2⟩
     exact AllReadyH.nil
    ·have e0 : R.write ((1 : Nat) : Int) b = ({ R.tick with m1 := R.m1 ++ b }, 0) := by unfold RD.write; rw [if_neg hbad, if_neg harg, hA']; exact (if_neg hfit).trans rfl
     rw [e0]
     clear e0
     go_enter Try.func52, Try.ntmps52
     go_wp2_with fail
     refine (refcounts_ok q _ R _ H.out hbad hm (by omega)).mono ?_; rintro e w1 ⟨rfl, hr1, hu1⟩
     have HR1 := Lib.hid hr1
     have HU1 := Lib.hid hu1
     clear hr1 hu1
     have h8 := Rdk.lim HR1.out
     have H8 := Lib.hid h8
     clear h8
     go_upto_region 4 with fail
     refine wp_region_held_drew (S := fun w' => Below w1.heap.size w1 w') (by kernel_rfl) (by exact (Below.refl _ _).drew) (fun hHeld => ?_)
     refine tH (i := 0) (v := ?_) (y := (Or.inl ⟨by rfl, ?_⟩)) (h := ?_)
     rotate_left
     ·intro w _; go_simp; try with_reducible rfl
     try simp only [Act.put, List.setIfInBounds_toArray, List.set_cons_zero, List.set_cons_succ, Array.replicate]
     refine tH (i := 1) (v := ?_) (y := (Or.inl ⟨by rfl, ?_⟩)) (h := ?_)
     rotate_left
     ·intro w _; go_simp; try with_reducible rfl
     try simp only [Act.put, List.setIfInBounds_toArray, List.set_cons_zero, List.set_cons_succ, Array.replicate]
     refine tH (i := 2) (v := ?_) (y := (Or.inl ⟨by rfl, ?_⟩)) (h := ?_)
     rotate_left
     ·intro w _; go_simp; try with_reducible rfl
     try simp only [Act.put, List.setIfInBounds_toArray, List.set_cons_zero, List.set_cons_succ, Array.replicate]
     refine tH (i := 3) (v := ?_) (y := (Or.inl ⟨by rfl, ?_⟩)) (h := ?_)
     rotate_left
     ·intro w _; go_simp; try with_reducible rfl
     try simp only [Act.put, List.setIfInBounds_toArray, List.set_cons_zero, List.set_cons_succ, Array.replicate]
     refine tH (i := 4) (v := ?_) (y := (Or.inl ⟨by rfl, ?_⟩)) (h := ?_)
     rotate_left
     ·intro w _; go_simp; try with_reducible rfl
     try simp only [Act.put, List.setIfInBounds_toArray, List.set_cons_zero, List.set_cons_succ, Array.replicate]
     refine tH (i := 5) (v := ?_) (y := (Or.inl ⟨by rfl, ?_⟩)) (h := ?_)
     rotate_left
     ·intro w hSS; have h8 := bkeep hSS H8.out; go_simp; try with_reducible rfl
     try simp only [Act.put, List.setIfInBounds_toArray, List.set_cons_zero, List.set_cons_succ, Array.replicate]
     refine tH (i := 6) (v := ?_) (y := (Or.inl ⟨by rfl, ?_⟩)) (h := ?_)
     rotate_left
     ·intro w _; go_simp; try with_reducible rfl
     try simp only [Act.put, List.setIfInBounds_toArray, List.set_cons_zero, List.set_cons_succ, Array.replicate]
     refine rH [7] (h := ?_)
     refine cH (h := fun K hK => ?_) (hs := ?_)
     ·go_simp; go_at_call 68; refine (refSize_of q R.tick A hA _ (HR1.out.below (by exact hHeld)) (by exact Nat.le_trans hs (by decide))).mono ?_; rintro e wq ⟨rfl, hbq⟩; try go_simp
      refine hK.out _ _ (by exact bstep hHeld hbq) (fun hHeld => ?_)
      clear hK K
      try simp only [Act.put, List.setIfInBounds_toArray, List.set_cons_zero, List.set_cons_succ, Array.replicate]
      refine tH (i := 8) (v := ?_) (y := (Or.inl ⟨by rfl, ?_⟩)) (h := ?_)
      rotate_left
      ·intro w _; go_simp; try with_reducible rfl
      try simp only [Act.put, List.setIfInBounds_toArray, List.set_cons_zero, List.set_cons_succ, Array.replicate]
      refine tH (i := 9) (v := ?_) (y := (Or.inl ⟨by rfl, ?_⟩)) (h := ?_)
      rotate_left
      ·intro w _; go_simp; try with_reducible rfl
      try simp only [Act.put, List.setIfInBounds_toArray, List.set_cons_zero, List.set_cons_succ, Array.replicate]
      refine wpAnyH_done (by kernel_rfl) ?_ _
      have hrq := HR1.out.below hHeld
      have huq : Upd q w wq := HU1.out.trans (Upd.of_below hHeld)
      have HUQ := Lib.hid huq
      clear huq
      obtain ⟨xf0, kf0, xf1, kf1, xm0, km0, xm1, km1, xo0, ko0, xo1, ko1, hR, of0, of1, om0, om1, oo0, oo1⟩ := hrq
      have HR := Lib.hid hR
      have OF0 := Lib.hid of0
      have OF1 := Lib.hid of1
      have OM0 := Lib.hid om0
      have OM1 := Lib.hid om1
      have OO0 := Lib.hid oo0
      have OO1 := Lib.hid oo1
      clear hR of0 of1 om0 om1 oo0 oo1
      have hh3 := Row.cell HR.out 3
      simp only [RdC, List.getElem?_cons_succ, List.getElem?_cons_zero] at hh3
      have hca := bkeep (balloc (Below.refl wq.heap.size wq) (.cells #[] 5)) hh3
      have hsz : R.tick.m1.length ≤ 100000000000 := by have h0 := hs; unfold RD.sz at h0; show R.m1.length ≤ _; omega
      go_upto_region 6 with fail
      refine wp_region_any (by kernel_rfl) ?_
      try (change wpAny _ _ _ _ _ _ _ (World.drew _))
      refine tA (i := 0) (v := ?_) (y := (Or.inl ⟨by rfl, ?_⟩)) (h := ?_)
      rotate_left
      ·intro w; go_simp; try with_reducible rfl
      try simp only [Act.put, List.setIfInBounds_toArray, List.set_cons_zero, List.set_cons_succ, Array.replicate]
      refine tA (i := 1) (v := ?_) (y := (Or.inl ⟨by rfl, ?_⟩)) (h := ?_)
      rotate_left
      ·intro w; go_simp; try with_reducible rfl
      try simp only [Act.put, List.setIfInBounds_toArray, List.set_cons_zero, List.set_cons_succ, Array.replicate]
      refine tA (i := 3) (v := ?_) (y := (Or.inl ⟨by rfl, ?_⟩)) (h := ?_)
      rotate_left
      ·intro w; go_simp; try with_reducible rfl
      try simp only [Act.put, List.setIfInBounds_toArray, List.set_cons_zero, List.set_cons_succ, Array.replicate]
      refine tA (i := 4) (v := ?_) (y := (Or.inl ⟨by rfl, ?_⟩)) (h := ?_)
      rotate_left
      ·intro w; go_simp; try with_reducible rfl
      try simp only [Act.put, List.setIfInBounds_toArray, List.set_cons_zero, List.set_cons_succ, Array.replicate]
      refine tA (i := 5) (v := ?_) (y := (Or.inl ⟨by rfl, ?_⟩)) (h := ?_)
      rotate_left
      ·intro w; go_simp; try with_reducible rfl
      try simp only [Act.put, List.setIfInBounds_toArray, List.set_cons_zero, List.set_cons_succ, Array.replicate]
      refine tA (i := 6) (v := ?_) (y := (Or.inl ⟨by rfl, ?_⟩)) (h := ?_)
      rotate_left
      ·intro w; go_simp; try with_reducible rfl
      try simp only [Act.put, List.setIfInBounds_toArray, List.set_cons_zero, List.set_cons_succ, Array.replicate]
      refine tA (i := 7) (v := ?_) (y := (Or.inl ⟨by rfl, ?_⟩)) (h := ?_)
      rotate_left
      ·intro w; go_simp; try with_reducible rfl
      try simp only [Act.put, List.setIfInBounds_toArray, List.set_cons_zero, List.set_cons_succ, Array.replicate]
      refine tA (i := 10) (v := ?_) (y := (Or.inl ⟨by rfl, ?_⟩)) (h := ?_)
      rotate_left
      ·intro w; go_simp; try with_reducible rfl
      try simp only [Act.put, List.setIfInBounds_toArray, List.set_cons_zero, List.set_cons_succ, Array.replicate]
      refine tA (i := 12) (v := ?_) (y := (Or.inl ⟨by rfl, ?_⟩)) (h := ?_)
      rotate_left
      ·intro w; go_simp; try with_reducible rfl
      try simp only [Act.put, List.setIfInBounds_toArray, List.set_cons_zero, List.set_cons_succ, Array.replicate]
      refine tA (i := 13) (v := ?_) (y := (Or.inl ⟨by rfl, ?_⟩)) (h := ?_)
      rotate_left
      ·intro w; go_simp; try with_reducible rfl
      try simp only [Act.put, List.setIfInBounds_toArray, List.set_cons_zero, List.set_cons_succ, Array.replicate]
      refine rA [2, 8] (h := ?_)
      refine cA (h := fun K hK => ?_) (hs := ?_)
      ·go_simp
       refine hK _ _ ?_
       clear hK K
       try simp only [Act.put, List.setIfInBounds_toArray, List.set_cons_zero, List.set_cons_succ, Array.replicate]
       refine rA [8] (h := ?_)
       refine cA (h := fun K hK => ?_) (hs := ?_)
       ·go_simp
        refine hK _ _ ?_
        clear hK K
        try simp only [Act.put, List.setIfInBounds_toArray, List.set_cons_zero, List.set_cons_succ, Array.replicate]
        refine rA [9] (h := ?_)
        refine cA (h := fun K hK => ?_) (hs := ?_)
        ·refine step_app_own Try.underlying27 info_byte (by with_unfolding_all rfl) (.tmp 26) (.tmp 32) rfl rfl (Row.new _ _ []) rfl ((OM1.out.sh).below (balloc (Below.refl _ _).drew _)) (by have h0 := hsz; omega) ?_; intro v4 w4 ho4 hb4
         refine hK _ _ ?_
         clear hK K
         try simp only [Act.put, List.setIfInBounds_toArray, List.set_cons_zero, List.set_cons_succ, Array.replicate]
         refine rA [11] (h := ?_)
         refine cA (h := fun K hK => ?_) (hs := ?_)
         ·have hbq4 : Below wq.heap.size wq w4 := bstep (balloc (Below.refl _ _).drew _) hb4; refine step_app_more Try.underlying27 info_byte (by with_unfolding_all rfl) (.tmp 33) (.tmp 34) rfl rfl ho4 rfl (HSB.out _ (HUQ.out.trans (Upd.of_below hbq4))) (by have h0 := hsz; omega) (by exact hbq4.size) ?_; intro v5 w5 ho5 hb5; have hbq5 : Below wq.heap.size wq w5 := hbq4.trans hb5; obtain ⟨x5, k5, rfl, -⟩ := ho5.sh.open; have hr5 := Row.keep HR.out hbq5; have hfz := Row.frozen hr5 3; have hcl := Row.cell hr5 3; simp only [RdC, List.getElem?_cons_succ, List.getElem?_cons_zero] at hcl
          refine hK _ _ ?_
          clear hK K
          try simp only [Act.put, List.setIfInBounds_toArray, List.set_cons_zero, List.set_cons_succ, Array.replicate]
          refine tA (i := 14) (v := ?_) (y := (Or.inl ⟨by rfl, ?_⟩)) (h := ?_)
          rotate_left
          ·intro w; go_simp; try with_reducible rfl
          try simp only [Act.put, List.setIfInBounds_toArray, List.set_cons_zero, List.set_cons_succ, Array.replicate]
          refine rA [15] (h := ?_)
          refine cA (h := fun K hK => ?_) (hs := ?_)
          ·go_simp
           refine hK _ _ ?_
           clear hK K
           try simp only [Act.put, List.setIfInBounds_toArray, List.set_cons_zero, List.set_cons_succ, Array.replicate]
           refine wpAny_done (by kernel_rfl) ?_ _
           go_wp2_with fail
           go_ret
           have hll : R.tick.m1.length + b.length = (R.tick.m1 ++ b).length := List.length_append.symm
           try rw [hll]
           have hs3 := rset3 hr5 (.slice x5 (R.tick.m1 ++ b).length k5)
           have hu4 := (HUQ.out.trans (Upd.of_below hbq5)).trans hs3.2
           have hu5 := (Upd.of_below (p := q) hbq5).trans hs3.2
           exact ⟨rfl, ⟨xf0, kf0, xf1, kf1, xm0, km0, x5, k5, xo0, ko0, xo1, ko1, hs3.1, rkeep OF0.out HR.out hu5, rkeep OF1.out HR.out hu5, rkeep OM0.out HR.out hu5, rkeep ho5 hr5 hs3.2, rkeep OO0.out HR.out hu5, rkeep OO1.out HR.out hu5⟩, hu4⟩
          exact AllReady.nil
         exact AllReady.nil
        exact AllReady.nil
       exact AllReady.nil
      refine cA (h := fun K hK => ?_) (hs := ?_)
      ·go_simp
       refine hK _ _ ?_
       clear hK K
       try simp only [Act.put, List.setIfInBounds_toArray, List.set_cons_zero, List.set_cons_succ, Array.replicate]
       refine rA [2] (h := ?_)
       refine cA (h := fun K hK => ?_) (hs := ?_)
       ·go_simp
        refine hK _ _ ?_
        clear hK K
        try simp only [Act.put, List.setIfInBounds_toArray, List.set_cons_zero, List.set_cons_succ, Array.replicate]
        refine rA [9] (h := ?_)
        refine cA (h := fun K hK => ?_) (hs := ?_)
        ·refine step_app_own Try.underlying27 info_byte (by with_unfolding_all rfl) (.tmp 26) (.tmp 32) rfl rfl (Row.new _ _ []) rfl ((OM1.out.sh).below (balloc (Below.refl _ _).drew _)) (by have h0 := hsz; omega) ?_; intro v4 w4 ho4 hb4
         refine hK _ _ ?_
         clear hK K
         try simp only [Act.put, List.setIfInBounds_toArray, List.set_cons_zero, List.set_cons_succ, Array.replicate]
         refine rA [11] (h := ?_)
         refine cA (h := fun K hK => ?_) (hs := ?_)
         ·have hbq4 : Below wq.heap.size wq w4 := bstep (balloc (Below.refl _ _).drew _) hb4; refine step_app_more Try.underlying27 info_byte (by with_unfolding_all rfl) (.tmp 33) (.tmp 34) rfl rfl ho4 rfl (HSB.out _ (HUQ.out.trans (Upd.of_below hbq4))) (by have h0 := hsz; omega) (by exact hbq4.size) ?_; intro v5 w5 ho5 hb5; have hbq5 : Below wq.heap.size wq w5 := hbq4.trans hb5; obtain ⟨x5, k5, rfl, -⟩ := ho5.sh.open; have hr5 := Row.keep HR.out hbq5; have hfz := Row.frozen hr5 3; have hcl := Row.cell hr5 3; simp only [RdC, List.getElem?_cons_succ, List.getElem?_cons_zero] at hcl
          refine hK _ _ ?_
          clear hK K
          try simp only [Act.put, List.setIfInBounds_toArray, List.set_cons_zero, List.set_cons_succ, Array.replicate]
          refine tA (i := 14) (v := ?_) (y := (Or.inl ⟨by rfl, ?_⟩)) (h := ?_)
          rotate_left
          ·intro w; go_simp; try with_reducible rfl
          try simp only [Act.put, List.setIfInBounds_toArray, List.set_cons_zero, List.set_cons_succ, Array.replicate]
          refine rA [15] (h := ?_)
          refine cA (h := fun K hK => ?_) (hs := ?_)
          ·go_simp
           refine hK _ _ ?_
           clear hK K
           try simp only [Act.put, List.setIfInBounds_toArray, List.set_cons_zero, List.set_cons_succ, Array.replicate]
           refine wpAny_done (by kernel_rfl) ?_ _
           go_wp2_with fail
           go_ret
           have hll : R.tick.m1.length + b.length = (R.tick.m1 ++ b).length := List.length_append.symm
           try rw [hll]
           have hs3 := rset3 hr5 (.slice x5 (R.tick.m1 ++ b).length k5)
           have hu4 := (HUQ.out.trans (Upd.of_below hbq5)).trans hs3.2
           have hu5 := (Upd.of_below (p := q) hbq5).trans hs3.2
           exact ⟨rfl, ⟨xf0, kf0, xf1, kf1, xm0, km0, x5, k5, xo0, ko0, xo1, ko1, hs3.1, rkeep OF0.out HR.out hu5, rkeep OF1.out HR.out hu5, rkeep OM0.out HR.out hu5, rkeep ho5 hr5 hs3.2, rkeep OO0.out HR.out hu5, rkeep OO1.out HR.out hu5⟩, hu4⟩
          exact AllReady.nil
         exact AllReady.nil
        exact AllReady.nil
       exact AllReady.nil
      exact AllReady.nil
     exact AllReadyH.nil
theorem refReplace_any (q : Nat) (n : Int) (vb : Value) (b : List UInt8) (R : RD) (w : World) (hR0 : Rdk w q R) (hsb : ∀ w', Upd q w w' → Sh w' vb b) (hbl : b.length ≤ 140737488355328) (hm : -9223372036854775808 < R.left ∧ R.left ≤ 9223372036854775807) (hs : R.sz ≤ 100000000000) (hlim : -1000000000000 ≤ R.lim ∧ R.lim ≤ 1000000000000) :
  Calls Try.prog 49 #[.pointer (some ⟨q, 0, none⟩), .int .i64 n, vb] w fun e w' => e = .returned (.int .i64 ((R.replace n b).2 : Int)) ∧ Rdk w' q (R.replace n b).1 ∧ Upd q w w' := by
 obtain ⟨xv, kv, rfl, -⟩ := (hsb w (Upd.refl _ _)).open
 have HSB := Lib.hid hsb
 clear hsb
 have H := Lib.hid hR0
 clear hR0
 by_cases hbad : R.dead = true ∨ (R.armed = true ∧ R.left = 0)
 ·have e0 : R.replace n b = (R.kill, 140) := by unfold RD.replace; rw [if_pos hbad]
  rw [e0]
  clear e0
  go_enter Try.func49, Try.ntmps49
  go_wp2_with fail
  refine (refcounts_bad q n R _ H.out hbad).mono ?_; rintro e w1 ⟨rfl, hr1, hu1⟩
  go_wp2_with fail
  go_ret
  exact ⟨rfl, hr1, hu1⟩
 ·by_cases harg : n < 0 ∨ 1 < n
  ·have e0 : R.replace n b = (R.tick, 1) := by unfold RD.replace; rw [if_neg hbad, if_pos harg]
   rw [e0]
   clear e0
   go_enter Try.func49, Try.ntmps49
   go_wp2_with fail
   refine (refcounts_arg q n R _ H.out hbad hm harg).mono ?_; rintro e w1 ⟨rfl, hr1, hu1⟩
   go_wp2_with fail
   go_ret
   exact ⟨rfl, hr1, hu1⟩
  ·have hn01 : n = ((0 : Nat) : Int) ∨ n = ((1 : Nat) : Int) := by omega
   rcases hn01 with rfl | rfl
   ·obtain ⟨A, hA⟩ : ∃ A, (R.tick.all 1).length = A := ⟨_, rfl⟩
    have hA' : (R.all 1).length = A := hA
    have hAb : A ≤ 100000000000 := by have h0 := R.all_le 1; omega
    have hl8 : R.tick.lim = R.lim := rfl
    have hw6 : IntKind.i64.wrap (R.lim - (A : Int)) = R.lim - (A : Int) := IntWalk.i64_in _ ⟨by omega, by omega⟩
    by_cases hfit : R.lim - (A : Int) < (b.length : Int)
    ·have e0 : R.replace ((0 : Nat) : Int) b = (R.tick, 8) := by unfold RD.replace; rw [if_neg hbad, if_neg harg]; exact if_pos (show R.lim - ((R.all 1).length : Int) < (b.length : Int) by rw [hA']; exact hfit)
     rw [e0]
     clear e0
     go_enter Try.func49, Try.ntmps49
     go_wp2_with fail
     refine (refcounts_ok q _ R _ H.out hbad hm (by omega)).mono ?_; rintro e w1 ⟨rfl, hr1, hu1⟩
     have HR1 := Lib.hid hr1
     have HU1 := Lib.hid hu1
     clear hr1 hu1
     have h8 := Rdk.lim HR1.out
     have H8 := Lib.hid h8
     clear h8
     go_upto_region 4 with fail
     refine wp_region_held_drew (S := fun w' => Below w1.heap.size w1 w') (by kernel_rfl) (by exact (Below.refl _ _).drew) (fun hHeld => ?_)
     refine tH (i := 0) (v := ?_) (y := (Or.inl ⟨by rfl, ?_⟩)) (h := ?_)
     rotate_left
     ·intro w _; go_simp; try with_reducible rfl
     try simp only [Act.put, List.setIfInBounds_toArray, List.set_cons_zero, List.set_cons_succ, Array.replicate]
     refine tH (i := 1) (v := ?_) (y := (Or.inl ⟨by rfl, ?_⟩)) (h := ?_)
     rotate_left
     ·intro w _; go_simp; try with_reducible rfl
     try simp only [Act.put, List.setIfInBounds_toArray, List.set_cons_zero, List.set_cons_succ, Array.replicate]
     refine tH (i := 2) (v := ?_) (y := (Or.inl ⟨by rfl, ?_⟩)) (h := ?_)
     rotate_left
     ·intro w _; go_simp; try with_reducible rfl
     try simp only [Act.put, List.setIfInBounds_toArray, List.set_cons_zero, List.set_cons_succ, Array.replicate]
     refine tH (i := 3) (v := ?_) (y := (Or.inl ⟨by rfl, ?_⟩)) (h := ?_)
     rotate_left
     ·intro w _; go_simp; try with_reducible rfl
     try simp only [Act.put, List.setIfInBounds_toArray, List.set_cons_zero, List.set_cons_succ, Array.replicate]
     refine tH (i := 4) (v := ?_) (y := (Or.inl ⟨by rfl, ?_⟩)) (h := ?_)
     rotate_left
     ·intro w _; go_simp; try with_reducible rfl
     try simp only [Act.put, List.setIfInBounds_toArray, List.set_cons_zero, List.set_cons_succ, Array.replicate]
     refine tH (i := 5) (v := ?_) (y := (Or.inl ⟨by rfl, ?_⟩)) (h := ?_)
     rotate_left
     ·intro w hSS; have h8 := bkeep hSS H8.out; go_simp; try with_reducible rfl
     try simp only [Act.put, List.setIfInBounds_toArray, List.set_cons_zero, List.set_cons_succ, Array.replicate]
     refine tH (i := 6) (v := ?_) (y := (Or.inl ⟨by rfl, ?_⟩)) (h := ?_)
     rotate_left
     ·intro w _; go_simp; try with_reducible rfl
     try simp only [Act.put, List.setIfInBounds_toArray, List.set_cons_zero, List.set_cons_succ, Array.replicate]
     refine tH (i := 7) (v := ?_) (y := (Or.inl ⟨by rfl, ?_⟩)) (h := ?_)
     rotate_left
     ·intro w _; go_simp; try with_reducible rfl
     try simp only [Act.put, List.setIfInBounds_toArray, List.set_cons_zero, List.set_cons_succ, Array.replicate]
     refine tH (i := 8) (v := ?_) (y := (Or.inl ⟨by rfl, ?_⟩)) (h := ?_)
     rotate_left
     ·intro w _; go_simp; try with_reducible rfl
     try simp only [Act.put, List.setIfInBounds_toArray, List.set_cons_zero, List.set_cons_succ, Array.replicate]
     refine rH [9] (h := ?_)
     refine cH (h := fun K hK => ?_) (hs := ?_)
     ·go_simp; go_at_call 38; refine (refAll_len q 1 (by omega) R.tick A hA _ (HR1.out.below (by exact hHeld)) (by exact Nat.le_trans hs (by decide))).mono ?_; rintro e wq ⟨xA, kA, rfl, hbq⟩; try go_simp
      refine hK.out _ _ (by exact bstep hHeld hbq) (fun hHeld => ?_)
      clear hK K
      try simp only [Act.put, List.setIfInBounds_toArray, List.set_cons_zero, List.set_cons_succ, Array.replicate]
      refine tH (i := 10) (v := ?_) (y := (Or.inl ⟨by rfl, ?_⟩)) (h := ?_)
      rotate_left
      ·intro w _; go_simp; try with_reducible rfl
      try simp only [Act.put, List.setIfInBounds_toArray, List.set_cons_zero, List.set_cons_succ, Array.replicate]
      refine tH (i := 11) (v := ?_) (y := (Or.inl ⟨by rfl, ?_⟩)) (h := ?_)
      rotate_left
      ·intro w _; go_simp; try with_reducible rfl
      try simp only [Act.put, List.setIfInBounds_toArray, List.set_cons_zero, List.set_cons_succ, Array.replicate]
      refine tH (i := 12) (v := ?_) (y := (Or.inl ⟨by rfl, ?_⟩)) (h := ?_)
      rotate_left
      ·intro w _; go_simp; try with_reducible rfl
      try simp only [Act.put, List.setIfInBounds_toArray, List.set_cons_zero, List.set_cons_succ, Array.replicate]
      refine wpAnyH_done (by kernel_rfl) ?_ _
      have hu2 := HU1.out.trans (Upd.of_below hHeld)
      go_wp2_with fail
      go_ret
      exact ⟨rfl, HR1.out.below hHeld, hu2⟩
     exact AllReadyH.nil
    ·have e0 : R.replace ((0 : Nat) : Int) b = ({ R.tick with o0 := b, m0 := [], i0 := true }, 0) := by unfold RD.replace; rw [if_neg hbad, if_neg harg]; exact (if_neg (show ¬ R.lim - ((R.all 1).length : Int) < (b.length : Int) by rw [hA']; exact hfit)).trans rfl
     rw [e0]
     clear e0
     go_enter Try.func49, Try.ntmps49
     go_wp2_with fail
     refine (refcounts_ok q _ R _ H.out hbad hm (by omega)).mono ?_; rintro e w1 ⟨rfl, hr1, hu1⟩
     have HR1 := Lib.hid hr1
     have HU1 := Lib.hid hu1
     clear hr1 hu1
     have h8 := Rdk.lim HR1.out
     have H8 := Lib.hid h8
     clear h8
     go_upto_region 4 with fail
     refine wp_region_held_drew (S := fun w' => Below w1.heap.size w1 w') (by kernel_rfl) (by exact (Below.refl _ _).drew) (fun hHeld => ?_)
     refine tH (i := 0) (v := ?_) (y := (Or.inl ⟨by rfl, ?_⟩)) (h := ?_)
     rotate_left
     ·intro w _; go_simp; try with_reducible rfl
     try simp only [Act.put, List.setIfInBounds_toArray, List.set_cons_zero, List.set_cons_succ, Array.replicate]
     refine tH (i := 1) (v := ?_) (y := (Or.inl ⟨by rfl, ?_⟩)) (h := ?_)
     rotate_left
     ·intro w _; go_simp; try with_reducible rfl
     try simp only [Act.put, List.setIfInBounds_toArray, List.set_cons_zero, List.set_cons_succ, Array.replicate]
     refine tH (i := 2) (v := ?_) (y := (Or.inl ⟨by rfl, ?_⟩)) (h := ?_)
     rotate_left
     ·intro w _; go_simp; try with_reducible rfl
     try simp only [Act.put, List.setIfInBounds_toArray, List.set_cons_zero, List.set_cons_succ, Array.replicate]
     refine tH (i := 3) (v := ?_) (y := (Or.inl ⟨by rfl, ?_⟩)) (h := ?_)
     rotate_left
     ·intro w _; go_simp; try with_reducible rfl
     try simp only [Act.put, List.setIfInBounds_toArray, List.set_cons_zero, List.set_cons_succ, Array.replicate]
     refine tH (i := 4) (v := ?_) (y := (Or.inl ⟨by rfl, ?_⟩)) (h := ?_)
     rotate_left
     ·intro w _; go_simp; try with_reducible rfl
     try simp only [Act.put, List.setIfInBounds_toArray, List.set_cons_zero, List.set_cons_succ, Array.replicate]
     refine tH (i := 5) (v := ?_) (y := (Or.inl ⟨by rfl, ?_⟩)) (h := ?_)
     rotate_left
     ·intro w hSS; have h8 := bkeep hSS H8.out; go_simp; try with_reducible rfl
     try simp only [Act.put, List.setIfInBounds_toArray, List.set_cons_zero, List.set_cons_succ, Array.replicate]
     refine tH (i := 6) (v := ?_) (y := (Or.inl ⟨by rfl, ?_⟩)) (h := ?_)
     rotate_left
     ·intro w _; go_simp; try with_reducible rfl
     try simp only [Act.put, List.setIfInBounds_toArray, List.set_cons_zero, List.set_cons_succ, Array.replicate]
     refine tH (i := 7) (v := ?_) (y := (Or.inl ⟨by rfl, ?_⟩)) (h := ?_)
     rotate_left
     ·intro w _; go_simp; try with_reducible rfl
     try simp only [Act.put, List.setIfInBounds_toArray, List.set_cons_zero, List.set_cons_succ, Array.replicate]
     refine tH (i := 8) (v := ?_) (y := (Or.inl ⟨by rfl, ?_⟩)) (h := ?_)
     rotate_left
     ·intro w _; go_simp; try with_reducible rfl
     try simp only [Act.put, List.setIfInBounds_toArray, List.set_cons_zero, List.set_cons_succ, Array.replicate]
     refine rH [9] (h := ?_)
     refine cH (h := fun K hK => ?_) (hs := ?_)
     ·go_simp; go_at_call 38; refine (refAll_len q 1 (by omega) R.tick A hA _ (HR1.out.below (by exact hHeld)) (by exact Nat.le_trans hs (by decide))).mono ?_; rintro e wq ⟨xA, kA, rfl, hbq⟩; try go_simp
      refine hK.out _ _ (by exact bstep hHeld hbq) (fun hHeld => ?_)
      clear hK K
      try simp only [Act.put, List.setIfInBounds_toArray, List.set_cons_zero, List.set_cons_succ, Array.replicate]
      refine tH (i := 10) (v := ?_) (y := (Or.inl ⟨by rfl, ?_⟩)) (h := ?_)
      rotate_left
      ·intro w _; go_simp; try with_reducible rfl
      try simp only [Act.put, List.setIfInBounds_toArray, List.set_cons_zero, List.set_cons_succ, Array.replicate]
      refine tH (i := 11) (v := ?_) (y := (Or.inl ⟨by rfl, ?_⟩)) (h := ?_)
      rotate_left
      ·intro w _; go_simp; try with_reducible rfl
      try simp only [Act.put, List.setIfInBounds_toArray, List.set_cons_zero, List.set_cons_succ, Array.replicate]
      refine tH (i := 12) (v := ?_) (y := (Or.inl ⟨by rfl, ?_⟩)) (h := ?_)
      rotate_left
      ·intro w _; go_simp; try with_reducible rfl
      try simp only [Act.put, List.setIfInBounds_toArray, List.set_cons_zero, List.set_cons_succ, Array.replicate]
      refine wpAnyH_done (by kernel_rfl) ?_ _
      have hrq := HR1.out.below hHeld
      have huq : Upd q w wq := HU1.out.trans (Upd.of_below hHeld)
      have HUQ := Lib.hid huq
      clear huq
      obtain ⟨xf0, kf0, xf1, kf1, xm0, km0, xm1, km1, xo0, ko0, xo1, ko1, hR, of0, of1, om0, om1, oo0, oo1⟩ := hrq
      have HR := Lib.hid hR
      have OF0 := Lib.hid of0
      have OF1 := Lib.hid of1
      have OM0 := Lib.hid om0
      have OM1 := Lib.hid om1
      have OO0 := Lib.hid oo0
      have OO1 := Lib.hid oo1
      clear hR of0 of1 om0 om1 oo0 oo1
      go_upto_region 6 with fail
      refine wp_region_any (by kernel_rfl) ?_
      try (change wpAny _ _ _ _ _ _ _ (World.drew _))
      refine tA (i := 0) (v := ?_) (y := (Or.inl ⟨by rfl, ?_⟩)) (h := ?_)
      rotate_left
      ·intro w; go_simp; try with_reducible rfl
      try simp only [Act.put, List.setIfInBounds_toArray, List.set_cons_zero, List.set_cons_succ, Array.replicate]
      refine tA (i := 1) (v := ?_) (y := (Or.inl ⟨by rfl, ?_⟩)) (h := ?_)
      rotate_left
      ·intro w; go_simp; try with_reducible rfl
      try simp only [Act.put, List.setIfInBounds_toArray, List.set_cons_zero, List.set_cons_succ, Array.replicate]
      refine tA (i := 2) (v := ?_) (y := (Or.inl ⟨by rfl, ?_⟩)) (h := ?_)
      rotate_left
      ·intro w; go_simp; try with_reducible rfl
      try simp only [Act.put, List.setIfInBounds_toArray, List.set_cons_zero, List.set_cons_succ, Array.replicate]
      refine tA (i := 3) (v := ?_) (y := (Or.inl ⟨by rfl, ?_⟩)) (h := ?_)
      rotate_left
      ·intro w; go_simp; try with_reducible rfl
      try simp only [Act.put, List.setIfInBounds_toArray, List.set_cons_zero, List.set_cons_succ, Array.replicate]
      refine tA (i := 4) (v := ?_) (y := (Or.inl ⟨by rfl, ?_⟩)) (h := ?_)
      rotate_left
      ·intro w; go_simp; try with_reducible rfl
      try simp only [Act.put, List.setIfInBounds_toArray, List.set_cons_zero, List.set_cons_succ, Array.replicate]
      refine tA (i := 5) (v := ?_) (y := (Or.inl ⟨by rfl, ?_⟩)) (h := ?_)
      rotate_left
      ·intro w; go_simp; try with_reducible rfl
      try simp only [Act.put, List.setIfInBounds_toArray, List.set_cons_zero, List.set_cons_succ, Array.replicate]
      refine tA (i := 7) (v := ?_) (y := (Or.inl ⟨by rfl, ?_⟩)) (h := ?_)
      rotate_left
      ·intro w; go_simp; try with_reducible rfl
      try simp only [Act.put, List.setIfInBounds_toArray, List.set_cons_zero, List.set_cons_succ, Array.replicate]
      refine tA (i := 9) (v := ?_) (y := (Or.inl ⟨by rfl, ?_⟩)) (h := ?_)
      rotate_left
      ·intro w; go_simp; try with_reducible rfl
      try simp only [Act.put, List.setIfInBounds_toArray, List.set_cons_zero, List.set_cons_succ, Array.replicate]
      refine tA (i := 10) (v := ?_) (y := (Or.inl ⟨by rfl, ?_⟩)) (h := ?_)
      rotate_left
      ·intro w; go_simp; try with_reducible rfl
      try simp only [Act.put, List.setIfInBounds_toArray, List.set_cons_zero, List.set_cons_succ, Array.replicate]
      refine tA (i := 13) (v := ?_) (y := (Or.inl ⟨by rfl, ?_⟩)) (h := ?_)
      rotate_left
      ·intro w; go_simp; try with_reducible rfl
      try simp only [Act.put, List.setIfInBounds_toArray, List.set_cons_zero, List.set_cons_succ, Array.replicate]
      refine tA (i := 14) (v := ?_) (y := (Or.inl ⟨by rfl, ?_⟩)) (h := ?_)
      rotate_left
      ·intro w; go_simp; try with_reducible rfl
      try simp only [Act.put, List.setIfInBounds_toArray, List.set_cons_zero, List.set_cons_succ, Array.replicate]
      refine tA (i := 17) (v := ?_) (y := (Or.inl ⟨by rfl, ?_⟩)) (h := ?_)
      rotate_left
      ·intro w; go_simp; try with_reducible rfl
      try simp only [Act.put, List.setIfInBounds_toArray, List.set_cons_zero, List.set_cons_succ, Array.replicate]
      refine tA (i := 18) (v := ?_) (y := (Or.inl ⟨by rfl, ?_⟩)) (h := ?_)
      rotate_left
      ·intro w; go_simp; try with_reducible rfl
      try simp only [Act.put, List.setIfInBounds_toArray, List.set_cons_zero, List.set_cons_succ, Array.replicate]
      refine rA [6] (h := ?_)
      refine cA (h := fun K hK => ?_) (hs := ?_)
      ·go_simp
       refine hK _ _ ?_
       clear hK K
       try simp only [Act.put, List.setIfInBounds_toArray, List.set_cons_zero, List.set_cons_succ, Array.replicate]
       refine rA [8] (h := ?_)
       refine cA (h := fun K hK => ?_) (hs := ?_)
       ·refine step_app_own Try.underlying27 info_byte (by with_unfolding_all rfl) (.tmp 33) (.tmp 34) rfl rfl (Row.new _ _ []) rfl (HSB.out _ (HUQ.out.trans (Upd.of_below (balloc (Below.refl _ _).drew _)))) (by omega) ?_; intro v5 w5 ho5 hb5; have hbq5 : Below wq.heap.size wq w5 := bstep (balloc (Below.refl _ _).drew _) hb5; obtain ⟨x5, k5, rfl, -⟩ := ho5.sh.open; have hr5 := Row.keep HR.out hbq5; have hz1 := Row.frozen hr5 4; have hz2 := Row.frozen hr5 2; have hz3 := Row.frozen hr5 6; have hc1 := Row.cell hr5 4; have hc2 := Row.cell hr5 2; have hc3 := Row.cell hr5 6; simp only [RdC, List.getElem?_cons_succ, List.getElem?_cons_zero] at hc1 hc2 hc3
        refine hK _ _ ?_
        clear hK K
        try simp only [Act.put, List.setIfInBounds_toArray, List.set_cons_zero, List.set_cons_succ, Array.replicate]
        refine tA (i := 11) (v := ?_) (y := (Or.inl ⟨by rfl, ?_⟩)) (h := ?_)
        rotate_left
        ·intro w; go_simp; try with_reducible rfl
        try simp only [Act.put, List.setIfInBounds_toArray, List.set_cons_zero, List.set_cons_succ, Array.replicate]
        refine rA [12] (h := ?_)
        refine cA (h := fun K hK => ?_) (hs := ?_)
        ·go_simp
         refine hK _ _ ?_
         clear hK K
         try simp only [Act.put, List.setIfInBounds_toArray, List.set_cons_zero, List.set_cons_succ, Array.replicate]
         refine tA (i := 15) (v := ?_) (y := (Or.inl ⟨by rfl, ?_⟩)) (h := ?_)
         rotate_left
         ·intro w; go_simp; try with_reducible rfl
         try simp only [Act.put, List.setIfInBounds_toArray, List.set_cons_zero, List.set_cons_succ, Array.replicate]
         refine rA [16] (h := ?_)
         refine cA (h := fun K hK => ?_) (hs := ?_)
         ·go_simp
          refine hK _ _ ?_
          clear hK K
          try simp only [Act.put, List.setIfInBounds_toArray, List.set_cons_zero, List.set_cons_succ, Array.replicate]
          refine tA (i := 19) (v := ?_) (y := (Or.inl ⟨by rfl, ?_⟩)) (h := ?_)
          rotate_left
          ·intro w; go_simp; try with_reducible rfl
          try simp only [Act.put, List.setIfInBounds_toArray, List.set_cons_zero, List.set_cons_succ, Array.replicate]
          refine rA [20] (h := ?_)
          refine cA (h := fun K hK => ?_) (hs := ?_)
          ·go_simp
           refine hK _ _ ?_
           clear hK K
           try simp only [Act.put, List.setIfInBounds_toArray, List.set_cons_zero, List.set_cons_succ, Array.replicate]
           refine wpAny_done (by kernel_rfl) ?_ _
           go_wp2_with fail
           go_ret
           have hs1 := rset4 hr5 (.slice x5 b.length k5)
           have hs2 := rset2 hs1.1 (.slice none 0 0)
           have hs3 := rset6 hs2.1 true
           have hu3 := (hs1.2.trans hs2.2).trans hs3.2
           have hu4 := (HUQ.out.trans (Upd.of_below hbq5)).trans hu3
           have hu5 := (Upd.of_below (p := q) hbq5).trans hu3
           exact ⟨rfl, ⟨xf0, kf0, xf1, kf1, none, 0, xm1, km1, x5, k5, xo1, ko1, hs3.1, rkeep OF0.out HR.out hu5, rkeep OF1.out HR.out hu5, Own.nil _ _ _, rkeep OM1.out HR.out hu5, rkeep ho5 hr5 hu3, rkeep OO1.out HR.out hu5⟩, hu4⟩
          exact AllReady.nil
         exact AllReady.nil
        exact AllReady.nil
       exact AllReady.nil
      exact AllReady.nil
     exact AllReadyH.nil
   ·obtain ⟨A, hA⟩ : ∃ A, (R.tick.all 0).length = A := ⟨_, rfl⟩
    have hA' : (R.all 0).length = A := hA
    have hAb : A ≤ 100000000000 := by have h0 := R.all_le 0; omega
    have hl8 : R.tick.lim = R.lim := rfl
    have hw6 : IntKind.i64.wrap (R.lim - (A : Int)) = R.lim - (A : Int) := IntWalk.i64_in _ ⟨by omega, by omega⟩
    by_cases hfit : R.lim - (A : Int) < (b.length : Int)
    ·have e0 : R.replace ((1 : Nat) : Int) b = (R.tick, 8) := by unfold RD.replace; rw [if_neg hbad, if_neg harg]; exact if_pos (show R.lim - ((R.all 0).length : Int) < (b.length : Int) by rw [hA']; exact hfit)
     rw [e0]
     clear e0
     go_enter Try.func49, Try.ntmps49
     go_wp2_with fail
     refine (refcounts_ok q _ R _ H.out hbad hm (by omega)).mono ?_; rintro e w1 ⟨rfl, hr1, hu1⟩
     have HR1 := Lib.hid hr1
     have HU1 := Lib.hid hu1
     clear hr1 hu1
     have h8 := Rdk.lim HR1.out
     have H8 := Lib.hid h8
     clear h8
     go_upto_region 4 with fail
     refine wp_region_held_drew (S := fun w' => Below w1.heap.size w1 w') (by kernel_rfl) (by exact (Below.refl _ _).drew) (fun hHeld => ?_)
     refine tH (i := 0) (v := ?_) (y := (Or.inl ⟨by rfl, ?_⟩)) (h := ?_)
     rotate_left
     ·intro w _; go_simp; try with_reducible rfl
     try simp only [Act.put, List.setIfInBounds_toArray, List.set_cons_zero, List.set_cons_succ, Array.replicate]
     refine tH (i := 1) (v := ?_) (y := (Or.inl ⟨by rfl, ?_⟩)) (h := ?_)
     rotate_left
     ·intro w _; go_simp; try with_reducible rfl
     try simp only [Act.put, List.setIfInBounds_toArray, List.set_cons_zero, List.set_cons_succ, Array.replicate]
     refine tH (i := 2) (v := ?_) (y := (Or.inl ⟨by rfl, ?_⟩)) (h := ?_)
     rotate_left
     ·intro w _; go_simp; try with_reducible rfl
     try simp only [Act.put, List.setIfInBounds_toArray, List.set_cons_zero, List.set_cons_succ, Array.replicate]
     refine tH (i := 3) (v := ?_) (y := (Or.inl ⟨by rfl, ?_⟩)) (h := ?_)
     rotate_left
     ·intro w _; go_simp; try with_reducible rfl
     try simp only [Act.put, List.setIfInBounds_toArray, List.set_cons_zero, List.set_cons_succ, Array.replicate]
     refine tH (i := 4) (v := ?_) (y := (Or.inl ⟨by rfl, ?_⟩)) (h := ?_)
     rotate_left
     ·intro w _; go_simp; try with_reducible rfl
     try simp only [Act.put, List.setIfInBounds_toArray, List.set_cons_zero, List.set_cons_succ, Array.replicate]
     refine tH (i := 5) (v := ?_) (y := (Or.inl ⟨by rfl, ?_⟩)) (h := ?_)
     rotate_left
     ·intro w hSS; have h8 := bkeep hSS H8.out; go_simp; try with_reducible rfl
     try simp only [Act.put, List.setIfInBounds_toArray, List.set_cons_zero, List.set_cons_succ, Array.replicate]
     refine tH (i := 6) (v := ?_) (y := (Or.inl ⟨by rfl, ?_⟩)) (h := ?_)
     rotate_left
     ·intro w _; go_simp; try with_reducible rfl
     try simp only [Act.put, List.setIfInBounds_toArray, List.set_cons_zero, List.set_cons_succ, Array.replicate]
     refine tH (i := 7) (v := ?_) (y := (Or.inl ⟨by rfl, ?_⟩)) (h := ?_)
     rotate_left
     ·intro w _; go_simp; try with_reducible rfl
     try simp only [Act.put, List.setIfInBounds_toArray, List.set_cons_zero, List.set_cons_succ, Array.replicate]
     refine tH (i := 8) (v := ?_) (y := (Or.inl ⟨by rfl, ?_⟩)) (h := ?_)
     rotate_left
     ·intro w _; go_simp; try with_reducible rfl
     try simp only [Act.put, List.setIfInBounds_toArray, List.set_cons_zero, List.set_cons_succ, Array.replicate]
     refine rH [9] (h := ?_)
     refine cH (h := fun K hK => ?_) (hs := ?_)
     ·go_simp; go_at_call 38; refine (refAll_len q 0 (by omega) R.tick A hA _ (HR1.out.below (by exact hHeld)) (by exact Nat.le_trans hs (by decide))).mono ?_; rintro e wq ⟨xA, kA, rfl, hbq⟩; try go_simp
      refine hK.out _ _ (by exact bstep hHeld hbq) (fun hHeld => ?_)
      clear hK K
      try simp only [Act.put, List.setIfInBounds_toArray, List.set_cons_zero, List.set_cons_succ, Array.replicate]
      refine tH (i := 10) (v := ?_) (y := (Or.inl ⟨by rfl, ?_⟩)) (h := ?_)
      rotate_left
      ·intro w _; go_simp; try with_reducible rfl
      try simp only [Act.put, List.setIfInBounds_toArray, List.set_cons_zero, List.set_cons_succ, Array.replicate]
      refine tH (i := 11) (v := ?_) (y := (Or.inl ⟨by rfl, ?_⟩)) (h := ?_)
      rotate_left
      ·intro w _; go_simp; try with_reducible rfl
      try simp only [Act.put, List.setIfInBounds_toArray, List.set_cons_zero, List.set_cons_succ, Array.replicate]
      refine tH (i := 12) (v := ?_) (y := (Or.inl ⟨by rfl, ?_⟩)) (h := ?_)
      rotate_left
      ·intro w _; go_simp; try with_reducible rfl
      try simp only [Act.put, List.setIfInBounds_toArray, List.set_cons_zero, List.set_cons_succ, Array.replicate]
      refine wpAnyH_done (by kernel_rfl) ?_ _
      have hu2 := HU1.out.trans (Upd.of_below hHeld)
      go_wp2_with fail
      go_ret
      exact ⟨rfl, HR1.out.below hHeld, hu2⟩
     exact AllReadyH.nil
    ·have e0 : R.replace ((1 : Nat) : Int) b = ({ R.tick with o1 := b, m1 := [], i1 := true }, 0) := by unfold RD.replace; rw [if_neg hbad, if_neg harg]; exact (if_neg (show ¬ R.lim - ((R.all 0).length : Int) < (b.length : Int) by rw [hA']; exact hfit)).trans rfl
     rw [e0]
     clear e0
     go_enter Try.func49, Try.ntmps49
     go_wp2_with fail
     refine (refcounts_ok q _ R _ H.out hbad hm (by omega)).mono ?_; rintro e w1 ⟨rfl, hr1, hu1⟩
     have HR1 := Lib.hid hr1
     have HU1 := Lib.hid hu1
     clear hr1 hu1
     have h8 := Rdk.lim HR1.out
     have H8 := Lib.hid h8
     clear h8
     go_upto_region 4 with fail
     refine wp_region_held_drew (S := fun w' => Below w1.heap.size w1 w') (by kernel_rfl) (by exact (Below.refl _ _).drew) (fun hHeld => ?_)
     refine tH (i := 0) (v := ?_) (y := (Or.inl ⟨by rfl, ?_⟩)) (h := ?_)
     rotate_left
     ·intro w _; go_simp; try with_reducible rfl
     try simp only [Act.put, List.setIfInBounds_toArray, List.set_cons_zero, List.set_cons_succ, Array.replicate]
     refine tH (i := 1) (v := ?_) (y := (Or.inl ⟨by rfl, ?_⟩)) (h := ?_)
     rotate_left
     ·intro w _; go_simp; try with_reducible rfl
     try simp only [Act.put, List.setIfInBounds_toArray, List.set_cons_zero, List.set_cons_succ, Array.replicate]
     refine tH (i := 2) (v := ?_) (y := (Or.inl ⟨by rfl, ?_⟩)) (h := ?_)
     rotate_left
     ·intro w _; go_simp; try with_reducible rfl
     try simp only [Act.put, List.setIfInBounds_toArray, List.set_cons_zero, List.set_cons_succ, Array.replicate]
     refine tH (i := 3) (v := ?_) (y := (Or.inl ⟨by rfl, ?_⟩)) (h := ?_)
     rotate_left
     ·intro w _; go_simp; try with_reducible rfl
     try simp only [Act.put, List.setIfInBounds_toArray, List.set_cons_zero, List.set_cons_succ, Array.replicate]
     refine tH (i := 4) (v := ?_) (y := (Or.inl ⟨by rfl, ?_⟩)) (h := ?_)
     rotate_left
     ·intro w _; go_simp; try with_reducible rfl
     try simp only [Act.put, List.setIfInBounds_toArray, List.set_cons_zero, List.set_cons_succ, Array.replicate]
     refine tH (i := 5) (v := ?_) (y := (Or.inl ⟨by rfl, ?_⟩)) (h := ?_)
     rotate_left
     ·intro w hSS; have h8 := bkeep hSS H8.out; go_simp; try with_reducible rfl
     try simp only [Act.put, List.setIfInBounds_toArray, List.set_cons_zero, List.set_cons_succ, Array.replicate]
     refine tH (i := 6) (v := ?_) (y := (Or.inl ⟨by rfl, ?_⟩)) (h := ?_)
     rotate_left
     ·intro w _; go_simp; try with_reducible rfl
     try simp only [Act.put, List.setIfInBounds_toArray, List.set_cons_zero, List.set_cons_succ, Array.replicate]
     refine tH (i := 7) (v := ?_) (y := (Or.inl ⟨by rfl, ?_⟩)) (h := ?_)
     rotate_left
     ·intro w _; go_simp; try with_reducible rfl
     try simp only [Act.put, List.setIfInBounds_toArray, List.set_cons_zero, List.set_cons_succ, Array.replicate]
     refine tH (i := 8) (v := ?_) (y := (Or.inl ⟨by rfl, ?_⟩)) (h := ?_)
     rotate_left
     ·intro w _; go_simp; try with_reducible rfl
     try simp only [Act.put, List.setIfInBounds_toArray, List.set_cons_zero, List.set_cons_succ, Array.replicate]
     refine rH [9] (h := ?_)
     refine cH (h := fun K hK => ?_) (hs := ?_)
     ·go_simp; go_at_call 38; refine (refAll_len q 0 (by omega) R.tick A hA _ (HR1.out.below (by exact hHeld)) (by exact Nat.le_trans hs (by decide))).mono ?_; rintro e wq ⟨xA, kA, rfl, hbq⟩; try go_simp
      refine hK.out _ _ (by exact bstep hHeld hbq) (fun hHeld => ?_)
      clear hK K
      try simp only [Act.put, List.setIfInBounds_toArray, List.set_cons_zero, List.set_cons_succ, Array.replicate]
      refine tH (i := 10) (v := ?_) (y := (Or.inl ⟨by rfl, ?_⟩)) (h := ?_)
      rotate_left
      ·intro w _; go_simp; try with_reducible rfl
      try simp only [Act.put, List.setIfInBounds_toArray, List.set_cons_zero, List.set_cons_succ, Array.replicate]
      refine tH (i := 11) (v := ?_) (y := (Or.inl ⟨by rfl, ?_⟩)) (h := ?_)
      rotate_left
      ·intro w _; go_simp; try with_reducible rfl
      try simp only [Act.put, List.setIfInBounds_toArray, List.set_cons_zero, List.set_cons_succ, Array.replicate]
      refine tH (i := 12) (v := ?_) (y := (Or.inl ⟨by rfl, ?_⟩)) (h := ?_)
      rotate_left
      ·intro w _; go_simp; try with_reducible rfl
      try simp only [Act.put, List.setIfInBounds_toArray, List.set_cons_zero, List.set_cons_succ, Array.replicate]
      refine wpAnyH_done (by kernel_rfl) ?_ _
      have hrq := HR1.out.below hHeld
      have huq : Upd q w wq := HU1.out.trans (Upd.of_below hHeld)
      have HUQ := Lib.hid huq
      clear huq
      obtain ⟨xf0, kf0, xf1, kf1, xm0, km0, xm1, km1, xo0, ko0, xo1, ko1, hR, of0, of1, om0, om1, oo0, oo1⟩ := hrq
      have HR := Lib.hid hR
      have OF0 := Lib.hid of0
      have OF1 := Lib.hid of1
      have OM0 := Lib.hid om0
      have OM1 := Lib.hid om1
      have OO0 := Lib.hid oo0
      have OO1 := Lib.hid oo1
      clear hR of0 of1 om0 om1 oo0 oo1
      go_upto_region 6 with fail
      refine wp_region_any (by kernel_rfl) ?_
      try (change wpAny _ _ _ _ _ _ _ (World.drew _))
      refine tA (i := 0) (v := ?_) (y := (Or.inl ⟨by rfl, ?_⟩)) (h := ?_)
      rotate_left
      ·intro w; go_simp; try with_reducible rfl
      try simp only [Act.put, List.setIfInBounds_toArray, List.set_cons_zero, List.set_cons_succ, Array.replicate]
      refine tA (i := 1) (v := ?_) (y := (Or.inl ⟨by rfl, ?_⟩)) (h := ?_)
      rotate_left
      ·intro w; go_simp; try with_reducible rfl
      try simp only [Act.put, List.setIfInBounds_toArray, List.set_cons_zero, List.set_cons_succ, Array.replicate]
      refine tA (i := 2) (v := ?_) (y := (Or.inl ⟨by rfl, ?_⟩)) (h := ?_)
      rotate_left
      ·intro w; go_simp; try with_reducible rfl
      try simp only [Act.put, List.setIfInBounds_toArray, List.set_cons_zero, List.set_cons_succ, Array.replicate]
      refine tA (i := 3) (v := ?_) (y := (Or.inl ⟨by rfl, ?_⟩)) (h := ?_)
      rotate_left
      ·intro w; go_simp; try with_reducible rfl
      try simp only [Act.put, List.setIfInBounds_toArray, List.set_cons_zero, List.set_cons_succ, Array.replicate]
      refine tA (i := 4) (v := ?_) (y := (Or.inl ⟨by rfl, ?_⟩)) (h := ?_)
      rotate_left
      ·intro w; go_simp; try with_reducible rfl
      try simp only [Act.put, List.setIfInBounds_toArray, List.set_cons_zero, List.set_cons_succ, Array.replicate]
      refine tA (i := 5) (v := ?_) (y := (Or.inl ⟨by rfl, ?_⟩)) (h := ?_)
      rotate_left
      ·intro w; go_simp; try with_reducible rfl
      try simp only [Act.put, List.setIfInBounds_toArray, List.set_cons_zero, List.set_cons_succ, Array.replicate]
      refine tA (i := 7) (v := ?_) (y := (Or.inl ⟨by rfl, ?_⟩)) (h := ?_)
      rotate_left
      ·intro w; go_simp; try with_reducible rfl
      try simp only [Act.put, List.setIfInBounds_toArray, List.set_cons_zero, List.set_cons_succ, Array.replicate]
      refine tA (i := 9) (v := ?_) (y := (Or.inl ⟨by rfl, ?_⟩)) (h := ?_)
      rotate_left
      ·intro w; go_simp; try with_reducible rfl
      try simp only [Act.put, List.setIfInBounds_toArray, List.set_cons_zero, List.set_cons_succ, Array.replicate]
      refine tA (i := 10) (v := ?_) (y := (Or.inl ⟨by rfl, ?_⟩)) (h := ?_)
      rotate_left
      ·intro w; go_simp; try with_reducible rfl
      try simp only [Act.put, List.setIfInBounds_toArray, List.set_cons_zero, List.set_cons_succ, Array.replicate]
      refine tA (i := 13) (v := ?_) (y := (Or.inl ⟨by rfl, ?_⟩)) (h := ?_)
      rotate_left
      ·intro w; go_simp; try with_reducible rfl
      try simp only [Act.put, List.setIfInBounds_toArray, List.set_cons_zero, List.set_cons_succ, Array.replicate]
      refine tA (i := 14) (v := ?_) (y := (Or.inl ⟨by rfl, ?_⟩)) (h := ?_)
      rotate_left
      ·intro w; go_simp; try with_reducible rfl
      try simp only [Act.put, List.setIfInBounds_toArray, List.set_cons_zero, List.set_cons_succ, Array.replicate]
      refine tA (i := 17) (v := ?_) (y := (Or.inl ⟨by rfl, ?_⟩)) (h := ?_)
      rotate_left
      ·intro w; go_simp; try with_reducible rfl
      try simp only [Act.put, List.setIfInBounds_toArray, List.set_cons_zero, List.set_cons_succ, Array.replicate]
      refine tA (i := 18) (v := ?_) (y := (Or.inl ⟨by rfl, ?_⟩)) (h := ?_)
      rotate_left
      ·intro w; go_simp; try with_reducible rfl
      try simp only [Act.put, List.setIfInBounds_toArray, List.set_cons_zero, List.set_cons_succ, Array.replicate]
      refine rA [6] (h := ?_)
      refine cA (h := fun K hK => ?_) (hs := ?_)
      ·go_simp
       refine hK _ _ ?_
       clear hK K
       try simp only [Act.put, List.setIfInBounds_toArray, List.set_cons_zero, List.set_cons_succ, Array.replicate]
       refine rA [8] (h := ?_)
       refine cA (h := fun K hK => ?_) (hs := ?_)
       ·refine step_app_own Try.underlying27 info_byte (by with_unfolding_all rfl) (.tmp 33) (.tmp 34) rfl rfl (Row.new _ _ []) rfl (HSB.out _ (HUQ.out.trans (Upd.of_below (balloc (Below.refl _ _).drew _)))) (by omega) ?_; intro v5 w5 ho5 hb5; have hbq5 : Below wq.heap.size wq w5 := bstep (balloc (Below.refl _ _).drew _) hb5; obtain ⟨x5, k5, rfl, -⟩ := ho5.sh.open; have hr5 := Row.keep HR.out hbq5; have hz1 := Row.frozen hr5 5; have hz2 := Row.frozen hr5 3; have hz3 := Row.frozen hr5 7; have hc1 := Row.cell hr5 5; have hc2 := Row.cell hr5 3; have hc3 := Row.cell hr5 7; simp only [RdC, List.getElem?_cons_succ, List.getElem?_cons_zero] at hc1 hc2 hc3
        refine hK _ _ ?_
        clear hK K
        try simp only [Act.put, List.setIfInBounds_toArray, List.set_cons_zero, List.set_cons_succ, Array.replicate]
        refine tA (i := 11) (v := ?_) (y := (Or.inl ⟨by rfl, ?_⟩)) (h := ?_)
        rotate_left
        ·intro w; go_simp; try with_reducible rfl
        try simp only [Act.put, List.setIfInBounds_toArray, List.set_cons_zero, List.set_cons_succ, Array.replicate]
        refine rA [12] (h := ?_)
        refine cA (h := fun K hK => ?_) (hs := ?_)
        ·go_simp
         refine hK _ _ ?_
         clear hK K
         try simp only [Act.put, List.setIfInBounds_toArray, List.set_cons_zero, List.set_cons_succ, Array.replicate]
         refine tA (i := 15) (v := ?_) (y := (Or.inl ⟨by rfl, ?_⟩)) (h := ?_)
         rotate_left
         ·intro w; go_simp; try with_reducible rfl
         try simp only [Act.put, List.setIfInBounds_toArray, List.set_cons_zero, List.set_cons_succ, Array.replicate]
         refine rA [16] (h := ?_)
         refine cA (h := fun K hK => ?_) (hs := ?_)
         ·go_simp
          refine hK _ _ ?_
          clear hK K
          try simp only [Act.put, List.setIfInBounds_toArray, List.set_cons_zero, List.set_cons_succ, Array.replicate]
          refine tA (i := 19) (v := ?_) (y := (Or.inl ⟨by rfl, ?_⟩)) (h := ?_)
          rotate_left
          ·intro w; go_simp; try with_reducible rfl
          try simp only [Act.put, List.setIfInBounds_toArray, List.set_cons_zero, List.set_cons_succ, Array.replicate]
          refine rA [20] (h := ?_)
          refine cA (h := fun K hK => ?_) (hs := ?_)
          ·go_simp
           refine hK _ _ ?_
           clear hK K
           try simp only [Act.put, List.setIfInBounds_toArray, List.set_cons_zero, List.set_cons_succ, Array.replicate]
           refine wpAny_done (by kernel_rfl) ?_ _
           go_wp2_with fail
           go_ret
           have hs1 := rset5 hr5 (.slice x5 b.length k5)
           have hs2 := rset3 hs1.1 (.slice none 0 0)
           have hs3 := rset7 hs2.1 true
           have hu3 := (hs1.2.trans hs2.2).trans hs3.2
           have hu4 := (HUQ.out.trans (Upd.of_below hbq5)).trans hu3
           have hu5 := (Upd.of_below (p := q) hbq5).trans hu3
           exact ⟨rfl, ⟨xf0, kf0, xf1, kf1, xm0, km0, none, 0, xo0, ko0, x5, k5, hs3.1, rkeep OF0.out HR.out hu5, rkeep OF1.out HR.out hu5, rkeep OM0.out HR.out hu5, Own.nil _ _ _, rkeep OO0.out HR.out hu5, rkeep ho5 hr5 hu3⟩, hu4⟩
          exact AllReady.nil
         exact AllReady.nil
        exact AllReady.nil
       exact AllReady.nil
      exact AllReady.nil
     exact AllReadyH.nil
theorem refSync_any (q : Nat) (n : Int) (R : RD) (w : World) (hR0 : Rdk w q R) (hm : -9223372036854775808 < R.left ∧ R.left ≤ 9223372036854775807) (hs : R.sz ≤ 100000000000) (hlim : -1000000000000 ≤ R.lim ∧ R.lim ≤ 1000000000000) :
  Calls Try.prog 50 #[.pointer (some ⟨q, 0, none⟩), .int .i64 n] w fun e w' => e = .returned (.int .i64 ((R.sync n).2 : Int)) ∧ Rdk w' q (R.sync n).1 ∧ Upd q w w' := by
 have H := Lib.hid hR0
 clear hR0
 by_cases hbad : R.dead = true ∨ (R.armed = true ∧ R.left = 0)
 ·have e0 : R.sync n = (R.kill, 140) := by unfold RD.sync; rw [if_pos hbad]
  rw [e0]
  clear e0
  go_enter Try.func50, Try.ntmps50
  go_wp2_with fail
  refine (refcounts_bad q n R _ H.out hbad).mono ?_; rintro e w1 ⟨rfl, hr1, hu1⟩
  go_wp2_with fail
  go_ret
  exact ⟨rfl, hr1, hu1⟩
 ·by_cases harg : n < 0 ∨ 1 < n
  ·have e0 : R.sync n = (R.tick, 1) := by unfold RD.sync; rw [if_neg hbad, if_pos harg]
   rw [e0]
   clear e0
   go_enter Try.func50, Try.ntmps50
   go_wp2_with fail
   refine (refcounts_arg q n R _ H.out hbad hm harg).mono ?_; rintro e w1 ⟨rfl, hr1, hu1⟩
   go_wp2_with fail
   go_ret
   exact ⟨rfl, hr1, hu1⟩
  ·have hn01 : n = ((0 : Nat) : Int) ∨ n = ((1 : Nat) : Int) := by omega
   rcases hn01 with rfl | rfl
   ·have e0 : R.sync ((0 : Nat) : Int) = (R.tick.fast 0 (R.all 0), 0) := by unfold RD.sync; rw [if_neg hbad, if_neg harg]; rfl
    rw [e0]
    clear e0
    go_enter Try.func50, Try.ntmps50
    go_wp2_with fail
    refine (refcounts_ok q _ R _ H.out hbad hm (by omega)).mono ?_; rintro e w1 ⟨rfl, hr1, hu1⟩
    have HR1 := Lib.hid hr1
    have HU1 := Lib.hid hu1
    clear hr1 hu1
    go_wp2_with fail
    refine (refAll_any q 0 (by omega) R.tick _ HR1.out (by exact Nat.le_trans hs (by decide))).mono ?_; rintro e w2 ⟨v2, rfl, ho2, hb2⟩
    go_wp2_with fail
    refine (fast_any q 0 (by omega) v2 _ _ R.tick _ (HR1.out.below hb2) ho2).mono ?_; rintro e w3 ⟨rfl, hr3, hu3⟩
    go_wp2_with fail
    go_ret
    exact ⟨rfl, hr3, (HU1.out.trans (Upd.of_below hb2)).trans hu3⟩
   ·have e0 : R.sync ((1 : Nat) : Int) = (R.tick.fast 1 (R.all 1), 0) := by unfold RD.sync; rw [if_neg hbad, if_neg harg]; rfl
    rw [e0]
    clear e0
    go_enter Try.func50, Try.ntmps50
    go_wp2_with fail
    refine (refcounts_ok q _ R _ H.out hbad hm (by omega)).mono ?_; rintro e w1 ⟨rfl, hr1, hu1⟩
    have HR1 := Lib.hid hr1
    have HU1 := Lib.hid hu1
    clear hr1 hu1
    go_wp2_with fail
    refine (refAll_any q 1 (by omega) R.tick _ HR1.out (by exact Nat.le_trans hs (by decide))).mono ?_; rintro e w2 ⟨v2, rfl, ho2, hb2⟩
    go_wp2_with fail
    refine (fast_any q 1 (by omega) v2 _ _ R.tick _ (HR1.out.below hb2) ho2).mono ?_; rintro e w3 ⟨rfl, hr3, hu3⟩
    go_wp2_with fail
    go_ret
    exact ⟨rfl, hr3, (HU1.out.trans (Upd.of_below hb2)).trans hu3⟩
end Go.Proofs.Ytkghkpkiodghiaa
