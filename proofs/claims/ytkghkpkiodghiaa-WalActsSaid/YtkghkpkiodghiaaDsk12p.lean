/- The disk: the document's Crash, the walk. (printed by gen/dsk12.py) -/
import Derived.Test.YtkghkpkiodghiaaTk
import Derived.Test.YtkghkpkiodghiaaDsk12z
namespace Go.Proofs.Ytkghkpkiodghiaa
set_option linter.unusedVariables false
set_option linter.unusedSimpArgs false
set_option linter.unnecessarySimpa false
open Go.RowKit
set_option maxRecDepth 100000
set_option maxHeartbeats 4000000

theorem refCrash_p (q : Nat) (kq : Nat) (hk : 0 < kq) (vb : Value) (tail : List UInt8) (R0 : RD) (TT : Nat) (w : World) (hR0 : Rdk w q R0) (hsb : ∀ w', Upd q w w' → Sh w' vb tail) (hbd0 : Bd R0 TT) (hTT : TT + tail.length ≤ 10000000000) :
  Calls Try.prog 36 #[.pointer (some ⟨q, 0, none⟩), .int .i64 (kq : Int), vb] w fun e w' => e = .returned (.tuple #[]) ∧ Rdk w' q (R0.crash (kq : Int) tail) ∧ Upd q w w' := by
 obtain ⟨xv, kv, rfl, -⟩ := (hsb w (Upd.refl _ _)).open
 have HSB := Lib.hid hsb
 clear hsb
 have hoff : ∃ R1, R0.off = R1 ∧ Bd R1 (TT + tail.length) := ⟨_, rfl, ⟨Nat.le_trans hbd0.f0 (by omega), Nat.le_trans hbd0.f1 (by omega), Nat.le_trans hbd0.a0 (by omega), Nat.le_trans hbd0.a1 (by omega), Nat.le_trans hbd0.o0 (by omega), Nat.le_trans hbd0.o1 (by omega)⟩⟩
 obtain ⟨R1, hR1, hbd1⟩ := hoff
 have hcr : R0.crash (kq : Int) tail = (R1.c0 (kq : Int) tail).c1 (kq : Int) tail := by rw [← hR1]; rfl
 rw [hcr]
 have hbd2 : Bd (R1.c0 (kq : Int) tail) (TT + tail.length) := by
  obtain ⟨a1, a2, a3, a4, a5, a6, a7, a8, a9, a10, a11, a12⟩ := c0_spec R1 (kq : Int) tail
  have e1 : (R1.c0 (kq : Int) tail).all 1 = R1.all 1 := all1_of _ _ a4 a5 a6 a7
  have k0 := crashF_small R1.f0 (R1.all 0) R1.i0 (kq : Int) tail TT (by rw [← hR1]; exact hbd0.f0) (by rw [← hR1]; exact hbd0.a0)
  exact ⟨by rw [a1]; exact k0, by rw [a4]; exact hbd1.f1, by rw [a2]; exact k0, by rw [e1]; exact hbd1.a1, Nat.le_trans a12 hbd1.o0, by rw [a6]; exact hbd1.o1⟩
 have hst : ∃ w2, ((w.setCell ⟨q, 10, none⟩ (.bool false)).setCell ⟨q, 11, none⟩ (.bool false)) = w2 ∧ Rdk w2 q R1 ∧ Upd q w w2 := by
  obtain ⟨xf0, kf0, xf1, kf1, xm0, km0, xm1, km1, xo0, ko0, xo1, ko1, hR, of0, of1, om0, om1, oo0, oo1⟩ := hR0
  have h1 := rset10 hR false
  have h2 := rset11 h1.1 false
  have hu := h1.2.trans h2.2
  refine ⟨_, rfl, ?_, hu⟩
  rw [← hR1]
  exact ⟨xf0, kf0, xf1, kf1, xm0, km0, xm1, km1, xo0, ko0, xo1, ko1, h2.1, rkeep of0 hR hu, rkeep of1 hR hu, rkeep om0 hR hu, rkeep om1 hR hu, rkeep oo0 hR hu, rkeep oo1 hR hu⟩
 obtain ⟨w2, hw2, hr2, hu2⟩ := hst
 have h10 : ∃ b, w.cell? ⟨q, 10, none⟩ = some (.bool b) := by
  obtain ⟨xf0, kf0, xf1, kf1, xm0, km0, xm1, km1, xo0, ko0, xo1, ko1, hR, -⟩ := hR0
  exact ⟨_, by rw [Row.cell hR 10]; rfl⟩
 have h11 : ∃ b, w.cell? ⟨q, 11, none⟩ = some (.bool b) := by
  obtain ⟨xf0, kf0, xf1, kf1, xm0, km0, xm1, km1, xo0, ko0, xo1, ko1, hR, -⟩ := hR0
  exact ⟨_, by rw [Row.cell hR 11]; rfl⟩
 have hf10 : w.frozen? ⟨q, 10, none⟩ = false := by
  obtain ⟨xf0, kf0, xf1, kf1, xm0, km0, xm1, km1, xo0, ko0, xo1, ko1, hR, -⟩ := hR0
  exact Row.frozen hR 10
 have hf11 : w.frozen? ⟨q, 11, none⟩ = false := by
  obtain ⟨xf0, kf0, xf1, kf1, xm0, km0, xm1, km1, xo0, ko0, xo1, ko1, hR, -⟩ := hR0
  exact Row.frozen hR 11
 obtain ⟨b10, h10⟩ := h10
 obtain ⟨b11, h11⟩ := h11
 clear hR0 hR1 hcr hbd0
 have HR2 := Lib.hid hr2
 have HU2 := Lib.hid hu2
 have HW2 := Lib.hid hw2
 clear hr2 hu2 hw2
 go_enter Try.func36, Try.ntmps36
 go_wp2_with fail
 try rw [HW2.out]
 clear HW2 h10 h11 hf10 hf11
 go_loopw [6] (fun i wr => ∃ R', Upd q w wr ∧ Rdk wr q R' ∧ ((i = .int .i64 0 ∧ R' = R1) ∨ (i = .int .i64 1 ∧ R' = R1.c0 (kq : Int) tail) ∨ (i = .int .i64 2 ∧ R' = (R1.c0 (kq : Int) tail).c1 (kq : Int) tail))) (fun i _ => 2 - (intOf i).toNat)
 case atStart => exact ⟨_, HU2.out, HR2.out, .inl ⟨rfl, rfl⟩⟩
 case round =>
  obtain ⟨R', hu, hr, ⟨rfl, hRR⟩ | ⟨rfl, hRR⟩ | ⟨rfl, hRR⟩⟩ := hrel
  ·rw [hRR] at hr
   clear hRR
   clear R'
   generalize hRe : R1 = R at *
   have hbd := hbd1
   clear hbd1 hbd2 hRe
   have hszR := hbd.sz
   have HRR := Lib.hid hr
   have HU := Lib.hid hu
   obtain ⟨xf0, kf0, xf1, kf1, xm0, km0, xm1, km1, xo0, ko0, xo1, ko1, hR, of0, of1, om0, om1, oo0, oo1⟩ := hr
   have HR := Lib.hid hR
   have OF0 := Lib.hid of0
   have OF1 := Lib.hid of1
   have OM0 := Lib.hid om0
   have OM1 := Lib.hid om1
   have OO0 := Lib.hid oo0
   have OO1 := Lib.hid oo1
   clear hR of0 of1 om0 om1 oo0 oo1
   have hh0 := Row.cell HR.out 0
   have hh2 := Row.cell HR.out 2
   have hh6 := Row.cell HR.out 6
   simp only [RdC, List.getElem?_cons_succ, List.getElem?_cons_zero] at hh0 hh2 hh6
   cases hi : R.i0 with
   | true =>
    rw [hi] at hh6
    have hc : R.c0 (kq : Int) tail = R.fast 0 (R.all 0) := by unfold RD.c0; rw [if_pos hi, if_pos (by omega)]
    rw [hc]
    clear hc hi
    have hkI : 0 < (kq : Int) := by omega
    go_wp2_with fail
    refine (refAll_any q 0 (by omega) R _ HRR.out (by omega)).mono ?_; rintro e w2 ⟨v2, rfl, ho2, hb2⟩
    go_wp2_with fail
    refine (fast_any q 0 (by omega) v2 _ _ R _ (HRR.out.below hb2) ho2).mono ?_; rintro e w3 ⟨rfl, hr3, hu3⟩
    go_wp2_with fail
    exact ⟨⟨_, (HU.out.trans (Upd.of_below hb2)).trans hu3, hr3, .inr (.inl ⟨rfl, rfl⟩)⟩, by simp [intOf]⟩
   | false =>
    rw [hi] at hh6
    by_cases hml : 0 < R.m0.length
    ·by_cases hkm : (R.m0.length : Int) < (kq : Int)
     ·have hc : R.c0 (kq : Int) tail = R.fast 0 (R.f0 ++ R.m0.take (R.m0.length) ++ tail) := by unfold RD.c0; rw [if_neg (by rw [hi]; simp), if_pos hml]; congr 4 <;> omega
      rw [hc]
      clear hc hi
      have hmlI : 0 < (R.m0.length : Int) := by omega
      obtain ⟨qk1, qk2⟩ := dcap OM0.out
      have hfs : R.f0.length ≤ 100000000000 ∧ R.m0.length ≤ 100000000000 := by have h0 := hszR; unfold RD.sz at h0; omega
      have hcp : (R.m0.length : Int) ≤ (km0 : Int) := by omega
      have hya := bkeep (balloc (Below.refl wr.heap.size wr) (.cells #[] 5)) hh0
      have hyb := bkeep (balloc (Below.refl wr.heap.size wr) (.cells #[] 5)) hh2
      go_upto_region 14 with fail
      refine wp_region_any (by kernel_rfl) ?_
      try (change wpAny _ _ _ _ _ _ _ (World.drew _))
      refine tA (i := 0) (v := ?_) (y := (Or.inl ⟨by rfl, ?_⟩)) (h := ?_)
      rotate_left
      ·intro w; go_simp; try with_reducible rfl
      try simp only [Act.put, List.setIfInBounds_toArray, List.set_cons_zero, List.set_cons_succ, Array.replicate]
      refine tA (i := 1) (v := ?_) (y := (Or.inl ⟨by rfl, ?_⟩)) (h := ?_)
      rotate_left
      ·intro w; go_simp; try with_reducible rfl
      try simp only [Act.put, List.setIfInBounds_toArray, List.set_cons_zero, List.set_cons_succ, Array.replicate]
      refine tA (i := 3) (v := ?_) (y := (Or.inl ⟨by rfl, ?_⟩)) (h := ?_)
      rotate_left
      ·intro w; go_simp; try with_reducible rfl
      try simp only [Act.put, List.setIfInBounds_toArray, List.set_cons_zero, List.set_cons_succ, Array.replicate]
      refine tA (i := 4) (v := ?_) (y := (Or.inl ⟨by rfl, ?_⟩)) (h := ?_)
      rotate_left
      ·intro w; go_simp; try with_reducible rfl
      try simp only [Act.put, List.setIfInBounds_toArray, List.set_cons_zero, List.set_cons_succ, Array.replicate]
      refine tA (i := 5) (v := ?_) (y := (Or.inl ⟨by rfl, ?_⟩)) (h := ?_)
      rotate_left
      ·intro w; go_simp; try with_reducible rfl
      try simp only [Act.put, List.setIfInBounds_toArray, List.set_cons_zero, List.set_cons_succ, Array.replicate]
      refine tA (i := 6) (v := ?_) (y := (Or.inl ⟨by rfl, ?_⟩)) (h := ?_)
      rotate_left
      ·intro w; go_simp; try with_reducible rfl
      try simp only [Act.put, List.setIfInBounds_toArray, List.set_cons_zero, List.set_cons_succ, Array.replicate]
      refine tA (i := 7) (v := ?_) (y := (Or.inl ⟨by rfl, ?_⟩)) (h := ?_)
      rotate_left
      ·intro w; go_simp; try with_reducible rfl
      try simp only [Act.put, List.setIfInBounds_toArray, List.set_cons_zero, List.set_cons_succ, Array.replicate]
      refine tA (i := 10) (v := ?_) (y := (Or.inl ⟨by rfl, ?_⟩)) (h := ?_)
      rotate_left
      ·intro w; go_simp; try with_reducible rfl
      try simp only [Act.put, List.setIfInBounds_toArray, List.set_cons_zero, List.set_cons_succ, Array.replicate]
      refine tA (i := 11) (v := ?_) (y := (Or.inl ⟨by rfl, ?_⟩)) (h := ?_)
      rotate_left
      ·intro w; go_simp; try with_reducible rfl
      try simp only [Act.put, List.setIfInBounds_toArray, List.set_cons_zero, List.set_cons_succ, Array.replicate]
      refine tA (i := 12) (v := ?_) (y := (Or.inl ⟨by rfl, ?_⟩)) (h := ?_)
      rotate_left
      ·intro w; go_simp; try with_reducible rfl
      try simp only [Act.put, List.setIfInBounds_toArray, List.set_cons_zero, List.set_cons_succ, Array.replicate]
      refine tA (i := 13) (v := ?_) (y := (Or.inl ⟨by rfl, ?_⟩)) (h := ?_)
      rotate_left
      ·intro w; go_simp; try with_reducible rfl
      try simp only [Act.put, List.setIfInBounds_toArray, List.set_cons_zero, List.set_cons_succ, Array.replicate]
      refine tA (i := 14) (v := ?_) (y := (Or.inl ⟨by rfl, ?_⟩)) (h := ?_)
      rotate_left
      ·intro w; go_simp; try with_reducible rfl
      try simp only [Act.put, List.setIfInBounds_toArray, List.set_cons_zero, List.set_cons_succ, Array.replicate]
      refine tA (i := 16) (v := ?_) (y := (Or.inl ⟨by rfl, ?_⟩)) (h := ?_)
      rotate_left
      ·intro w; go_simp; try with_reducible rfl
      try simp only [Act.put, List.setIfInBounds_toArray, List.set_cons_zero, List.set_cons_succ, Array.replicate]
      refine tA (i := 19) (v := ?_) (y := (Or.inl ⟨by rfl, ?_⟩)) (h := ?_)
      rotate_left
      ·intro w; go_simp; try with_reducible rfl
      try simp only [Act.put, List.setIfInBounds_toArray, List.set_cons_zero, List.set_cons_succ, Array.replicate]
      refine rA [2, 8, 15] (h := ?_)
      refine cA (h := fun K hK => ?_) (hs := ?_)
      ·go_simp
       refine hK _ _ ?_
       clear hK K
       try simp only [Act.put, List.setIfInBounds_toArray, List.set_cons_zero, List.set_cons_succ, Array.replicate]
       refine rA [8, 15] (h := ?_)
       refine cA (h := fun K hK => ?_) (hs := ?_)
       ·go_simp
        refine hK _ _ ?_
        clear hK K
        try simp only [Act.put, List.setIfInBounds_toArray, List.set_cons_zero, List.set_cons_succ, Array.replicate]
        refine rA [9, 15] (h := ?_)
        refine cA (h := fun K hK => ?_) (hs := ?_)
        ·refine step_app_own Try.underlying27 info_byte (by with_unfolding_all rfl) (.tmp 70) (.tmp 76) rfl rfl (Row.new _ _ []) rfl ((OF0.out.sh).below (balloc (Below.refl _ _).drew _)) (by omega) ?_; intro v4 w4 ho4 hb4; have hb14 : Below wr.heap.size wr w4 := bstep (balloc (Below.refl _ _).drew _) hb4; have hyc := bkeep hb14 hh2
         refine hK _ _ ?_
         clear hK K
         try simp only [Act.put, List.setIfInBounds_toArray, List.set_cons_zero, List.set_cons_succ, Array.replicate]
         refine rA [15] (h := ?_)
         refine cA (h := fun K hK => ?_) (hs := ?_)
         ·go_simp
          refine hK _ _ ?_
          clear hK K
          try simp only [Act.put, List.setIfInBounds_toArray, List.set_cons_zero, List.set_cons_succ, Array.replicate]
          refine tA (i := 17) (v := ?_) (y := (Or.inl ⟨by rfl, ?_⟩)) (h := ?_)
          rotate_left
          ·intro w; go_simp; try with_reducible rfl
          try simp only [Act.put, List.setIfInBounds_toArray, List.set_cons_zero, List.set_cons_succ, Array.replicate]
          refine rA [18] (h := ?_)
          refine cA (h := fun K hK => ?_) (hs := ?_)
          ·refine step_app_more Try.underlying27 info_byte (by with_unfolding_all rfl) (.tmp 77) (.tmp 85) rfl rfl ho4 rfl (((OM0.out.sh).take (R.m0.length) (by omega)).below hb14) (by have h0 := hfs; rw [List.length_take]; omega) (by exact hb14.size) ?_; intro v5 w5 ho5 hb5; have hb15 : Below wr.heap.size wr w5 := hb14.trans hb5
           refine hK _ _ ?_
           clear hK K
           try simp only [Act.put, List.setIfInBounds_toArray, List.set_cons_zero, List.set_cons_succ, Array.replicate]
           refine rA [20] (h := ?_)
           refine cA (h := fun K hK => ?_) (hs := ?_)
           ·refine step_app_more Try.underlying27 info_byte (by with_unfolding_all rfl) (.tmp 86) (.tmp 87) rfl rfl ho5 rfl (HSB.out _ (HU.out.trans (Upd.of_below hb15))) (by have h0 := hfs; rw [List.length_append, List.length_take]; omega) (by exact hb15.size) ?_; intro v6 w6 ho6 hb6; have hb16 : Below wr.heap.size wr w6 := hb15.trans hb6
            refine hK _ _ ?_
            clear hK K
            try simp only [Act.put, List.setIfInBounds_toArray, List.set_cons_zero, List.set_cons_succ, Array.replicate]
            refine rA [21] (h := ?_)
            refine cA (h := fun K hK => ?_) (hs := ?_)
            ·go_simp; go_at_call 53; refine (fast_any q 0 (by omega) v6 _ _ R _ (HRR.out.below hb16) ho6).mono ?_; rintro e w7 ⟨rfl, hr7, hu7⟩; try go_simp
             refine hK _ _ ?_
             clear hK K
             try simp only [Act.put, List.setIfInBounds_toArray, List.set_cons_zero, List.set_cons_succ, Array.replicate]
             refine wpAny_done (by kernel_rfl) ?_ _
             go_wp2_with fail
             exact ⟨⟨_, (HU.out.trans (Upd.of_below hb16)).trans hu7, hr7, .inr (.inl ⟨rfl, rfl⟩)⟩, by simp [intOf]⟩
            exact AllReady.nil
           exact AllReady.nil
          exact AllReady.nil
         exact AllReady.nil
        refine cA (h := fun K hK => ?_) (hs := ?_)
        ·go_simp
         refine hK _ _ ?_
         clear hK K
         try simp only [Act.put, List.setIfInBounds_toArray, List.set_cons_zero, List.set_cons_succ, Array.replicate]
         refine tA (i := 17) (v := ?_) (y := (Or.inl ⟨by rfl, ?_⟩)) (h := ?_)
         rotate_left
         ·intro w; go_simp; try with_reducible rfl
         try simp only [Act.put, List.setIfInBounds_toArray, List.set_cons_zero, List.set_cons_succ, Array.replicate]
         refine rA [9] (h := ?_)
         refine cA (h := fun K hK => ?_) (hs := ?_)
         ·refine step_app_own Try.underlying27 info_byte (by with_unfolding_all rfl) (.tmp 70) (.tmp 76) rfl rfl (Row.new _ _ []) rfl ((OF0.out.sh).below (balloc (Below.refl _ _).drew _)) (by omega) ?_; intro v4 w4 ho4 hb4; have hb14 : Below wr.heap.size wr w4 := bstep (balloc (Below.refl _ _).drew _) hb4; have hyc := bkeep hb14 hh2
          refine hK _ _ ?_
          clear hK K
          try simp only [Act.put, List.setIfInBounds_toArray, List.set_cons_zero, List.set_cons_succ, Array.replicate]
          refine rA [18] (h := ?_)
          refine cA (h := fun K hK => ?_) (hs := ?_)
          ·refine step_app_more Try.underlying27 info_byte (by with_unfolding_all rfl) (.tmp 77) (.tmp 85) rfl rfl ho4 rfl (((OM0.out.sh).take (R.m0.length) (by omega)).below hb14) (by have h0 := hfs; rw [List.length_take]; omega) (by exact hb14.size) ?_; intro v5 w5 ho5 hb5; have hb15 : Below wr.heap.size wr w5 := hb14.trans hb5
           refine hK _ _ ?_
           clear hK K
           try simp only [Act.put, List.setIfInBounds_toArray, List.set_cons_zero, List.set_cons_succ, Array.replicate]
           refine rA [20] (h := ?_)
           refine cA (h := fun K hK => ?_) (hs := ?_)
           ·refine step_app_more Try.underlying27 info_byte (by with_unfolding_all rfl) (.tmp 86) (.tmp 87) rfl rfl ho5 rfl (HSB.out _ (HU.out.trans (Upd.of_below hb15))) (by have h0 := hfs; rw [List.length_append, List.length_take]; omega) (by exact hb15.size) ?_; intro v6 w6 ho6 hb6; have hb16 : Below wr.heap.size wr w6 := hb15.trans hb6
            refine hK _ _ ?_
            clear hK K
            try simp only [Act.put, List.setIfInBounds_toArray, List.set_cons_zero, List.set_cons_succ, Array.replicate]
            refine rA [21] (h := ?_)
            refine cA (h := fun K hK => ?_) (hs := ?_)
            ·go_simp; go_at_call 53; refine (fast_any q 0 (by omega) v6 _ _ R _ (HRR.out.below hb16) ho6).mono ?_; rintro e w7 ⟨rfl, hr7, hu7⟩; try go_simp
             refine hK _ _ ?_
             clear hK K
             try simp only [Act.put, List.setIfInBounds_toArray, List.set_cons_zero, List.set_cons_succ, Array.replicate]
             refine wpAny_done (by kernel_rfl) ?_ _
             go_wp2_with fail
             exact ⟨⟨_, (HU.out.trans (Upd.of_below hb16)).trans hu7, hr7, .inr (.inl ⟨rfl, rfl⟩)⟩, by simp [intOf]⟩
            exact AllReady.nil
           exact AllReady.nil
          exact AllReady.nil
         exact AllReady.nil
        exact AllReady.nil
       refine cA (h := fun K hK => ?_) (hs := ?_)
       ·go_simp
        refine hK _ _ ?_
        clear hK K
        try simp only [Act.put, List.setIfInBounds_toArray, List.set_cons_zero, List.set_cons_succ, Array.replicate]
        refine tA (i := 17) (v := ?_) (y := (Or.inl ⟨by rfl, ?_⟩)) (h := ?_)
        rotate_left
        ·intro w; go_simp; try with_reducible rfl
        try simp only [Act.put, List.setIfInBounds_toArray, List.set_cons_zero, List.set_cons_succ, Array.replicate]
        refine rA [8] (h := ?_)
        refine cA (h := fun K hK => ?_) (hs := ?_)
        ·go_simp
         refine hK _ _ ?_
         clear hK K
         try simp only [Act.put, List.setIfInBounds_toArray, List.set_cons_zero, List.set_cons_succ, Array.replicate]
         refine rA [9] (h := ?_)
         refine cA (h := fun K hK => ?_) (hs := ?_)
         ·refine step_app_own Try.underlying27 info_byte (by with_unfolding_all rfl) (.tmp 70) (.tmp 76) rfl rfl (Row.new _ _ []) rfl ((OF0.out.sh).below (balloc (Below.refl _ _).drew _)) (by omega) ?_; intro v4 w4 ho4 hb4; have hb14 : Below wr.heap.size wr w4 := bstep (balloc (Below.refl _ _).drew _) hb4; have hyc := bkeep hb14 hh2
          refine hK _ _ ?_
          clear hK K
          try simp only [Act.put, List.setIfInBounds_toArray, List.set_cons_zero, List.set_cons_succ, Array.replicate]
          refine rA [18] (h := ?_)
          refine cA (h := fun K hK => ?_) (hs := ?_)
          ·refine step_app_more Try.underlying27 info_byte (by with_unfolding_all rfl) (.tmp 77) (.tmp 85) rfl rfl ho4 rfl (((OM0.out.sh).take (R.m0.length) (by omega)).below hb14) (by have h0 := hfs; rw [List.length_take]; omega) (by exact hb14.size) ?_; intro v5 w5 ho5 hb5; have hb15 : Below wr.heap.size wr w5 := hb14.trans hb5
           refine hK _ _ ?_
           clear hK K
           try simp only [Act.put, List.setIfInBounds_toArray, List.set_cons_zero, List.set_cons_succ, Array.replicate]
           refine rA [20] (h := ?_)
           refine cA (h := fun K hK => ?_) (hs := ?_)
           ·refine step_app_more Try.underlying27 info_byte (by with_unfolding_all rfl) (.tmp 86) (.tmp 87) rfl rfl ho5 rfl (HSB.out _ (HU.out.trans (Upd.of_below hb15))) (by have h0 := hfs; rw [List.length_append, List.length_take]; omega) (by exact hb15.size) ?_; intro v6 w6 ho6 hb6; have hb16 : Below wr.heap.size wr w6 := hb15.trans hb6
            refine hK _ _ ?_
            clear hK K
            try simp only [Act.put, List.setIfInBounds_toArray, List.set_cons_zero, List.set_cons_succ, Array.replicate]
            refine rA [21] (h := ?_)
            refine cA (h := fun K hK => ?_) (hs := ?_)
            ·go_simp; go_at_call 53; refine (fast_any q 0 (by omega) v6 _ _ R _ (HRR.out.below hb16) ho6).mono ?_; rintro e w7 ⟨rfl, hr7, hu7⟩; try go_simp
             refine hK _ _ ?_
             clear hK K
             try simp only [Act.put, List.setIfInBounds_toArray, List.set_cons_zero, List.set_cons_succ, Array.replicate]
             refine wpAny_done (by kernel_rfl) ?_ _
             go_wp2_with fail
             exact ⟨⟨_, (HU.out.trans (Upd.of_below hb16)).trans hu7, hr7, .inr (.inl ⟨rfl, rfl⟩)⟩, by simp [intOf]⟩
            exact AllReady.nil
           exact AllReady.nil
          exact AllReady.nil
         exact AllReady.nil
        exact AllReady.nil
       exact AllReady.nil
      refine cA (h := fun K hK => ?_) (hs := ?_)
      ·go_simp
       refine hK _ _ ?_
       clear hK K
       try simp only [Act.put, List.setIfInBounds_toArray, List.set_cons_zero, List.set_cons_succ, Array.replicate]
       refine rA [2, 15] (h := ?_)
       refine cA (h := fun K hK => ?_) (hs := ?_)
       ·go_simp
        refine hK _ _ ?_
        clear hK K
        try simp only [Act.put, List.setIfInBounds_toArray, List.set_cons_zero, List.set_cons_succ, Array.replicate]
        refine rA [9, 15] (h := ?_)
        refine cA (h := fun K hK => ?_) (hs := ?_)
        ·refine step_app_own Try.underlying27 info_byte (by with_unfolding_all rfl) (.tmp 70) (.tmp 76) rfl rfl (Row.new _ _ []) rfl ((OF0.out.sh).below (balloc (Below.refl _ _).drew _)) (by omega) ?_; intro v4 w4 ho4 hb4; have hb14 : Below wr.heap.size wr w4 := bstep (balloc (Below.refl _ _).drew _) hb4; have hyc := bkeep hb14 hh2
         refine hK _ _ ?_
         clear hK K
         try simp only [Act.put, List.setIfInBounds_toArray, List.set_cons_zero, List.set_cons_succ, Array.replicate]
         refine rA [15] (h := ?_)
         refine cA (h := fun K hK => ?_) (hs := ?_)
         ·go_simp
          refine hK _ _ ?_
          clear hK K
          try simp only [Act.put, List.setIfInBounds_toArray, List.set_cons_zero, List.set_cons_succ, Array.replicate]
          refine tA (i := 17) (v := ?_) (y := (Or.inl ⟨by rfl, ?_⟩)) (h := ?_)
          rotate_left
          ·intro w; go_simp; try with_reducible rfl
          try simp only [Act.put, List.setIfInBounds_toArray, List.set_cons_zero, List.set_cons_succ, Array.replicate]
          refine rA [18] (h := ?_)
          refine cA (h := fun K hK => ?_) (hs := ?_)
          ·refine step_app_more Try.underlying27 info_byte (by with_unfolding_all rfl) (.tmp 77) (.tmp 85) rfl rfl ho4 rfl (((OM0.out.sh).take (R.m0.length) (by omega)).below hb14) (by have h0 := hfs; rw [List.length_take]; omega) (by exact hb14.size) ?_; intro v5 w5 ho5 hb5; have hb15 : Below wr.heap.size wr w5 := hb14.trans hb5
           refine hK _ _ ?_
           clear hK K
           try simp only [Act.put, List.setIfInBounds_toArray, List.set_cons_zero, List.set_cons_succ, Array.replicate]
           refine rA [20] (h := ?_)
           refine cA (h := fun K hK => ?_) (hs := ?_)
           ·refine step_app_more Try.underlying27 info_byte (by with_unfolding_all rfl) (.tmp 86) (.tmp 87) rfl rfl ho5 rfl (HSB.out _ (HU.out.trans (Upd.of_below hb15))) (by have h0 := hfs; rw [List.length_append, List.length_take]; omega) (by exact hb15.size) ?_; intro v6 w6 ho6 hb6; have hb16 : Below wr.heap.size wr w6 := hb15.trans hb6
            refine hK _ _ ?_
            clear hK K
            try simp only [Act.put, List.setIfInBounds_toArray, List.set_cons_zero, List.set_cons_succ, Array.replicate]
            refine rA [21] (h := ?_)
            refine cA (h := fun K hK => ?_) (hs := ?_)
            ·go_simp; go_at_call 53; refine (fast_any q 0 (by omega) v6 _ _ R _ (HRR.out.below hb16) ho6).mono ?_; rintro e w7 ⟨rfl, hr7, hu7⟩; try go_simp
             refine hK _ _ ?_
             clear hK K
             try simp only [Act.put, List.setIfInBounds_toArray, List.set_cons_zero, List.set_cons_succ, Array.replicate]
             refine wpAny_done (by kernel_rfl) ?_ _
             go_wp2_with fail
             exact ⟨⟨_, (HU.out.trans (Upd.of_below hb16)).trans hu7, hr7, .inr (.inl ⟨rfl, rfl⟩)⟩, by simp [intOf]⟩
            exact AllReady.nil
           exact AllReady.nil
          exact AllReady.nil
         exact AllReady.nil
        refine cA (h := fun K hK => ?_) (hs := ?_)
        ·go_simp
         refine hK _ _ ?_
         clear hK K
         try simp only [Act.put, List.setIfInBounds_toArray, List.set_cons_zero, List.set_cons_succ, Array.replicate]
         refine tA (i := 17) (v := ?_) (y := (Or.inl ⟨by rfl, ?_⟩)) (h := ?_)
         rotate_left
         ·intro w; go_simp; try with_reducible rfl
         try simp only [Act.put, List.setIfInBounds_toArray, List.set_cons_zero, List.set_cons_succ, Array.replicate]
         refine rA [9] (h := ?_)
         refine cA (h := fun K hK => ?_) (hs := ?_)
         ·refine step_app_own Try.underlying27 info_byte (by with_unfolding_all rfl) (.tmp 70) (.tmp 76) rfl rfl (Row.new _ _ []) rfl ((OF0.out.sh).below (balloc (Below.refl _ _).drew _)) (by omega) ?_; intro v4 w4 ho4 hb4; have hb14 : Below wr.heap.size wr w4 := bstep (balloc (Below.refl _ _).drew _) hb4; have hyc := bkeep hb14 hh2
          refine hK _ _ ?_
          clear hK K
          try simp only [Act.put, List.setIfInBounds_toArray, List.set_cons_zero, List.set_cons_succ, Array.replicate]
          refine rA [18] (h := ?_)
          refine cA (h := fun K hK => ?_) (hs := ?_)
          ·refine step_app_more Try.underlying27 info_byte (by with_unfolding_all rfl) (.tmp 77) (.tmp 85) rfl rfl ho4 rfl (((OM0.out.sh).take (R.m0.length) (by omega)).below hb14) (by have h0 := hfs; rw [List.length_take]; omega) (by exact hb14.size) ?_; intro v5 w5 ho5 hb5; have hb15 : Below wr.heap.size wr w5 := hb14.trans hb5
           refine hK _ _ ?_
           clear hK K
           try simp only [Act.put, List.setIfInBounds_toArray, List.set_cons_zero, List.set_cons_succ, Array.replicate]
           refine rA [20] (h := ?_)
           refine cA (h := fun K hK => ?_) (hs := ?_)
           ·refine step_app_more Try.underlying27 info_byte (by with_unfolding_all rfl) (.tmp 86) (.tmp 87) rfl rfl ho5 rfl (HSB.out _ (HU.out.trans (Upd.of_below hb15))) (by have h0 := hfs; rw [List.length_append, List.length_take]; omega) (by exact hb15.size) ?_; intro v6 w6 ho6 hb6; have hb16 : Below wr.heap.size wr w6 := hb15.trans hb6
            refine hK _ _ ?_
            clear hK K
            try simp only [Act.put, List.setIfInBounds_toArray, List.set_cons_zero, List.set_cons_succ, Array.replicate]
            refine rA [21] (h := ?_)
            refine cA (h := fun K hK => ?_) (hs := ?_)
            ·go_simp; go_at_call 53; refine (fast_any q 0 (by omega) v6 _ _ R _ (HRR.out.below hb16) ho6).mono ?_; rintro e w7 ⟨rfl, hr7, hu7⟩; try go_simp
             refine hK _ _ ?_
             clear hK K
             try simp only [Act.put, List.setIfInBounds_toArray, List.set_cons_zero, List.set_cons_succ, Array.replicate]
             refine wpAny_done (by kernel_rfl) ?_ _
             go_wp2_with fail
             exact ⟨⟨_, (HU.out.trans (Upd.of_below hb16)).trans hu7, hr7, .inr (.inl ⟨rfl, rfl⟩)⟩, by simp [intOf]⟩
            exact AllReady.nil
           exact AllReady.nil
          exact AllReady.nil
         exact AllReady.nil
        exact AllReady.nil
       refine cA (h := fun K hK => ?_) (hs := ?_)
       ·go_simp
        refine hK _ _ ?_
        clear hK K
        try simp only [Act.put, List.setIfInBounds_toArray, List.set_cons_zero, List.set_cons_succ, Array.replicate]
        refine tA (i := 17) (v := ?_) (y := (Or.inl ⟨by rfl, ?_⟩)) (h := ?_)
        rotate_left
        ·intro w; go_simp; try with_reducible rfl
        try simp only [Act.put, List.setIfInBounds_toArray, List.set_cons_zero, List.set_cons_succ, Array.replicate]
        refine rA [2] (h := ?_)
        refine cA (h := fun K hK => ?_) (hs := ?_)
        ·go_simp
         refine hK _ _ ?_
         clear hK K
         try simp only [Act.put, List.setIfInBounds_toArray, List.set_cons_zero, List.set_cons_succ, Array.replicate]
         refine rA [9] (h := ?_)
         refine cA (h := fun K hK => ?_) (hs := ?_)
         ·refine step_app_own Try.underlying27 info_byte (by with_unfolding_all rfl) (.tmp 70) (.tmp 76) rfl rfl (Row.new _ _ []) rfl ((OF0.out.sh).below (balloc (Below.refl _ _).drew _)) (by omega) ?_; intro v4 w4 ho4 hb4; have hb14 : Below wr.heap.size wr w4 := bstep (balloc (Below.refl _ _).drew _) hb4; have hyc := bkeep hb14 hh2
          refine hK _ _ ?_
          clear hK K
          try simp only [Act.put, List.setIfInBounds_toArray, List.set_cons_zero, List.set_cons_succ, Array.replicate]
          refine rA [18] (h := ?_)
          refine cA (h := fun K hK => ?_) (hs := ?_)
          ·refine step_app_more Try.underlying27 info_byte (by with_unfolding_all rfl) (.tmp 77) (.tmp 85) rfl rfl ho4 rfl (((OM0.out.sh).take (R.m0.length) (by omega)).below hb14) (by have h0 := hfs; rw [List.length_take]; omega) (by exact hb14.size) ?_; intro v5 w5 ho5 hb5; have hb15 : Below wr.heap.size wr w5 := hb14.trans hb5
           refine hK _ _ ?_
           clear hK K
           try simp only [Act.put, List.setIfInBounds_toArray, List.set_cons_zero, List.set_cons_succ, Array.replicate]
           refine rA [20] (h := ?_)
           refine cA (h := fun K hK => ?_) (hs := ?_)
           ·refine step_app_more Try.underlying27 info_byte (by with_unfolding_all rfl) (.tmp 86) (.tmp 87) rfl rfl ho5 rfl (HSB.out _ (HU.out.trans (Upd.of_below hb15))) (by have h0 := hfs; rw [List.length_append, List.length_take]; omega) (by exact hb15.size) ?_; intro v6 w6 ho6 hb6; have hb16 : Below wr.heap.size wr w6 := hb15.trans hb6
            refine hK _ _ ?_
            clear hK K
            try simp only [Act.put, List.setIfInBounds_toArray, List.set_cons_zero, List.set_cons_succ, Array.replicate]
            refine rA [21] (h := ?_)
            refine cA (h := fun K hK => ?_) (hs := ?_)
            ·go_simp; go_at_call 53; refine (fast_any q 0 (by omega) v6 _ _ R _ (HRR.out.below hb16) ho6).mono ?_; rintro e w7 ⟨rfl, hr7, hu7⟩; try go_simp
             refine hK _ _ ?_
             clear hK K
             try simp only [Act.put, List.setIfInBounds_toArray, List.set_cons_zero, List.set_cons_succ, Array.replicate]
             refine wpAny_done (by kernel_rfl) ?_ _
             go_wp2_with fail
             exact ⟨⟨_, (HU.out.trans (Upd.of_below hb16)).trans hu7, hr7, .inr (.inl ⟨rfl, rfl⟩)⟩, by simp [intOf]⟩
            exact AllReady.nil
           exact AllReady.nil
          exact AllReady.nil
         exact AllReady.nil
        exact AllReady.nil
       exact AllReady.nil
      refine cA (h := fun K hK => ?_) (hs := ?_)
      ·go_simp
       refine hK _ _ ?_
       clear hK K
       try simp only [Act.put, List.setIfInBounds_toArray, List.set_cons_zero, List.set_cons_succ, Array.replicate]
       refine tA (i := 17) (v := ?_) (y := (Or.inl ⟨by rfl, ?_⟩)) (h := ?_)
       rotate_left
       ·intro w; go_simp; try with_reducible rfl
       try simp only [Act.put, List.setIfInBounds_toArray, List.set_cons_zero, List.set_cons_succ, Array.replicate]
       refine rA [2, 8] (h := ?_)
       refine cA (h := fun K hK => ?_) (hs := ?_)
       ·go_simp
        refine hK _ _ ?_
        clear hK K
        try simp only [Act.put, List.setIfInBounds_toArray, List.set_cons_zero, List.set_cons_succ, Array.replicate]
        refine rA [8] (h := ?_)
        refine cA (h := fun K hK => ?_) (hs := ?_)
        ·go_simp
         refine hK _ _ ?_
         clear hK K
         try simp only [Act.put, List.setIfInBounds_toArray, List.set_cons_zero, List.set_cons_succ, Array.replicate]
         refine rA [9] (h := ?_)
         refine cA (h := fun K hK => ?_) (hs := ?_)
         ·refine step_app_own Try.underlying27 info_byte (by with_unfolding_all rfl) (.tmp 70) (.tmp 76) rfl rfl (Row.new _ _ []) rfl ((OF0.out.sh).below (balloc (Below.refl _ _).drew _)) (by omega) ?_; intro v4 w4 ho4 hb4; have hb14 : Below wr.heap.size wr w4 := bstep (balloc (Below.refl _ _).drew _) hb4; have hyc := bkeep hb14 hh2
          refine hK _ _ ?_
          clear hK K
          try simp only [Act.put, List.setIfInBounds_toArray, List.set_cons_zero, List.set_cons_succ, Array.replicate]
          refine rA [18] (h := ?_)
          refine cA (h := fun K hK => ?_) (hs := ?_)
          ·refine step_app_more Try.underlying27 info_byte (by with_unfolding_all rfl) (.tmp 77) (.tmp 85) rfl rfl ho4 rfl (((OM0.out.sh).take (R.m0.length) (by omega)).below hb14) (by have h0 := hfs; rw [List.length_take]; omega) (by exact hb14.size) ?_; intro v5 w5 ho5 hb5; have hb15 : Below wr.heap.size wr w5 := hb14.trans hb5
           refine hK _ _ ?_
           clear hK K
           try simp only [Act.put, List.setIfInBounds_toArray, List.set_cons_zero, List.set_cons_succ, Array.replicate]
           refine rA [20] (h := ?_)
           refine cA (h := fun K hK => ?_) (hs := ?_)
           ·refine step_app_more Try.underlying27 info_byte (by with_unfolding_all rfl) (.tmp 86) (.tmp 87) rfl rfl ho5 rfl (HSB.out _ (HU.out.trans (Upd.of_below hb15))) (by have h0 := hfs; rw [List.length_append, List.length_take]; omega) (by exact hb15.size) ?_; intro v6 w6 ho6 hb6; have hb16 : Below wr.heap.size wr w6 := hb15.trans hb6
            refine hK _ _ ?_
            clear hK K
            try simp only [Act.put, List.setIfInBounds_toArray, List.set_cons_zero, List.set_cons_succ, Array.replicate]
            refine rA [21] (h := ?_)
            refine cA (h := fun K hK => ?_) (hs := ?_)
            ·go_simp; go_at_call 53; refine (fast_any q 0 (by omega) v6 _ _ R _ (HRR.out.below hb16) ho6).mono ?_; rintro e w7 ⟨rfl, hr7, hu7⟩; try go_simp
             refine hK _ _ ?_
             clear hK K
             try simp only [Act.put, List.setIfInBounds_toArray, List.set_cons_zero, List.set_cons_succ, Array.replicate]
             refine wpAny_done (by kernel_rfl) ?_ _
             go_wp2_with fail
             exact ⟨⟨_, (HU.out.trans (Upd.of_below hb16)).trans hu7, hr7, .inr (.inl ⟨rfl, rfl⟩)⟩, by simp [intOf]⟩
            exact AllReady.nil
           exact AllReady.nil
          exact AllReady.nil
         exact AllReady.nil
        exact AllReady.nil
       refine cA (h := fun K hK => ?_) (hs := ?_)
       ·go_simp
        refine hK _ _ ?_
        clear hK K
        try simp only [Act.put, List.setIfInBounds_toArray, List.set_cons_zero, List.set_cons_succ, Array.replicate]
        refine rA [2] (h := ?_)
        refine cA (h := fun K hK => ?_) (hs := ?_)
        ·go_simp
         refine hK _ _ ?_
         clear hK K
         try simp only [Act.put, List.setIfInBounds_toArray, List.set_cons_zero, List.set_cons_succ, Array.replicate]
         refine rA [9] (h := ?_)
         refine cA (h := fun K hK => ?_) (hs := ?_)
         ·refine step_app_own Try.underlying27 info_byte (by with_unfolding_all rfl) (.tmp 70) (.tmp 76) rfl rfl (Row.new _ _ []) rfl ((OF0.out.sh).below (balloc (Below.refl _ _).drew _)) (by omega) ?_; intro v4 w4 ho4 hb4; have hb14 : Below wr.heap.size wr w4 := bstep (balloc (Below.refl _ _).drew _) hb4; have hyc := bkeep hb14 hh2
          refine hK _ _ ?_
          clear hK K
          try simp only [Act.put, List.setIfInBounds_toArray, List.set_cons_zero, List.set_cons_succ, Array.replicate]
          refine rA [18] (h := ?_)
          refine cA (h := fun K hK => ?_) (hs := ?_)
          ·refine step_app_more Try.underlying27 info_byte (by with_unfolding_all rfl) (.tmp 77) (.tmp 85) rfl rfl ho4 rfl (((OM0.out.sh).take (R.m0.length) (by omega)).below hb14) (by have h0 := hfs; rw [List.length_take]; omega) (by exact hb14.size) ?_; intro v5 w5 ho5 hb5; have hb15 : Below wr.heap.size wr w5 := hb14.trans hb5
           refine hK _ _ ?_
           clear hK K
           try simp only [Act.put, List.setIfInBounds_toArray, List.set_cons_zero, List.set_cons_succ, Array.replicate]
           refine rA [20] (h := ?_)
           refine cA (h := fun K hK => ?_) (hs := ?_)
           ·refine step_app_more Try.underlying27 info_byte (by with_unfolding_all rfl) (.tmp 86) (.tmp 87) rfl rfl ho5 rfl (HSB.out _ (HU.out.trans (Upd.of_below hb15))) (by have h0 := hfs; rw [List.length_append, List.length_take]; omega) (by exact hb15.size) ?_; intro v6 w6 ho6 hb6; have hb16 : Below wr.heap.size wr w6 := hb15.trans hb6
            refine hK _ _ ?_
            clear hK K
            try simp only [Act.put, List.setIfInBounds_toArray, List.set_cons_zero, List.set_cons_succ, Array.replicate]
            refine rA [21] (h := ?_)
            refine cA (h := fun K hK => ?_) (hs := ?_)
            ·go_simp; go_at_call 53; refine (fast_any q 0 (by omega) v6 _ _ R _ (HRR.out.below hb16) ho6).mono ?_; rintro e w7 ⟨rfl, hr7, hu7⟩; try go_simp
             refine hK _ _ ?_
             clear hK K
             try simp only [Act.put, List.setIfInBounds_toArray, List.set_cons_zero, List.set_cons_succ, Array.replicate]
             refine wpAny_done (by kernel_rfl) ?_ _
             go_wp2_with fail
             exact ⟨⟨_, (HU.out.trans (Upd.of_below hb16)).trans hu7, hr7, .inr (.inl ⟨rfl, rfl⟩)⟩, by simp [intOf]⟩
            exact AllReady.nil
           exact AllReady.nil
          exact AllReady.nil
         exact AllReady.nil
        exact AllReady.nil
       exact AllReady.nil
      exact AllReady.nil
     ·have hc : R.c0 (kq : Int) tail = R.fast 0 (R.f0 ++ R.m0.take (kq) ++ tail) := by unfold RD.c0; rw [if_neg (by rw [hi]; simp), if_pos hml]; congr 4 <;> omega
      rw [hc]
      clear hc hi
      have hmlI : 0 < (R.m0.length : Int) := by omega
      obtain ⟨qk1, qk2⟩ := dcap OM0.out
      have hfs : R.f0.length ≤ 100000000000 ∧ R.m0.length ≤ 100000000000 := by have h0 := hszR; unfold RD.sz at h0; omega
      have hcp : (kq : Int) ≤ (km0 : Int) := by omega
      have hya := bkeep (balloc (Below.refl wr.heap.size wr) (.cells #[] 5)) hh0
      have hyb := bkeep (balloc (Below.refl wr.heap.size wr) (.cells #[] 5)) hh2
      go_upto_region 14 with fail
      refine wp_region_any (by kernel_rfl) ?_
      try (change wpAny _ _ _ _ _ _ _ (World.drew _))
      refine tA (i := 0) (v := ?_) (y := (Or.inl ⟨by rfl, ?_⟩)) (h := ?_)
      rotate_left
      ·intro w; go_simp; try with_reducible rfl
      try simp only [Act.put, List.setIfInBounds_toArray, List.set_cons_zero, List.set_cons_succ, Array.replicate]
      refine tA (i := 1) (v := ?_) (y := (Or.inl ⟨by rfl, ?_⟩)) (h := ?_)
      rotate_left
      ·intro w; go_simp; try with_reducible rfl
      try simp only [Act.put, List.setIfInBounds_toArray, List.set_cons_zero, List.set_cons_succ, Array.replicate]
      refine tA (i := 3) (v := ?_) (y := (Or.inl ⟨by rfl, ?_⟩)) (h := ?_)
      rotate_left
      ·intro w; go_simp; try with_reducible rfl
      try simp only [Act.put, List.setIfInBounds_toArray, List.set_cons_zero, List.set_cons_succ, Array.replicate]
      refine tA (i := 4) (v := ?_) (y := (Or.inl ⟨by rfl, ?_⟩)) (h := ?_)
      rotate_left
      ·intro w; go_simp; try with_reducible rfl
      try simp only [Act.put, List.setIfInBounds_toArray, List.set_cons_zero, List.set_cons_succ, Array.replicate]
      refine tA (i := 5) (v := ?_) (y := (Or.inl ⟨by rfl, ?_⟩)) (h := ?_)
      rotate_left
      ·intro w; go_simp; try with_reducible rfl
      try simp only [Act.put, List.setIfInBounds_toArray, List.set_cons_zero, List.set_cons_succ, Array.replicate]
      refine tA (i := 6) (v := ?_) (y := (Or.inl ⟨by rfl, ?_⟩)) (h := ?_)
      rotate_left
      ·intro w; go_simp; try with_reducible rfl
      try simp only [Act.put, List.setIfInBounds_toArray, List.set_cons_zero, List.set_cons_succ, Array.replicate]
      refine tA (i := 7) (v := ?_) (y := (Or.inl ⟨by rfl, ?_⟩)) (h := ?_)
      rotate_left
      ·intro w; go_simp; try with_reducible rfl
      try simp only [Act.put, List.setIfInBounds_toArray, List.set_cons_zero, List.set_cons_succ, Array.replicate]
      refine tA (i := 10) (v := ?_) (y := (Or.inl ⟨by rfl, ?_⟩)) (h := ?_)
      rotate_left
      ·intro w; go_simp; try with_reducible rfl
      try simp only [Act.put, List.setIfInBounds_toArray, List.set_cons_zero, List.set_cons_succ, Array.replicate]
      refine tA (i := 11) (v := ?_) (y := (Or.inl ⟨by rfl, ?_⟩)) (h := ?_)
      rotate_left
      ·intro w; go_simp; try with_reducible rfl
      try simp only [Act.put, List.setIfInBounds_toArray, List.set_cons_zero, List.set_cons_succ, Array.replicate]
      refine tA (i := 12) (v := ?_) (y := (Or.inl ⟨by rfl, ?_⟩)) (h := ?_)
      rotate_left
      ·intro w; go_simp; try with_reducible rfl
      try simp only [Act.put, List.setIfInBounds_toArray, List.set_cons_zero, List.set_cons_succ, Array.replicate]
      refine tA (i := 13) (v := ?_) (y := (Or.inl ⟨by rfl, ?_⟩)) (h := ?_)
      rotate_left
      ·intro w; go_simp; try with_reducible rfl
      try simp only [Act.put, List.setIfInBounds_toArray, List.set_cons_zero, List.set_cons_succ, Array.replicate]
      refine tA (i := 14) (v := ?_) (y := (Or.inl ⟨by rfl, ?_⟩)) (h := ?_)
      rotate_left
      ·intro w; go_simp; try with_reducible rfl
      try simp only [Act.put, List.setIfInBounds_toArray, List.set_cons_zero, List.set_cons_succ, Array.replicate]
      refine tA (i := 16) (v := ?_) (y := (Or.inl ⟨by rfl, ?_⟩)) (h := ?_)
      rotate_left
      ·intro w; go_simp; try with_reducible rfl
      try simp only [Act.put, List.setIfInBounds_toArray, List.set_cons_zero, List.set_cons_succ, Array.replicate]
      refine tA (i := 19) (v := ?_) (y := (Or.inl ⟨by rfl, ?_⟩)) (h := ?_)
      rotate_left
      ·intro w; go_simp; try with_reducible rfl
      try simp only [Act.put, List.setIfInBounds_toArray, List.set_cons_zero, List.set_cons_succ, Array.replicate]
      refine rA [2, 8, 15] (h := ?_)
      refine cA (h := fun K hK => ?_) (hs := ?_)
      ·go_simp
       refine hK _ _ ?_
       clear hK K
       try simp only [Act.put, List.setIfInBounds_toArray, List.set_cons_zero, List.set_cons_succ, Array.replicate]
       refine rA [8, 15] (h := ?_)
       refine cA (h := fun K hK => ?_) (hs := ?_)
       ·go_simp
        refine hK _ _ ?_
        clear hK K
        try simp only [Act.put, List.setIfInBounds_toArray, List.set_cons_zero, List.set_cons_succ, Array.replicate]
        refine rA [9, 15] (h := ?_)
        refine cA (h := fun K hK => ?_) (hs := ?_)
        ·refine step_app_own Try.underlying27 info_byte (by with_unfolding_all rfl) (.tmp 70) (.tmp 76) rfl rfl (Row.new _ _ []) rfl ((OF0.out.sh).below (balloc (Below.refl _ _).drew _)) (by omega) ?_; intro v4 w4 ho4 hb4; have hb14 : Below wr.heap.size wr w4 := bstep (balloc (Below.refl _ _).drew _) hb4; have hyc := bkeep hb14 hh2
         refine hK _ _ ?_
         clear hK K
         try simp only [Act.put, List.setIfInBounds_toArray, List.set_cons_zero, List.set_cons_succ, Array.replicate]
         refine rA [15] (h := ?_)
         refine cA (h := fun K hK => ?_) (hs := ?_)
         ·go_simp
          refine hK _ _ ?_
          clear hK K
          try simp only [Act.put, List.setIfInBounds_toArray, List.set_cons_zero, List.set_cons_succ, Array.replicate]
          refine tA (i := 17) (v := ?_) (y := (Or.inl ⟨by rfl, ?_⟩)) (h := ?_)
          rotate_left
          ·intro w; go_simp; try with_reducible rfl
          try simp only [Act.put, List.setIfInBounds_toArray, List.set_cons_zero, List.set_cons_succ, Array.replicate]
          refine rA [18] (h := ?_)
          refine cA (h := fun K hK => ?_) (hs := ?_)
          ·refine step_app_more Try.underlying27 info_byte (by with_unfolding_all rfl) (.tmp 77) (.tmp 85) rfl rfl ho4 rfl (((OM0.out.sh).take (kq) (by omega)).below hb14) (by have h0 := hfs; rw [List.length_take]; omega) (by exact hb14.size) ?_; intro v5 w5 ho5 hb5; have hb15 : Below wr.heap.size wr w5 := hb14.trans hb5
           refine hK _ _ ?_
           clear hK K
           try simp only [Act.put, List.setIfInBounds_toArray, List.set_cons_zero, List.set_cons_succ, Array.replicate]
           refine rA [20] (h := ?_)
           refine cA (h := fun K hK => ?_) (hs := ?_)
           ·refine step_app_more Try.underlying27 info_byte (by with_unfolding_all rfl) (.tmp 86) (.tmp 87) rfl rfl ho5 rfl (HSB.out _ (HU.out.trans (Upd.of_below hb15))) (by have h0 := hfs; rw [List.length_append, List.length_take]; omega) (by exact hb15.size) ?_; intro v6 w6 ho6 hb6; have hb16 : Below wr.heap.size wr w6 := hb15.trans hb6
            refine hK _ _ ?_
            clear hK K
            try simp only [Act.put, List.setIfInBounds_toArray, List.set_cons_zero, List.set_cons_succ, Array.replicate]
            refine rA [21] (h := ?_)
            refine cA (h := fun K hK => ?_) (hs := ?_)
            ·go_simp; go_at_call 53; refine (fast_any q 0 (by omega) v6 _ _ R _ (HRR.out.below hb16) ho6).mono ?_; rintro e w7 ⟨rfl, hr7, hu7⟩; try go_simp
             refine hK _ _ ?_
             clear hK K
             try simp only [Act.put, List.setIfInBounds_toArray, List.set_cons_zero, List.set_cons_succ, Array.replicate]
             refine wpAny_done (by kernel_rfl) ?_ _
             go_wp2_with fail
             exact ⟨⟨_, (HU.out.trans (Upd.of_below hb16)).trans hu7, hr7, .inr (.inl ⟨rfl, rfl⟩)⟩, by simp [intOf]⟩
            exact AllReady.nil
           exact AllReady.nil
          exact AllReady.nil
         exact AllReady.nil
        refine cA (h := fun K hK => ?_) (hs := ?_)
        ·go_simp
         refine hK _ _ ?_
         clear hK K
         try simp only [Act.put, List.setIfInBounds_toArray, List.set_cons_zero, List.set_cons_succ, Array.replicate]
         refine tA (i := 17) (v := ?_) (y := (Or.inl ⟨by rfl, ?_⟩)) (h := ?_)
         rotate_left
         ·intro w; go_simp; try with_reducible rfl
         try simp only [Act.put, List.setIfInBounds_toArray, List.set_cons_zero, List.set_cons_succ, Array.replicate]
         refine rA [9] (h := ?_)
         refine cA (h := fun K hK => ?_) (hs := ?_)
         ·refine step_app_own Try.underlying27 info_byte (by with_unfolding_all rfl) (.tmp 70) (.tmp 76) rfl rfl (Row.new _ _ []) rfl ((OF0.out.sh).below (balloc (Below.refl _ _).drew _)) (by omega) ?_; intro v4 w4 ho4 hb4; have hb14 : Below wr.heap.size wr w4 := bstep (balloc (Below.refl _ _).drew _) hb4; have hyc := bkeep hb14 hh2
          refine hK _ _ ?_
          clear hK K
          try simp only [Act.put, List.setIfInBounds_toArray, List.set_cons_zero, List.set_cons_succ, Array.replicate]
          refine rA [18] (h := ?_)
          refine cA (h := fun K hK => ?_) (hs := ?_)
          ·refine step_app_more Try.underlying27 info_byte (by with_unfolding_all rfl) (.tmp 77) (.tmp 85) rfl rfl ho4 rfl (((OM0.out.sh).take (kq) (by omega)).below hb14) (by have h0 := hfs; rw [List.length_take]; omega) (by exact hb14.size) ?_; intro v5 w5 ho5 hb5; have hb15 : Below wr.heap.size wr w5 := hb14.trans hb5
           refine hK _ _ ?_
           clear hK K
           try simp only [Act.put, List.setIfInBounds_toArray, List.set_cons_zero, List.set_cons_succ, Array.replicate]
           refine rA [20] (h := ?_)
           refine cA (h := fun K hK => ?_) (hs := ?_)
           ·refine step_app_more Try.underlying27 info_byte (by with_unfolding_all rfl) (.tmp 86) (.tmp 87) rfl rfl ho5 rfl (HSB.out _ (HU.out.trans (Upd.of_below hb15))) (by have h0 := hfs; rw [List.length_append, List.length_take]; omega) (by exact hb15.size) ?_; intro v6 w6 ho6 hb6; have hb16 : Below wr.heap.size wr w6 := hb15.trans hb6
            refine hK _ _ ?_
            clear hK K
            try simp only [Act.put, List.setIfInBounds_toArray, List.set_cons_zero, List.set_cons_succ, Array.replicate]
            refine rA [21] (h := ?_)
            refine cA (h := fun K hK => ?_) (hs := ?_)
            ·go_simp; go_at_call 53; refine (fast_any q 0 (by omega) v6 _ _ R _ (HRR.out.below hb16) ho6).mono ?_; rintro e w7 ⟨rfl, hr7, hu7⟩; try go_simp
             refine hK _ _ ?_
             clear hK K
             try simp only [Act.put, List.setIfInBounds_toArray, List.set_cons_zero, List.set_cons_succ, Array.replicate]
             refine wpAny_done (by kernel_rfl) ?_ _
             go_wp2_with fail
             exact ⟨⟨_, (HU.out.trans (Upd.of_below hb16)).trans hu7, hr7, .inr (.inl ⟨rfl, rfl⟩)⟩, by simp [intOf]⟩
            exact AllReady.nil
           exact AllReady.nil
          exact AllReady.nil
         exact AllReady.nil
        exact AllReady.nil
       refine cA (h := fun K hK => ?_) (hs := ?_)
       ·go_simp
        refine hK _ _ ?_
        clear hK K
        try simp only [Act.put, List.setIfInBounds_toArray, List.set_cons_zero, List.set_cons_succ, Array.replicate]
        refine tA (i := 17) (v := ?_) (y := (Or.inl ⟨by rfl, ?_⟩)) (h := ?_)
        rotate_left
        ·intro w; go_simp; try with_reducible rfl
        try simp only [Act.put, List.setIfInBounds_toArray, List.set_cons_zero, List.set_cons_succ, Array.replicate]
        refine rA [8] (h := ?_)
        refine cA (h := fun K hK => ?_) (hs := ?_)
        ·go_simp
         refine hK _ _ ?_
         clear hK K
         try simp only [Act.put, List.setIfInBounds_toArray, List.set_cons_zero, List.set_cons_succ, Array.replicate]
         refine rA [9] (h := ?_)
         refine cA (h := fun K hK => ?_) (hs := ?_)
         ·refine step_app_own Try.underlying27 info_byte (by with_unfolding_all rfl) (.tmp 70) (.tmp 76) rfl rfl (Row.new _ _ []) rfl ((OF0.out.sh).below (balloc (Below.refl _ _).drew _)) (by omega) ?_; intro v4 w4 ho4 hb4; have hb14 : Below wr.heap.size wr w4 := bstep (balloc (Below.refl _ _).drew _) hb4; have hyc := bkeep hb14 hh2
          refine hK _ _ ?_
          clear hK K
          try simp only [Act.put, List.setIfInBounds_toArray, List.set_cons_zero, List.set_cons_succ, Array.replicate]
          refine rA [18] (h := ?_)
          refine cA (h := fun K hK => ?_) (hs := ?_)
          ·refine step_app_more Try.underlying27 info_byte (by with_unfolding_all rfl) (.tmp 77) (.tmp 85) rfl rfl ho4 rfl (((OM0.out.sh).take (kq) (by omega)).below hb14) (by have h0 := hfs; rw [List.length_take]; omega) (by exact hb14.size) ?_; intro v5 w5 ho5 hb5; have hb15 : Below wr.heap.size wr w5 := hb14.trans hb5
           refine hK _ _ ?_
           clear hK K
           try simp only [Act.put, List.setIfInBounds_toArray, List.set_cons_zero, List.set_cons_succ, Array.replicate]
           refine rA [20] (h := ?_)
           refine cA (h := fun K hK => ?_) (hs := ?_)
           ·refine step_app_more Try.underlying27 info_byte (by with_unfolding_all rfl) (.tmp 86) (.tmp 87) rfl rfl ho5 rfl (HSB.out _ (HU.out.trans (Upd.of_below hb15))) (by have h0 := hfs; rw [List.length_append, List.length_take]; omega) (by exact hb15.size) ?_; intro v6 w6 ho6 hb6; have hb16 : Below wr.heap.size wr w6 := hb15.trans hb6
            refine hK _ _ ?_
            clear hK K
            try simp only [Act.put, List.setIfInBounds_toArray, List.set_cons_zero, List.set_cons_succ, Array.replicate]
            refine rA [21] (h := ?_)
            refine cA (h := fun K hK => ?_) (hs := ?_)
            ·go_simp; go_at_call 53; refine (fast_any q 0 (by omega) v6 _ _ R _ (HRR.out.below hb16) ho6).mono ?_; rintro e w7 ⟨rfl, hr7, hu7⟩; try go_simp
             refine hK _ _ ?_
             clear hK K
             try simp only [Act.put, List.setIfInBounds_toArray, List.set_cons_zero, List.set_cons_succ, Array.replicate]
             refine wpAny_done (by kernel_rfl) ?_ _
             go_wp2_with fail
             exact ⟨⟨_, (HU.out.trans (Upd.of_below hb16)).trans hu7, hr7, .inr (.inl ⟨rfl, rfl⟩)⟩, by simp [intOf]⟩
            exact AllReady.nil
           exact AllReady.nil
          exact AllReady.nil
         exact AllReady.nil
        exact AllReady.nil
       exact AllReady.nil
      refine cA (h := fun K hK => ?_) (hs := ?_)
      ·go_simp
       refine hK _ _ ?_
       clear hK K
       try simp only [Act.put, List.setIfInBounds_toArray, List.set_cons_zero, List.set_cons_succ, Array.replicate]
       refine rA [2, 15] (h := ?_)
       refine cA (h := fun K hK => ?_) (hs := ?_)
       ·go_simp
        refine hK _ _ ?_
        clear hK K
        try simp only [Act.put, List.setIfInBounds_toArray, List.set_cons_zero, List.set_cons_succ, Array.replicate]
        refine rA [9, 15] (h := ?_)
        refine cA (h := fun K hK => ?_) (hs := ?_)
        ·refine step_app_own Try.underlying27 info_byte (by with_unfolding_all rfl) (.tmp 70) (.tmp 76) rfl rfl (Row.new _ _ []) rfl ((OF0.out.sh).below (balloc (Below.refl _ _).drew _)) (by omega) ?_; intro v4 w4 ho4 hb4; have hb14 : Below wr.heap.size wr w4 := bstep (balloc (Below.refl _ _).drew _) hb4; have hyc := bkeep hb14 hh2
         refine hK _ _ ?_
         clear hK K
         try simp only [Act.put, List.setIfInBounds_toArray, List.set_cons_zero, List.set_cons_succ, Array.replicate]
         refine rA [15] (h := ?_)
         refine cA (h := fun K hK => ?_) (hs := ?_)
         ·go_simp
          refine hK _ _ ?_
          clear hK K
          try simp only [Act.put, List.setIfInBounds_toArray, List.set_cons_zero, List.set_cons_succ, Array.replicate]
          refine tA (i := 17) (v := ?_) (y := (Or.inl ⟨by rfl, ?_⟩)) (h := ?_)
          rotate_left
          ·intro w; go_simp; try with_reducible rfl
          try simp only [Act.put, List.setIfInBounds_toArray, List.set_cons_zero, List.set_cons_succ, Array.replicate]
          refine rA [18] (h := ?_)
          refine cA (h := fun K hK => ?_) (hs := ?_)
          ·refine step_app_more Try.underlying27 info_byte (by with_unfolding_all rfl) (.tmp 77) (.tmp 85) rfl rfl ho4 rfl (((OM0.out.sh).take (kq) (by omega)).below hb14) (by have h0 := hfs; rw [List.length_take]; omega) (by exact hb14.size) ?_; intro v5 w5 ho5 hb5; have hb15 : Below wr.heap.size wr w5 := hb14.trans hb5
           refine hK _ _ ?_
           clear hK K
           try simp only [Act.put, List.setIfInBounds_toArray, List.set_cons_zero, List.set_cons_succ, Array.replicate]
           refine rA [20] (h := ?_)
           refine cA (h := fun K hK => ?_) (hs := ?_)
           ·refine step_app_more Try.underlying27 info_byte (by with_unfolding_all rfl) (.tmp 86) (.tmp 87) rfl rfl ho5 rfl (HSB.out _ (HU.out.trans (Upd.of_below hb15))) (by have h0 := hfs; rw [List.length_append, List.length_take]; omega) (by exact hb15.size) ?_; intro v6 w6 ho6 hb6; have hb16 : Below wr.heap.size wr w6 := hb15.trans hb6
            refine hK _ _ ?_
            clear hK K
            try simp only [Act.put, List.setIfInBounds_toArray, List.set_cons_zero, List.set_cons_succ, Array.replicate]
            refine rA [21] (h := ?_)
            refine cA (h := fun K hK => ?_) (hs := ?_)
            ·go_simp; go_at_call 53; refine (fast_any q 0 (by omega) v6 _ _ R _ (HRR.out.below hb16) ho6).mono ?_; rintro e w7 ⟨rfl, hr7, hu7⟩; try go_simp
             refine hK _ _ ?_
             clear hK K
             try simp only [Act.put, List.setIfInBounds_toArray, List.set_cons_zero, List.set_cons_succ, Array.replicate]
             refine wpAny_done (by kernel_rfl) ?_ _
             go_wp2_with fail
             exact ⟨⟨_, (HU.out.trans (Upd.of_below hb16)).trans hu7, hr7, .inr (.inl ⟨rfl, rfl⟩)⟩, by simp [intOf]⟩
            exact AllReady.nil
           exact AllReady.nil
          exact AllReady.nil
         exact AllReady.nil
        refine cA (h := fun K hK => ?_) (hs := ?_)
        ·go_simp
         refine hK _ _ ?_
         clear hK K
         try simp only [Act.put, List.setIfInBounds_toArray, List.set_cons_zero, List.set_cons_succ, Array.replicate]
         refine tA (i := 17) (v := ?_) (y := (Or.inl ⟨by rfl, ?_⟩)) (h := ?_)
         rotate_left
         ·intro w; go_simp; try with_reducible rfl
         try simp only [Act.put, List.setIfInBounds_toArray, List.set_cons_zero, List.set_cons_succ, Array.replicate]
         refine rA [9] (h := ?_)
         refine cA (h := fun K hK => ?_) (hs := ?_)
         ·refine step_app_own Try.underlying27 info_byte (by with_unfolding_all rfl) (.tmp 70) (.tmp 76) rfl rfl (Row.new _ _ []) rfl ((OF0.out.sh).below (balloc (Below.refl _ _).drew _)) (by omega) ?_; intro v4 w4 ho4 hb4; have hb14 : Below wr.heap.size wr w4 := bstep (balloc (Below.refl _ _).drew _) hb4; have hyc := bkeep hb14 hh2
          refine hK _ _ ?_
          clear hK K
          try simp only [Act.put, List.setIfInBounds_toArray, List.set_cons_zero, List.set_cons_succ, Array.replicate]
          refine rA [18] (h := ?_)
          refine cA (h := fun K hK => ?_) (hs := ?_)
          ·refine step_app_more Try.underlying27 info_byte (by with_unfolding_all rfl) (.tmp 77) (.tmp 85) rfl rfl ho4 rfl (((OM0.out.sh).take (kq) (by omega)).below hb14) (by have h0 := hfs; rw [List.length_take]; omega) (by exact hb14.size) ?_; intro v5 w5 ho5 hb5; have hb15 : Below wr.heap.size wr w5 := hb14.trans hb5
           refine hK _ _ ?_
           clear hK K
           try simp only [Act.put, List.setIfInBounds_toArray, List.set_cons_zero, List.set_cons_succ, Array.replicate]
           refine rA [20] (h := ?_)
           refine cA (h := fun K hK => ?_) (hs := ?_)
           ·refine step_app_more Try.underlying27 info_byte (by with_unfolding_all rfl) (.tmp 86) (.tmp 87) rfl rfl ho5 rfl (HSB.out _ (HU.out.trans (Upd.of_below hb15))) (by have h0 := hfs; rw [List.length_append, List.length_take]; omega) (by exact hb15.size) ?_; intro v6 w6 ho6 hb6; have hb16 : Below wr.heap.size wr w6 := hb15.trans hb6
            refine hK _ _ ?_
            clear hK K
            try simp only [Act.put, List.setIfInBounds_toArray, List.set_cons_zero, List.set_cons_succ, Array.replicate]
            refine rA [21] (h := ?_)
            refine cA (h := fun K hK => ?_) (hs := ?_)
            ·go_simp; go_at_call 53; refine (fast_any q 0 (by omega) v6 _ _ R _ (HRR.out.below hb16) ho6).mono ?_; rintro e w7 ⟨rfl, hr7, hu7⟩; try go_simp
             refine hK _ _ ?_
             clear hK K
             try simp only [Act.put, List.setIfInBounds_toArray, List.set_cons_zero, List.set_cons_succ, Array.replicate]
             refine wpAny_done (by kernel_rfl) ?_ _
             go_wp2_with fail
             exact ⟨⟨_, (HU.out.trans (Upd.of_below hb16)).trans hu7, hr7, .inr (.inl ⟨rfl, rfl⟩)⟩, by simp [intOf]⟩
            exact AllReady.nil
           exact AllReady.nil
          exact AllReady.nil
         exact AllReady.nil
        exact AllReady.nil
       refine cA (h := fun K hK => ?_) (hs := ?_)
       ·go_simp
        refine hK _ _ ?_
        clear hK K
        try simp only [Act.put, List.setIfInBounds_toArray, List.set_cons_zero, List.set_cons_succ, Array.replicate]
        refine tA (i := 17) (v := ?_) (y := (Or.inl ⟨by rfl, ?_⟩)) (h := ?_)
        rotate_left
        ·intro w; go_simp; try with_reducible rfl
        try simp only [Act.put, List.setIfInBounds_toArray, List.set_cons_zero, List.set_cons_succ, Array.replicate]
        refine rA [2] (h := ?_)
        refine cA (h := fun K hK => ?_) (hs := ?_)
        ·go_simp
         refine hK _ _ ?_
         clear hK K
         try simp only [Act.put, List.setIfInBounds_toArray, List.set_cons_zero, List.set_cons_succ, Array.replicate]
         refine rA [9] (h := ?_)
         refine cA (h := fun K hK => ?_) (hs := ?_)
         ·refine step_app_own Try.underlying27 info_byte (by with_unfolding_all rfl) (.tmp 70) (.tmp 76) rfl rfl (Row.new _ _ []) rfl ((OF0.out.sh).below (balloc (Below.refl _ _).drew _)) (by omega) ?_; intro v4 w4 ho4 hb4; have hb14 : Below wr.heap.size wr w4 := bstep (balloc (Below.refl _ _).drew _) hb4; have hyc := bkeep hb14 hh2
          refine hK _ _ ?_
          clear hK K
          try simp only [Act.put, List.setIfInBounds_toArray, List.set_cons_zero, List.set_cons_succ, Array.replicate]
          refine rA [18] (h := ?_)
          refine cA (h := fun K hK => ?_) (hs := ?_)
          ·refine step_app_more Try.underlying27 info_byte (by with_unfolding_all rfl) (.tmp 77) (.tmp 85) rfl rfl ho4 rfl (((OM0.out.sh).take (kq) (by omega)).below hb14) (by have h0 := hfs; rw [List.length_take]; omega) (by exact hb14.size) ?_; intro v5 w5 ho5 hb5; have hb15 : Below wr.heap.size wr w5 := hb14.trans hb5
           refine hK _ _ ?_
           clear hK K
           try simp only [Act.put, List.setIfInBounds_toArray, List.set_cons_zero, List.set_cons_succ, Array.replicate]
           refine rA [20] (h := ?_)
           refine cA (h := fun K hK => ?_) (hs := ?_)
           ·refine step_app_more Try.underlying27 info_byte (by with_unfolding_all rfl) (.tmp 86) (.tmp 87) rfl rfl ho5 rfl (HSB.out _ (HU.out.trans (Upd.of_below hb15))) (by have h0 := hfs; rw [List.length_append, List.length_take]; omega) (by exact hb15.size) ?_; intro v6 w6 ho6 hb6; have hb16 : Below wr.heap.size wr w6 := hb15.trans hb6
            refine hK _ _ ?_
            clear hK K
            try simp only [Act.put, List.setIfInBounds_toArray, List.set_cons_zero, List.set_cons_succ, Array.replicate]
            refine rA [21] (h := ?_)
            refine cA (h := fun K hK => ?_) (hs := ?_)
            ·go_simp; go_at_call 53; refine (fast_any q 0 (by omega) v6 _ _ R _ (HRR.out.below hb16) ho6).mono ?_; rintro e w7 ⟨rfl, hr7, hu7⟩; try go_simp
             refine hK _ _ ?_
             clear hK K
             try simp only [Act.put, List.setIfInBounds_toArray, List.set_cons_zero, List.set_cons_succ, Array.replicate]
             refine wpAny_done (by kernel_rfl) ?_ _
             go_wp2_with fail
             exact ⟨⟨_, (HU.out.trans (Upd.of_below hb16)).trans hu7, hr7, .inr (.inl ⟨rfl, rfl⟩)⟩, by simp [intOf]⟩
            exact AllReady.nil
           exact AllReady.nil
          exact AllReady.nil
         exact AllReady.nil
        exact AllReady.nil
       exact AllReady.nil
      refine cA (h := fun K hK => ?_) (hs := ?_)
      ·go_simp
       refine hK _ _ ?_
       clear hK K
       try simp only [Act.put, List.setIfInBounds_toArray, List.set_cons_zero, List.set_cons_succ, Array.replicate]
       refine tA (i := 17) (v := ?_) (y := (Or.inl ⟨by rfl, ?_⟩)) (h := ?_)
       rotate_left
       ·intro w; go_simp; try with_reducible rfl
       try simp only [Act.put, List.setIfInBounds_toArray, List.set_cons_zero, List.set_cons_succ, Array.replicate]
       refine rA [2, 8] (h := ?_)
       refine cA (h := fun K hK => ?_) (hs := ?_)
       ·go_simp
        refine hK _ _ ?_
        clear hK K
        try simp only [Act.put, List.setIfInBounds_toArray, List.set_cons_zero, List.set_cons_succ, Array.replicate]
        refine rA [8] (h := ?_)
        refine cA (h := fun K hK => ?_) (hs := ?_)
        ·go_simp
         refine hK _ _ ?_
         clear hK K
         try simp only [Act.put, List.setIfInBounds_toArray, List.set_cons_zero, List.set_cons_succ, Array.replicate]
         refine rA [9] (h := ?_)
         refine cA (h := fun K hK => ?_) (hs := ?_)
         ·refine step_app_own Try.underlying27 info_byte (by with_unfolding_all rfl) (.tmp 70) (.tmp 76) rfl rfl (Row.new _ _ []) rfl ((OF0.out.sh).below (balloc (Below.refl _ _).drew _)) (by omega) ?_; intro v4 w4 ho4 hb4; have hb14 : Below wr.heap.size wr w4 := bstep (balloc (Below.refl _ _).drew _) hb4; have hyc := bkeep hb14 hh2
          refine hK _ _ ?_
          clear hK K
          try simp only [Act.put, List.setIfInBounds_toArray, List.set_cons_zero, List.set_cons_succ, Array.replicate]
          refine rA [18] (h := ?_)
          refine cA (h := fun K hK => ?_) (hs := ?_)
          ·refine step_app_more Try.underlying27 info_byte (by with_unfolding_all rfl) (.tmp 77) (.tmp 85) rfl rfl ho4 rfl (((OM0.out.sh).take (kq) (by omega)).below hb14) (by have h0 := hfs; rw [List.length_take]; omega) (by exact hb14.size) ?_; intro v5 w5 ho5 hb5; have hb15 : Below wr.heap.size wr w5 := hb14.trans hb5
           refine hK _ _ ?_
           clear hK K
           try simp only [Act.put, List.setIfInBounds_toArray, List.set_cons_zero, List.set_cons_succ, Array.replicate]
           refine rA [20] (h := ?_)
           refine cA (h := fun K hK => ?_) (hs := ?_)
           ·refine step_app_more Try.underlying27 info_byte (by with_unfolding_all rfl) (.tmp 86) (.tmp 87) rfl rfl ho5 rfl (HSB.out _ (HU.out.trans (Upd.of_below hb15))) (by have h0 := hfs; rw [List.length_append, List.length_take]; omega) (by exact hb15.size) ?_; intro v6 w6 ho6 hb6; have hb16 : Below wr.heap.size wr w6 := hb15.trans hb6
            refine hK _ _ ?_
            clear hK K
            try simp only [Act.put, List.setIfInBounds_toArray, List.set_cons_zero, List.set_cons_succ, Array.replicate]
            refine rA [21] (h := ?_)
            refine cA (h := fun K hK => ?_) (hs := ?_)
            ·go_simp; go_at_call 53; refine (fast_any q 0 (by omega) v6 _ _ R _ (HRR.out.below hb16) ho6).mono ?_; rintro e w7 ⟨rfl, hr7, hu7⟩; try go_simp
             refine hK _ _ ?_
             clear hK K
             try simp only [Act.put, List.setIfInBounds_toArray, List.set_cons_zero, List.set_cons_succ, Array.replicate]
             refine wpAny_done (by kernel_rfl) ?_ _
             go_wp2_with fail
             exact ⟨⟨_, (HU.out.trans (Upd.of_below hb16)).trans hu7, hr7, .inr (.inl ⟨rfl, rfl⟩)⟩, by simp [intOf]⟩
            exact AllReady.nil
           exact AllReady.nil
          exact AllReady.nil
         exact AllReady.nil
        exact AllReady.nil
       refine cA (h := fun K hK => ?_) (hs := ?_)
       ·go_simp
        refine hK _ _ ?_
        clear hK K
        try simp only [Act.put, List.setIfInBounds_toArray, List.set_cons_zero, List.set_cons_succ, Array.replicate]
        refine rA [2] (h := ?_)
        refine cA (h := fun K hK => ?_) (hs := ?_)
        ·go_simp
         refine hK _ _ ?_
         clear hK K
         try simp only [Act.put, List.setIfInBounds_toArray, List.set_cons_zero, List.set_cons_succ, Array.replicate]
         refine rA [9] (h := ?_)
         refine cA (h := fun K hK => ?_) (hs := ?_)
         ·refine step_app_own Try.underlying27 info_byte (by with_unfolding_all rfl) (.tmp 70) (.tmp 76) rfl rfl (Row.new _ _ []) rfl ((OF0.out.sh).below (balloc (Below.refl _ _).drew _)) (by omega) ?_; intro v4 w4 ho4 hb4; have hb14 : Below wr.heap.size wr w4 := bstep (balloc (Below.refl _ _).drew _) hb4; have hyc := bkeep hb14 hh2
          refine hK _ _ ?_
          clear hK K
          try simp only [Act.put, List.setIfInBounds_toArray, List.set_cons_zero, List.set_cons_succ, Array.replicate]
          refine rA [18] (h := ?_)
          refine cA (h := fun K hK => ?_) (hs := ?_)
          ·refine step_app_more Try.underlying27 info_byte (by with_unfolding_all rfl) (.tmp 77) (.tmp 85) rfl rfl ho4 rfl (((OM0.out.sh).take (kq) (by omega)).below hb14) (by have h0 := hfs; rw [List.length_take]; omega) (by exact hb14.size) ?_; intro v5 w5 ho5 hb5; have hb15 : Below wr.heap.size wr w5 := hb14.trans hb5
           refine hK _ _ ?_
           clear hK K
           try simp only [Act.put, List.setIfInBounds_toArray, List.set_cons_zero, List.set_cons_succ, Array.replicate]
           refine rA [20] (h := ?_)
           refine cA (h := fun K hK => ?_) (hs := ?_)
           ·refine step_app_more Try.underlying27 info_byte (by with_unfolding_all rfl) (.tmp 86) (.tmp 87) rfl rfl ho5 rfl (HSB.out _ (HU.out.trans (Upd.of_below hb15))) (by have h0 := hfs; rw [List.length_append, List.length_take]; omega) (by exact hb15.size) ?_; intro v6 w6 ho6 hb6; have hb16 : Below wr.heap.size wr w6 := hb15.trans hb6
            refine hK _ _ ?_
            clear hK K
            try simp only [Act.put, List.setIfInBounds_toArray, List.set_cons_zero, List.set_cons_succ, Array.replicate]
            refine rA [21] (h := ?_)
            refine cA (h := fun K hK => ?_) (hs := ?_)
            ·go_simp; go_at_call 53; refine (fast_any q 0 (by omega) v6 _ _ R _ (HRR.out.below hb16) ho6).mono ?_; rintro e w7 ⟨rfl, hr7, hu7⟩; try go_simp
             refine hK _ _ ?_
             clear hK K
             try simp only [Act.put, List.setIfInBounds_toArray, List.set_cons_zero, List.set_cons_succ, Array.replicate]
             refine wpAny_done (by kernel_rfl) ?_ _
             go_wp2_with fail
             exact ⟨⟨_, (HU.out.trans (Upd.of_below hb16)).trans hu7, hr7, .inr (.inl ⟨rfl, rfl⟩)⟩, by simp [intOf]⟩
            exact AllReady.nil
           exact AllReady.nil
          exact AllReady.nil
         exact AllReady.nil
        exact AllReady.nil
       exact AllReady.nil
      exact AllReady.nil
    ·have hc : R.c0 (kq : Int) tail = R := by unfold RD.c0; rw [if_neg (by rw [hi]; simp), if_neg hml]
     rw [hc]
     clear hc hi
     have hm0 : R.m0.length = 0 := by omega
     rw [hm0] at hh2
     go_wp2_with fail
     exact ⟨⟨_, HU.out, HRR.out, .inr (.inl ⟨rfl, rfl⟩)⟩, by simp [intOf]⟩
  ·rw [hRR] at hr
   clear hRR
   clear R'
   generalize hRe : R1.c0 (kq : Int) tail = R at *
   have hbd := hbd2
   clear hbd1 hbd2 hRe
   have hszR := hbd.sz
   have HRR := Lib.hid hr
   have HU := Lib.hid hu
   obtain ⟨xf0, kf0, xf1, kf1, xm0, km0, xm1, km1, xo0, ko0, xo1, ko1, hR, of0, of1, om0, om1, oo0, oo1⟩ := hr
   have HR := Lib.hid hR
   have OF0 := Lib.hid of0
   have OF1 := Lib.hid of1
   have OM0 := Lib.hid om0
   have OM1 := Lib.hid om1
   have OO0 := Lib.hid oo0
   have OO1 := Lib.hid oo1
   clear hR of0 of1 om0 om1 oo0 oo1
   have hh1 := Row.cell HR.out 1
   have hh3 := Row.cell HR.out 3
   have hh7 := Row.cell HR.out 7
   simp only [RdC, List.getElem?_cons_succ, List.getElem?_cons_zero] at hh1 hh3 hh7
   cases hi : R.i1 with
   | true =>
    rw [hi] at hh7
    have hc : R.c1 (kq : Int) tail = R.fast 1 (R.all 1) := by unfold RD.c1; rw [if_pos hi, if_pos (by omega)]
    rw [hc]
    clear hc hi
    have hkI : 0 < (kq : Int) := by omega
    go_wp2_with fail
    refine (refAll_any q 1 (by omega) R _ HRR.out (by omega)).mono ?_; rintro e w2 ⟨v2, rfl, ho2, hb2⟩
    go_wp2_with fail
    refine (fast_any q 1 (by omega) v2 _ _ R _ (HRR.out.below hb2) ho2).mono ?_; rintro e w3 ⟨rfl, hr3, hu3⟩
    go_wp2_with fail
    exact ⟨⟨_, (HU.out.trans (Upd.of_below hb2)).trans hu3, hr3, .inr (.inr ⟨rfl, rfl⟩)⟩, by simp [intOf]⟩
   | false =>
    rw [hi] at hh7
    by_cases hml : 0 < R.m1.length
    ·by_cases hkm : (R.m1.length : Int) < (kq : Int)
     ·have hc : R.c1 (kq : Int) tail = R.fast 1 (R.f1 ++ R.m1.take (R.m1.length) ++ tail) := by unfold RD.c1; rw [if_neg (by rw [hi]; simp), if_pos hml]; congr 4 <;> omega
      rw [hc]
      clear hc hi
      have hmlI : 0 < (R.m1.length : Int) := by omega
      obtain ⟨qk1, qk2⟩ := dcap OM1.out
      have hfs : R.f1.length ≤ 100000000000 ∧ R.m1.length ≤ 100000000000 := by have h0 := hszR; unfold RD.sz at h0; omega
      have hcp : (R.m1.length : Int) ≤ (km1 : Int) := by omega
      have hya := bkeep (balloc (Below.refl wr.heap.size wr) (.cells #[] 5)) hh1
      have hyb := bkeep (balloc (Below.refl wr.heap.size wr) (.cells #[] 5)) hh3
      go_upto_region 14 with fail
      refine wp_region_any (by kernel_rfl) ?_
      try (change wpAny _ _ _ _ _ _ _ (World.drew _))
      refine tA (i := 0) (v := ?_) (y := (Or.inl ⟨by rfl, ?_⟩)) (h := ?_)
      rotate_left
      ·intro w; go_simp; try with_reducible rfl
      try simp only [Act.put, List.setIfInBounds_toArray, List.set_cons_zero, List.set_cons_succ, Array.replicate]
      refine tA (i := 1) (v := ?_) (y := (Or.inl ⟨by rfl, ?_⟩)) (h := ?_)
      rotate_left
      ·intro w; go_simp; try with_reducible rfl
      try simp only [Act.put, List.setIfInBounds_toArray, List.set_cons_zero, List.set_cons_succ, Array.replicate]
      refine tA (i := 3) (v := ?_) (y := (Or.inl ⟨by rfl, ?_⟩)) (h := ?_)
      rotate_left
      ·intro w; go_simp; try with_reducible rfl
      try simp only [Act.put, List.setIfInBounds_toArray, List.set_cons_zero, List.set_cons_succ, Array.replicate]
      refine tA (i := 4) (v := ?_) (y := (Or.inl ⟨by rfl, ?_⟩)) (h := ?_)
      rotate_left
      ·intro w; go_simp; try with_reducible rfl
      try simp only [Act.put, List.setIfInBounds_toArray, List.set_cons_zero, List.set_cons_succ, Array.replicate]
      refine tA (i := 5) (v := ?_) (y := (Or.inl ⟨by rfl, ?_⟩)) (h := ?_)
      rotate_left
      ·intro w; go_simp; try with_reducible rfl
      try simp only [Act.put, List.setIfInBounds_toArray, List.set_cons_zero, List.set_cons_succ, Array.replicate]
      refine tA (i := 6) (v := ?_) (y := (Or.inl ⟨by rfl, ?_⟩)) (h := ?_)
      rotate_left
      ·intro w; go_simp; try with_reducible rfl
      try simp only [Act.put, List.setIfInBounds_toArray, List.set_cons_zero, List.set_cons_succ, Array.replicate]
      refine tA (i := 7) (v := ?_) (y := (Or.inl ⟨by rfl, ?_⟩)) (h := ?_)
      rotate_left
      ·intro w; go_simp; try with_reducible rfl
      try simp only [Act.put, List.setIfInBounds_toArray, List.set_cons_zero, List.set_cons_succ, Array.replicate]
      refine tA (i := 10) (v := ?_) (y := (Or.inl ⟨by rfl, ?_⟩)) (h := ?_)
      rotate_left
      ·intro w; go_simp; try with_reducible rfl
      try simp only [Act.put, List.setIfInBounds_toArray, List.set_cons_zero, List.set_cons_succ, Array.replicate]
      refine tA (i := 11) (v := ?_) (y := (Or.inl ⟨by rfl, ?_⟩)) (h := ?_)
      rotate_left
      ·intro w; go_simp; try with_reducible rfl
      try simp only [Act.put, List.setIfInBounds_toArray, List.set_cons_zero, List.set_cons_succ, Array.replicate]
      refine tA (i := 12) (v := ?_) (y := (Or.inl ⟨by rfl, ?_⟩)) (h := ?_)
      rotate_left
      ·intro w; go_simp; try with_reducible rfl
      try simp only [Act.put, List.setIfInBounds_toArray, List.set_cons_zero, List.set_cons_succ, Array.replicate]
      refine tA (i := 13) (v := ?_) (y := (Or.inl ⟨by rfl, ?_⟩)) (h := ?_)
      rotate_left
      ·intro w; go_simp; try with_reducible rfl
      try simp only [Act.put, List.setIfInBounds_toArray, List.set_cons_zero, List.set_cons_succ, Array.replicate]
      refine tA (i := 14) (v := ?_) (y := (Or.inl ⟨by rfl, ?_⟩)) (h := ?_)
      rotate_left
      ·intro w; go_simp; try with_reducible rfl
      try simp only [Act.put, List.setIfInBounds_toArray, List.set_cons_zero, List.set_cons_succ, Array.replicate]
      refine tA (i := 16) (v := ?_) (y := (Or.inl ⟨by rfl, ?_⟩)) (h := ?_)
      rotate_left
      ·intro w; go_simp; try with_reducible rfl
      try simp only [Act.put, List.setIfInBounds_toArray, List.set_cons_zero, List.set_cons_succ, Array.replicate]
      refine tA (i := 19) (v := ?_) (y := (Or.inl ⟨by rfl, ?_⟩)) (h := ?_)
      rotate_left
      ·intro w; go_simp; try with_reducible rfl
      try simp only [Act.put, List.setIfInBounds_toArray, List.set_cons_zero, List.set_cons_succ, Array.replicate]
      refine rA [2, 8, 15] (h := ?_)
      refine cA (h := fun K hK => ?_) (hs := ?_)
      ·go_simp
       refine hK _ _ ?_
       clear hK K
       try simp only [Act.put, List.setIfInBounds_toArray, List.set_cons_zero, List.set_cons_succ, Array.replicate]
       refine rA [8, 15] (h := ?_)
       refine cA (h := fun K hK => ?_) (hs := ?_)
       ·go_simp
        refine hK _ _ ?_
        clear hK K
        try simp only [Act.put, List.setIfInBounds_toArray, List.set_cons_zero, List.set_cons_succ, Array.replicate]
        refine rA [9, 15] (h := ?_)
        refine cA (h := fun K hK => ?_) (hs := ?_)
        ·refine step_app_own Try.underlying27 info_byte (by with_unfolding_all rfl) (.tmp 70) (.tmp 76) rfl rfl (Row.new _ _ []) rfl ((OF1.out.sh).below (balloc (Below.refl _ _).drew _)) (by omega) ?_; intro v4 w4 ho4 hb4; have hb14 : Below wr.heap.size wr w4 := bstep (balloc (Below.refl _ _).drew _) hb4; have hyc := bkeep hb14 hh3
         refine hK _ _ ?_
         clear hK K
         try simp only [Act.put, List.setIfInBounds_toArray, List.set_cons_zero, List.set_cons_succ, Array.replicate]
         refine rA [15] (h := ?_)
         refine cA (h := fun K hK => ?_) (hs := ?_)
         ·go_simp
          refine hK _ _ ?_
          clear hK K
          try simp only [Act.put, List.setIfInBounds_toArray, List.set_cons_zero, List.set_cons_succ, Array.replicate]
          refine tA (i := 17) (v := ?_) (y := (Or.inl ⟨by rfl, ?_⟩)) (h := ?_)
          rotate_left
          ·intro w; go_simp; try with_reducible rfl
          try simp only [Act.put, List.setIfInBounds_toArray, List.set_cons_zero, List.set_cons_succ, Array.replicate]
          refine rA [18] (h := ?_)
          refine cA (h := fun K hK => ?_) (hs := ?_)
          ·refine step_app_more Try.underlying27 info_byte (by with_unfolding_all rfl) (.tmp 77) (.tmp 85) rfl rfl ho4 rfl (((OM1.out.sh).take (R.m1.length) (by omega)).below hb14) (by have h0 := hfs; rw [List.length_take]; omega) (by exact hb14.size) ?_; intro v5 w5 ho5 hb5; have hb15 : Below wr.heap.size wr w5 := hb14.trans hb5
           refine hK _ _ ?_
           clear hK K
           try simp only [Act.put, List.setIfInBounds_toArray, List.set_cons_zero, List.set_cons_succ, Array.replicate]
           refine rA [20] (h := ?_)
           refine cA (h := fun K hK => ?_) (hs := ?_)
           ·refine step_app_more Try.underlying27 info_byte (by with_unfolding_all rfl) (.tmp 86) (.tmp 87) rfl rfl ho5 rfl (HSB.out _ (HU.out.trans (Upd.of_below hb15))) (by have h0 := hfs; rw [List.length_append, List.length_take]; omega) (by exact hb15.size) ?_; intro v6 w6 ho6 hb6; have hb16 : Below wr.heap.size wr w6 := hb15.trans hb6
            refine hK _ _ ?_
            clear hK K
            try simp only [Act.put, List.setIfInBounds_toArray, List.set_cons_zero, List.set_cons_succ, Array.replicate]
            refine rA [21] (h := ?_)
            refine cA (h := fun K hK => ?_) (hs := ?_)
            ·go_simp; go_at_call 53; refine (fast_any q 1 (by omega) v6 _ _ R _ (HRR.out.below hb16) ho6).mono ?_; rintro e w7 ⟨rfl, hr7, hu7⟩; try go_simp
             refine hK _ _ ?_
             clear hK K
             try simp only [Act.put, List.setIfInBounds_toArray, List.set_cons_zero, List.set_cons_succ, Array.replicate]
             refine wpAny_done (by kernel_rfl) ?_ _
             go_wp2_with fail
             exact ⟨⟨_, (HU.out.trans (Upd.of_below hb16)).trans hu7, hr7, .inr (.inr ⟨rfl, rfl⟩)⟩, by simp [intOf]⟩
            exact AllReady.nil
           exact AllReady.nil
          exact AllReady.nil
         exact AllReady.nil
        refine cA (h := fun K hK => ?_) (hs := ?_)
        ·go_simp
         refine hK _ _ ?_
         clear hK K
         try simp only [Act.put, List.setIfInBounds_toArray, List.set_cons_zero, List.set_cons_succ, Array.replicate]
         refine tA (i := 17) (v := ?_) (y := (Or.inl ⟨by rfl, ?_⟩)) (h := ?_)
         rotate_left
         ·intro w; go_simp; try with_reducible rfl
         try simp only [Act.put, List.setIfInBounds_toArray, List.set_cons_zero, List.set_cons_succ, Array.replicate]
         refine rA [9] (h := ?_)
         refine cA (h := fun K hK => ?_) (hs := ?_)
         ·refine step_app_own Try.underlying27 info_byte (by with_unfolding_all rfl) (.tmp 70) (.tmp 76) rfl rfl (Row.new _ _ []) rfl ((OF1.out.sh).below (balloc (Below.refl _ _).drew _)) (by omega) ?_; intro v4 w4 ho4 hb4; have hb14 : Below wr.heap.size wr w4 := bstep (balloc (Below.refl _ _).drew _) hb4; have hyc := bkeep hb14 hh3
          refine hK _ _ ?_
          clear hK K
          try simp only [Act.put, List.setIfInBounds_toArray, List.set_cons_zero, List.set_cons_succ, Array.replicate]
          refine rA [18] (h := ?_)
          refine cA (h := fun K hK => ?_) (hs := ?_)
          ·refine step_app_more Try.underlying27 info_byte (by with_unfolding_all rfl) (.tmp 77) (.tmp 85) rfl rfl ho4 rfl (((OM1.out.sh).take (R.m1.length) (by omega)).below hb14) (by have h0 := hfs; rw [List.length_take]; omega) (by exact hb14.size) ?_; intro v5 w5 ho5 hb5; have hb15 : Below wr.heap.size wr w5 := hb14.trans hb5
           refine hK _ _ ?_
           clear hK K
           try simp only [Act.put, List.setIfInBounds_toArray, List.set_cons_zero, List.set_cons_succ, Array.replicate]
           refine rA [20] (h := ?_)
           refine cA (h := fun K hK => ?_) (hs := ?_)
           ·refine step_app_more Try.underlying27 info_byte (by with_unfolding_all rfl) (.tmp 86) (.tmp 87) rfl rfl ho5 rfl (HSB.out _ (HU.out.trans (Upd.of_below hb15))) (by have h0 := hfs; rw [List.length_append, List.length_take]; omega) (by exact hb15.size) ?_; intro v6 w6 ho6 hb6; have hb16 : Below wr.heap.size wr w6 := hb15.trans hb6
            refine hK _ _ ?_
            clear hK K
            try simp only [Act.put, List.setIfInBounds_toArray, List.set_cons_zero, List.set_cons_succ, Array.replicate]
            refine rA [21] (h := ?_)
            refine cA (h := fun K hK => ?_) (hs := ?_)
            ·go_simp; go_at_call 53; refine (fast_any q 1 (by omega) v6 _ _ R _ (HRR.out.below hb16) ho6).mono ?_; rintro e w7 ⟨rfl, hr7, hu7⟩; try go_simp
             refine hK _ _ ?_
             clear hK K
             try simp only [Act.put, List.setIfInBounds_toArray, List.set_cons_zero, List.set_cons_succ, Array.replicate]
             refine wpAny_done (by kernel_rfl) ?_ _
             go_wp2_with fail
             exact ⟨⟨_, (HU.out.trans (Upd.of_below hb16)).trans hu7, hr7, .inr (.inr ⟨rfl, rfl⟩)⟩, by simp [intOf]⟩
            exact AllReady.nil
           exact AllReady.nil
          exact AllReady.nil
         exact AllReady.nil
        exact AllReady.nil
       refine cA (h := fun K hK => ?_) (hs := ?_)
       ·go_simp
        refine hK _ _ ?_
        clear hK K
        try simp only [Act.put, List.setIfInBounds_toArray, List.set_cons_zero, List.set_cons_succ, Array.replicate]
        refine tA (i := 17) (v := ?_) (y := (Or.inl ⟨by rfl, ?_⟩)) (h := ?_)
        rotate_left
        ·intro w; go_simp; try with_reducible rfl
        try simp only [Act.put, List.setIfInBounds_toArray, List.set_cons_zero, List.set_cons_succ, Array.replicate]
        refine rA [8] (h := ?_)
        refine cA (h := fun K hK => ?_) (hs := ?_)
        ·go_simp
         refine hK _ _ ?_
         clear hK K
         try simp only [Act.put, List.setIfInBounds_toArray, List.set_cons_zero, List.set_cons_succ, Array.replicate]
         refine rA [9] (h := ?_)
         refine cA (h := fun K hK => ?_) (hs := ?_)
         ·refine step_app_own Try.underlying27 info_byte (by with_unfolding_all rfl) (.tmp 70) (.tmp 76) rfl rfl (Row.new _ _ []) rfl ((OF1.out.sh).below (balloc (Below.refl _ _).drew _)) (by omega) ?_; intro v4 w4 ho4 hb4; have hb14 : Below wr.heap.size wr w4 := bstep (balloc (Below.refl _ _).drew _) hb4; have hyc := bkeep hb14 hh3
          refine hK _ _ ?_
          clear hK K
          try simp only [Act.put, List.setIfInBounds_toArray, List.set_cons_zero, List.set_cons_succ, Array.replicate]
          refine rA [18] (h := ?_)
          refine cA (h := fun K hK => ?_) (hs := ?_)
          ·refine step_app_more Try.underlying27 info_byte (by with_unfolding_all rfl) (.tmp 77) (.tmp 85) rfl rfl ho4 rfl (((OM1.out.sh).take (R.m1.length) (by omega)).below hb14) (by have h0 := hfs; rw [List.length_take]; omega) (by exact hb14.size) ?_; intro v5 w5 ho5 hb5; have hb15 : Below wr.heap.size wr w5 := hb14.trans hb5
           refine hK _ _ ?_
           clear hK K
           try simp only [Act.put, List.setIfInBounds_toArray, List.set_cons_zero, List.set_cons_succ, Array.replicate]
           refine rA [20] (h := ?_)
           refine cA (h := fun K hK => ?_) (hs := ?_)
           ·refine step_app_more Try.underlying27 info_byte (by with_unfolding_all rfl) (.tmp 86) (.tmp 87) rfl rfl ho5 rfl (HSB.out _ (HU.out.trans (Upd.of_below hb15))) (by have h0 := hfs; rw [List.length_append, List.length_take]; omega) (by exact hb15.size) ?_; intro v6 w6 ho6 hb6; have hb16 : Below wr.heap.size wr w6 := hb15.trans hb6
            refine hK _ _ ?_
            clear hK K
            try simp only [Act.put, List.setIfInBounds_toArray, List.set_cons_zero, List.set_cons_succ, Array.replicate]
            refine rA [21] (h := ?_)
            refine cA (h := fun K hK => ?_) (hs := ?_)
            ·go_simp; go_at_call 53; refine (fast_any q 1 (by omega) v6 _ _ R _ (HRR.out.below hb16) ho6).mono ?_; rintro e w7 ⟨rfl, hr7, hu7⟩; try go_simp
             refine hK _ _ ?_
             clear hK K
             try simp only [Act.put, List.setIfInBounds_toArray, List.set_cons_zero, List.set_cons_succ, Array.replicate]
             refine wpAny_done (by kernel_rfl) ?_ _
             go_wp2_with fail
             exact ⟨⟨_, (HU.out.trans (Upd.of_below hb16)).trans hu7, hr7, .inr (.inr ⟨rfl, rfl⟩)⟩, by simp [intOf]⟩
            exact AllReady.nil
           exact AllReady.nil
          exact AllReady.nil
         exact AllReady.nil
        exact AllReady.nil
       exact AllReady.nil
      refine cA (h := fun K hK => ?_) (hs := ?_)
      ·go_simp
       refine hK _ _ ?_
       clear hK K
       try simp only [Act.put, List.setIfInBounds_toArray, List.set_cons_zero, List.set_cons_succ, Array.replicate]
       refine rA [2, 15] (h := ?_)
       refine cA (h := fun K hK => ?_) (hs := ?_)
       ·go_simp
        refine hK _ _ ?_
        clear hK K
        try simp only [Act.put, List.setIfInBounds_toArray, List.set_cons_zero, List.set_cons_succ, Array.replicate]
        refine rA [9, 15] (h := ?_)
        refine cA (h := fun K hK => ?_) (hs := ?_)
        ·refine step_app_own Try.underlying27 info_byte (by with_unfolding_all rfl) (.tmp 70) (.tmp 76) rfl rfl (Row.new _ _ []) rfl ((OF1.out.sh).below (balloc (Below.refl _ _).drew _)) (by omega) ?_; intro v4 w4 ho4 hb4; have hb14 : Below wr.heap.size wr w4 := bstep (balloc (Below.refl _ _).drew _) hb4; have hyc := bkeep hb14 hh3
         refine hK _ _ ?_
         clear hK K
         try simp only [Act.put, List.setIfInBounds_toArray, List.set_cons_zero, List.set_cons_succ, Array.replicate]
         refine rA [15] (h := ?_)
         refine cA (h := fun K hK => ?_) (hs := ?_)
         ·go_simp
          refine hK _ _ ?_
          clear hK K
          try simp only [Act.put, List.setIfInBounds_toArray, List.set_cons_zero, List.set_cons_succ, Array.replicate]
          refine tA (i := 17) (v := ?_) (y := (Or.inl ⟨by rfl, ?_⟩)) (h := ?_)
          rotate_left
          ·intro w; go_simp; try with_reducible rfl
          try simp only [Act.put, List.setIfInBounds_toArray, List.set_cons_zero, List.set_cons_succ, Array.replicate]
          refine rA [18] (h := ?_)
          refine cA (h := fun K hK => ?_) (hs := ?_)
          ·refine step_app_more Try.underlying27 info_byte (by with_unfolding_all rfl) (.tmp 77) (.tmp 85) rfl rfl ho4 rfl (((OM1.out.sh).take (R.m1.length) (by omega)).below hb14) (by have h0 := hfs; rw [List.length_take]; omega) (by exact hb14.size) ?_; intro v5 w5 ho5 hb5; have hb15 : Below wr.heap.size wr w5 := hb14.trans hb5
           refine hK _ _ ?_
           clear hK K
           try simp only [Act.put, List.setIfInBounds_toArray, List.set_cons_zero, List.set_cons_succ, Array.replicate]
           refine rA [20] (h := ?_)
           refine cA (h := fun K hK => ?_) (hs := ?_)
           ·refine step_app_more Try.underlying27 info_byte (by with_unfolding_all rfl) (.tmp 86) (.tmp 87) rfl rfl ho5 rfl (HSB.out _ (HU.out.trans (Upd.of_below hb15))) (by have h0 := hfs; rw [List.length_append, List.length_take]; omega) (by exact hb15.size) ?_; intro v6 w6 ho6 hb6; have hb16 : Below wr.heap.size wr w6 := hb15.trans hb6
            refine hK _ _ ?_
            clear hK K
            try simp only [Act.put, List.setIfInBounds_toArray, List.set_cons_zero, List.set_cons_succ, Array.replicate]
            refine rA [21] (h := ?_)
            refine cA (h := fun K hK => ?_) (hs := ?_)
            ·go_simp; go_at_call 53; refine (fast_any q 1 (by omega) v6 _ _ R _ (HRR.out.below hb16) ho6).mono ?_; rintro e w7 ⟨rfl, hr7, hu7⟩; try go_simp
             refine hK _ _ ?_
             clear hK K
             try simp only [Act.put, List.setIfInBounds_toArray, List.set_cons_zero, List.set_cons_succ, Array.replicate]
             refine wpAny_done (by kernel_rfl) ?_ _
             go_wp2_with fail
             exact ⟨⟨_, (HU.out.trans (Upd.of_below hb16)).trans hu7, hr7, .inr (.inr ⟨rfl, rfl⟩)⟩, by simp [intOf]⟩
            exact AllReady.nil
           exact AllReady.nil
          exact AllReady.nil
         exact AllReady.nil
        refine cA (h := fun K hK => ?_) (hs := ?_)
        ·go_simp
         refine hK _ _ ?_
         clear hK K
         try simp only [Act.put, List.setIfInBounds_toArray, List.set_cons_zero, List.set_cons_succ, Array.replicate]
         refine tA (i := 17) (v := ?_) (y := (Or.inl ⟨by rfl, ?_⟩)) (h := ?_)
         rotate_left
         ·intro w; go_simp; try with_reducible rfl
         try simp only [Act.put, List.setIfInBounds_toArray, List.set_cons_zero, List.set_cons_succ, Array.replicate]
         refine rA [9] (h := ?_)
         refine cA (h := fun K hK => ?_) (hs := ?_)
         ·refine step_app_own Try.underlying27 info_byte (by with_unfolding_all rfl) (.tmp 70) (.tmp 76) rfl rfl (Row.new _ _ []) rfl ((OF1.out.sh).below (balloc (Below.refl _ _).drew _)) (by omega) ?_; intro v4 w4 ho4 hb4; have hb14 : Below wr.heap.size wr w4 := bstep (balloc (Below.refl _ _).drew _) hb4; have hyc := bkeep hb14 hh3
          refine hK _ _ ?_
          clear hK K
          try simp only [Act.put, List.setIfInBounds_toArray, List.set_cons_zero, List.set_cons_succ, Array.replicate]
          refine rA [18] (h := ?_)
          refine cA (h := fun K hK => ?_) (hs := ?_)
          ·refine step_app_more Try.underlying27 info_byte (by with_unfolding_all rfl) (.tmp 77) (.tmp 85) rfl rfl ho4 rfl (((OM1.out.sh).take (R.m1.length) (by omega)).below hb14) (by have h0 := hfs; rw [List.length_take]; omega) (by exact hb14.size) ?_; intro v5 w5 ho5 hb5; have hb15 : Below wr.heap.size wr w5 := hb14.trans hb5
           refine hK _ _ ?_
           clear hK K
           try simp only [Act.put, List.setIfInBounds_toArray, List.set_cons_zero, List.set_cons_succ, Array.replicate]
           refine rA [20] (h := ?_)
           refine cA (h := fun K hK => ?_) (hs := ?_)
           ·refine step_app_more Try.underlying27 info_byte (by with_unfolding_all rfl) (.tmp 86) (.tmp 87) rfl rfl ho5 rfl (HSB.out _ (HU.out.trans (Upd.of_below hb15))) (by have h0 := hfs; rw [List.length_append, List.length_take]; omega) (by exact hb15.size) ?_; intro v6 w6 ho6 hb6; have hb16 : Below wr.heap.size wr w6 := hb15.trans hb6
            refine hK _ _ ?_
            clear hK K
            try simp only [Act.put, List.setIfInBounds_toArray, List.set_cons_zero, List.set_cons_succ, Array.replicate]
            refine rA [21] (h := ?_)
            refine cA (h := fun K hK => ?_) (hs := ?_)
            ·go_simp; go_at_call 53; refine (fast_any q 1 (by omega) v6 _ _ R _ (HRR.out.below hb16) ho6).mono ?_; rintro e w7 ⟨rfl, hr7, hu7⟩; try go_simp
             refine hK _ _ ?_
             clear hK K
             try simp only [Act.put, List.setIfInBounds_toArray, List.set_cons_zero, List.set_cons_succ, Array.replicate]
             refine wpAny_done (by kernel_rfl) ?_ _
             go_wp2_with fail
             exact ⟨⟨_, (HU.out.trans (Upd.of_below hb16)).trans hu7, hr7, .inr (.inr ⟨rfl, rfl⟩)⟩, by simp [intOf]⟩
            exact AllReady.nil
           exact AllReady.nil
          exact AllReady.nil
         exact AllReady.nil
        exact AllReady.nil
       refine cA (h := fun K hK => ?_) (hs := ?_)
       ·go_simp
        refine hK _ _ ?_
        clear hK K
        try simp only [Act.put, List.setIfInBounds_toArray, List.set_cons_zero, List.set_cons_succ, Array.replicate]
        refine tA (i := 17) (v := ?_) (y := (Or.inl ⟨by rfl, ?_⟩)) (h := ?_)
        rotate_left
        ·intro w; go_simp; try with_reducible rfl
        try simp only [Act.put, List.setIfInBounds_toArray, List.set_cons_zero, List.set_cons_succ, Array.replicate]
        refine rA [2] (h := ?_)
        refine cA (h := fun K hK => ?_) (hs := ?_)
        ·go_simp
         refine hK _ _ ?_
         clear hK K
         try simp only [Act.put, List.setIfInBounds_toArray, List.set_cons_zero, List.set_cons_succ, Array.replicate]
         refine rA [9] (h := ?_)
         refine cA (h := fun K hK => ?_) (hs := ?_)
         ·refine step_app_own Try.underlying27 info_byte (by with_unfolding_all rfl) (.tmp 70) (.tmp 76) rfl rfl (Row.new _ _ []) rfl ((OF1.out.sh).below (balloc (Below.refl _ _).drew _)) (by omega) ?_; intro v4 w4 ho4 hb4; have hb14 : Below wr.heap.size wr w4 := bstep (balloc (Below.refl _ _).drew _) hb4; have hyc := bkeep hb14 hh3
          refine hK _ _ ?_
          clear hK K
          try simp only [Act.put, List.setIfInBounds_toArray, List.set_cons_zero, List.set_cons_succ, Array.replicate]
          refine rA [18] (h := ?_)
          refine cA (h := fun K hK => ?_) (hs := ?_)
          ·refine step_app_more Try.underlying27 info_byte (by with_unfolding_all rfl) (.tmp 77) (.tmp 85) rfl rfl ho4 rfl (((OM1.out.sh).take (R.m1.length) (by omega)).below hb14) (by have h0 := hfs; rw [List.length_take]; omega) (by exact hb14.size) ?_; intro v5 w5 ho5 hb5; have hb15 : Below wr.heap.size wr w5 := hb14.trans hb5
           refine hK _ _ ?_
           clear hK K
           try simp only [Act.put, List.setIfInBounds_toArray, List.set_cons_zero, List.set_cons_succ, Array.replicate]
           refine rA [20] (h := ?_)
           refine cA (h := fun K hK => ?_) (hs := ?_)
           ·refine step_app_more Try.underlying27 info_byte (by with_unfolding_all rfl) (.tmp 86) (.tmp 87) rfl rfl ho5 rfl (HSB.out _ (HU.out.trans (Upd.of_below hb15))) (by have h0 := hfs; rw [List.length_append, List.length_take]; omega) (by exact hb15.size) ?_; intro v6 w6 ho6 hb6; have hb16 : Below wr.heap.size wr w6 := hb15.trans hb6
            refine hK _ _ ?_
            clear hK K
            try simp only [Act.put, List.setIfInBounds_toArray, List.set_cons_zero, List.set_cons_succ, Array.replicate]
            refine rA [21] (h := ?_)
            refine cA (h := fun K hK => ?_) (hs := ?_)
            ·go_simp; go_at_call 53; refine (fast_any q 1 (by omega) v6 _ _ R _ (HRR.out.below hb16) ho6).mono ?_; rintro e w7 ⟨rfl, hr7, hu7⟩; try go_simp
             refine hK _ _ ?_
             clear hK K
             try simp only [Act.put, List.setIfInBounds_toArray, List.set_cons_zero, List.set_cons_succ, Array.replicate]
             refine wpAny_done (by kernel_rfl) ?_ _
             go_wp2_with fail
             exact ⟨⟨_, (HU.out.trans (Upd.of_below hb16)).trans hu7, hr7, .inr (.inr ⟨rfl, rfl⟩)⟩, by simp [intOf]⟩
            exact AllReady.nil
           exact AllReady.nil
          exact AllReady.nil
         exact AllReady.nil
        exact AllReady.nil
       exact AllReady.nil
      refine cA (h := fun K hK => ?_) (hs := ?_)
      ·go_simp
       refine hK _ _ ?_
       clear hK K
       try simp only [Act.put, List.setIfInBounds_toArray, List.set_cons_zero, List.set_cons_succ, Array.replicate]
       refine tA (i := 17) (v := ?_) (y := (Or.inl ⟨by rfl, ?_⟩)) (h := ?_)
       rotate_left
       ·intro w; go_simp; try with_reducible rfl
       try simp only [Act.put, List.setIfInBounds_toArray, List.set_cons_zero, List.set_cons_succ, Array.replicate]
       refine rA [2, 8] (h := ?_)
       refine cA (h := fun K hK => ?_) (hs := ?_)
       ·go_simp
        refine hK _ _ ?_
        clear hK K
        try simp only [Act.put, List.setIfInBounds_toArray, List.set_cons_zero, List.set_cons_succ, Array.replicate]
        refine rA [8] (h := ?_)
        refine cA (h := fun K hK => ?_) (hs := ?_)
        ·go_simp
         refine hK _ _ ?_
         clear hK K
         try simp only [Act.put, List.setIfInBounds_toArray, List.set_cons_zero, List.set_cons_succ, Array.replicate]
         refine rA [9] (h := ?_)
         refine cA (h := fun K hK => ?_) (hs := ?_)
         ·refine step_app_own Try.underlying27 info_byte (by with_unfolding_all rfl) (.tmp 70) (.tmp 76) rfl rfl (Row.new _ _ []) rfl ((OF1.out.sh).below (balloc (Below.refl _ _).drew _)) (by omega) ?_; intro v4 w4 ho4 hb4; have hb14 : Below wr.heap.size wr w4 := bstep (balloc (Below.refl _ _).drew _) hb4; have hyc := bkeep hb14 hh3
          refine hK _ _ ?_
          clear hK K
          try simp only [Act.put, List.setIfInBounds_toArray, List.set_cons_zero, List.set_cons_succ, Array.replicate]
          refine rA [18] (h := ?_)
          refine cA (h := fun K hK => ?_) (hs := ?_)
          ·refine step_app_more Try.underlying27 info_byte (by with_unfolding_all rfl) (.tmp 77) (.tmp 85) rfl rfl ho4 rfl (((OM1.out.sh).take (R.m1.length) (by omega)).below hb14) (by have h0 := hfs; rw [List.length_take]; omega) (by exact hb14.size) ?_; intro v5 w5 ho5 hb5; have hb15 : Below wr.heap.size wr w5 := hb14.trans hb5
           refine hK _ _ ?_
           clear hK K
           try simp only [Act.put, List.setIfInBounds_toArray, List.set_cons_zero, List.set_cons_succ, Array.replicate]
           refine rA [20] (h := ?_)
           refine cA (h := fun K hK => ?_) (hs := ?_)
           ·refine step_app_more Try.underlying27 info_byte (by with_unfolding_all rfl) (.tmp 86) (.tmp 87) rfl rfl ho5 rfl (HSB.out _ (HU.out.trans (Upd.of_below hb15))) (by have h0 := hfs; rw [List.length_append, List.length_take]; omega) (by exact hb15.size) ?_; intro v6 w6 ho6 hb6; have hb16 : Below wr.heap.size wr w6 := hb15.trans hb6
            refine hK _ _ ?_
            clear hK K
            try simp only [Act.put, List.setIfInBounds_toArray, List.set_cons_zero, List.set_cons_succ, Array.replicate]
            refine rA [21] (h := ?_)
            refine cA (h := fun K hK => ?_) (hs := ?_)
            ·go_simp; go_at_call 53; refine (fast_any q 1 (by omega) v6 _ _ R _ (HRR.out.below hb16) ho6).mono ?_; rintro e w7 ⟨rfl, hr7, hu7⟩; try go_simp
             refine hK _ _ ?_
             clear hK K
             try simp only [Act.put, List.setIfInBounds_toArray, List.set_cons_zero, List.set_cons_succ, Array.replicate]
             refine wpAny_done (by kernel_rfl) ?_ _
             go_wp2_with fail
             exact ⟨⟨_, (HU.out.trans (Upd.of_below hb16)).trans hu7, hr7, .inr (.inr ⟨rfl, rfl⟩)⟩, by simp [intOf]⟩
            exact AllReady.nil
           exact AllReady.nil
          exact AllReady.nil
         exact AllReady.nil
        exact AllReady.nil
       refine cA (h := fun K hK => ?_) (hs := ?_)
       ·go_simp
        refine hK _ _ ?_
        clear hK K
        try simp only [Act.put, List.setIfInBounds_toArray, List.set_cons_zero, List.set_cons_succ, Array.replicate]
        refine rA [2] (h := ?_)
        refine cA (h := fun K hK => ?_) (hs := ?_)
        ·go_simp
         refine hK _ _ ?_
         clear hK K
         try simp only [Act.put, List.setIfInBounds_toArray, List.set_cons_zero, List.set_cons_succ, Array.replicate]
         refine rA [9] (h := ?_)
         refine cA (h := fun K hK => ?_) (hs := ?_)
         ·refine step_app_own Try.underlying27 info_byte (by with_unfolding_all rfl) (.tmp 70) (.tmp 76) rfl rfl (Row.new _ _ []) rfl ((OF1.out.sh).below (balloc (Below.refl _ _).drew _)) (by omega) ?_; intro v4 w4 ho4 hb4; have hb14 : Below wr.heap.size wr w4 := bstep (balloc (Below.refl _ _).drew _) hb4; have hyc := bkeep hb14 hh3
          refine hK _ _ ?_
          clear hK K
          try simp only [Act.put, List.setIfInBounds_toArray, List.set_cons_zero, List.set_cons_succ, Array.replicate]
          refine rA [18] (h := ?_)
          refine cA (h := fun K hK => ?_) (hs := ?_)
          ·refine step_app_more Try.underlying27 info_byte (by with_unfolding_all rfl) (.tmp 77) (.tmp 85) rfl rfl ho4 rfl (((OM1.out.sh).take (R.m1.length) (by omega)).below hb14) (by have h0 := hfs; rw [List.length_take]; omega) (by exact hb14.size) ?_; intro v5 w5 ho5 hb5; have hb15 : Below wr.heap.size wr w5 := hb14.trans hb5
           refine hK _ _ ?_
           clear hK K
           try simp only [Act.put, List.setIfInBounds_toArray, List.set_cons_zero, List.set_cons_succ, Array.replicate]
           refine rA [20] (h := ?_)
           refine cA (h := fun K hK => ?_) (hs := ?_)
           ·refine step_app_more Try.underlying27 info_byte (by with_unfolding_all rfl) (.tmp 86) (.tmp 87) rfl rfl ho5 rfl (HSB.out _ (HU.out.trans (Upd.of_below hb15))) (by have h0 := hfs; rw [List.length_append, List.length_take]; omega) (by exact hb15.size) ?_; intro v6 w6 ho6 hb6; have hb16 : Below wr.heap.size wr w6 := hb15.trans hb6
            refine hK _ _ ?_
            clear hK K
            try simp only [Act.put, List.setIfInBounds_toArray, List.set_cons_zero, List.set_cons_succ, Array.replicate]
            refine rA [21] (h := ?_)
            refine cA (h := fun K hK => ?_) (hs := ?_)
            ·go_simp; go_at_call 53; refine (fast_any q 1 (by omega) v6 _ _ R _ (HRR.out.below hb16) ho6).mono ?_; rintro e w7 ⟨rfl, hr7, hu7⟩; try go_simp
             refine hK _ _ ?_
             clear hK K
             try simp only [Act.put, List.setIfInBounds_toArray, List.set_cons_zero, List.set_cons_succ, Array.replicate]
             refine wpAny_done (by kernel_rfl) ?_ _
             go_wp2_with fail
             exact ⟨⟨_, (HU.out.trans (Upd.of_below hb16)).trans hu7, hr7, .inr (.inr ⟨rfl, rfl⟩)⟩, by simp [intOf]⟩
            exact AllReady.nil
           exact AllReady.nil
          exact AllReady.nil
         exact AllReady.nil
        exact AllReady.nil
       exact AllReady.nil
      exact AllReady.nil
     ·have hc : R.c1 (kq : Int) tail = R.fast 1 (R.f1 ++ R.m1.take (kq) ++ tail) := by unfold RD.c1; rw [if_neg (by rw [hi]; simp), if_pos hml]; congr 4 <;> omega
      rw [hc]
      clear hc hi
      have hmlI : 0 < (R.m1.length : Int) := by omega
      obtain ⟨qk1, qk2⟩ := dcap OM1.out
      have hfs : R.f1.length ≤ 100000000000 ∧ R.m1.length ≤ 100000000000 := by have h0 := hszR; unfold RD.sz at h0; omega
      have hcp : (kq : Int) ≤ (km1 : Int) := by omega
      have hya := bkeep (balloc (Below.refl wr.heap.size wr) (.cells #[] 5)) hh1
      have hyb := bkeep (balloc (Below.refl wr.heap.size wr) (.cells #[] 5)) hh3
      go_upto_region 14 with fail
      refine wp_region_any (by kernel_rfl) ?_
      try (change wpAny _ _ _ _ _ _ _ (World.drew _))
      refine tA (i := 0) (v := ?_) (y := (Or.inl ⟨by rfl, ?_⟩)) (h := ?_)
      rotate_left
      ·intro w; go_simp; try with_reducible rfl
      try simp only [Act.put, List.setIfInBounds_toArray, List.set_cons_zero, List.set_cons_succ, Array.replicate]
      refine tA (i := 1) (v := ?_) (y := (Or.inl ⟨by rfl, ?_⟩)) (h := ?_)
      rotate_left
      ·intro w; go_simp; try with_reducible rfl
      try simp only [Act.put, List.setIfInBounds_toArray, List.set_cons_zero, List.set_cons_succ, Array.replicate]
      refine tA (i := 3) (v := ?_) (y := (Or.inl ⟨by rfl, ?_⟩)) (h := ?_)
      rotate_left
      ·intro w; go_simp; try with_reducible rfl
      try simp only [Act.put, List.setIfInBounds_toArray, List.set_cons_zero, List.set_cons_succ, Array.replicate]
      refine tA (i := 4) (v := ?_) (y := (Or.inl ⟨by rfl, ?_⟩)) (h := ?_)
      rotate_left
      ·intro w; go_simp; try with_reducible rfl
      try simp only [Act.put, List.setIfInBounds_toArray, List.set_cons_zero, List.set_cons_succ, Array.replicate]
      refine tA (i := 5) (v := ?_) (y := (Or.inl ⟨by rfl, ?_⟩)) (h := ?_)
      rotate_left
      ·intro w; go_simp; try with_reducible rfl
      try simp only [Act.put, List.setIfInBounds_toArray, List.set_cons_zero, List.set_cons_succ, Array.replicate]
      refine tA (i := 6) (v := ?_) (y := (Or.inl ⟨by rfl, ?_⟩)) (h := ?_)
      rotate_left
      ·intro w; go_simp; try with_reducible rfl
      try simp only [Act.put, List.setIfInBounds_toArray, List.set_cons_zero, List.set_cons_succ, Array.replicate]
      refine tA (i := 7) (v := ?_) (y := (Or.inl ⟨by rfl, ?_⟩)) (h := ?_)
      rotate_left
      ·intro w; go_simp; try with_reducible rfl
      try simp only [Act.put, List.setIfInBounds_toArray, List.set_cons_zero, List.set_cons_succ, Array.replicate]
      refine tA (i := 10) (v := ?_) (y := (Or.inl ⟨by rfl, ?_⟩)) (h := ?_)
      rotate_left
      ·intro w; go_simp; try with_reducible rfl
      try simp only [Act.put, List.setIfInBounds_toArray, List.set_cons_zero, List.set_cons_succ, Array.replicate]
      refine tA (i := 11) (v := ?_) (y := (Or.inl ⟨by rfl, ?_⟩)) (h := ?_)
      rotate_left
      ·intro w; go_simp; try with_reducible rfl
      try simp only [Act.put, List.setIfInBounds_toArray, List.set_cons_zero, List.set_cons_succ, Array.replicate]
      refine tA (i := 12) (v := ?_) (y := (Or.inl ⟨by rfl, ?_⟩)) (h := ?_)
      rotate_left
      ·intro w; go_simp; try with_reducible rfl
      try simp only [Act.put, List.setIfInBounds_toArray, List.set_cons_zero, List.set_cons_succ, Array.replicate]
      refine tA (i := 13) (v := ?_) (y := (Or.inl ⟨by rfl, ?_⟩)) (h := ?_)
      rotate_left
      ·intro w; go_simp; try with_reducible rfl
      try simp only [Act.put, List.setIfInBounds_toArray, List.set_cons_zero, List.set_cons_succ, Array.replicate]
      refine tA (i := 14) (v := ?_) (y := (Or.inl ⟨by rfl, ?_⟩)) (h := ?_)
      rotate_left
      ·intro w; go_simp; try with_reducible rfl
      try simp only [Act.put, List.setIfInBounds_toArray, List.set_cons_zero, List.set_cons_succ, Array.replicate]
      refine tA (i := 16) (v := ?_) (y := (Or.inl ⟨by rfl, ?_⟩)) (h := ?_)
      rotate_left
      ·intro w; go_simp; try with_reducible rfl
      try simp only [Act.put, List.setIfInBounds_toArray, List.set_cons_zero, List.set_cons_succ, Array.replicate]
      refine tA (i := 19) (v := ?_) (y := (Or.inl ⟨by rfl, ?_⟩)) (h := ?_)
      rotate_left
      ·intro w; go_simp; try with_reducible rfl
      try simp only [Act.put, List.setIfInBounds_toArray, List.set_cons_zero, List.set_cons_succ, Array.replicate]
      refine rA [2, 8, 15] (h := ?_)
      refine cA (h := fun K hK => ?_) (hs := ?_)
      ·go_simp
       refine hK _ _ ?_
       clear hK K
       try simp only [Act.put, List.setIfInBounds_toArray, List.set_cons_zero, List.set_cons_succ, Array.replicate]
       refine rA [8, 15] (h := ?_)
       refine cA (h := fun K hK => ?_) (hs := ?_)
       ·go_simp
        refine hK _ _ ?_
        clear hK K
        try simp only [Act.put, List.setIfInBounds_toArray, List.set_cons_zero, List.set_cons_succ, Array.replicate]
        refine rA [9, 15] (h := ?_)
        refine cA (h := fun K hK => ?_) (hs := ?_)
        ·refine step_app_own Try.underlying27 info_byte (by with_unfolding_all rfl) (.tmp 70) (.tmp 76) rfl rfl (Row.new _ _ []) rfl ((OF1.out.sh).below (balloc (Below.refl _ _).drew _)) (by omega) ?_; intro v4 w4 ho4 hb4; have hb14 : Below wr.heap.size wr w4 := bstep (balloc (Below.refl _ _).drew _) hb4; have hyc := bkeep hb14 hh3
         refine hK _ _ ?_
         clear hK K
         try simp only [Act.put, List.setIfInBounds_toArray, List.set_cons_zero, List.set_cons_succ, Array.replicate]
         refine rA [15] (h := ?_)
         refine cA (h := fun K hK => ?_) (hs := ?_)
         ·go_simp
          refine hK _ _ ?_
          clear hK K
          try simp only [Act.put, List.setIfInBounds_toArray, List.set_cons_zero, List.set_cons_succ, Array.replicate]
          refine tA (i := 17) (v := ?_) (y := (Or.inl ⟨by rfl, ?_⟩)) (h := ?_)
          rotate_left
          ·intro w; go_simp; try with_reducible rfl
          try simp only [Act.put, List.setIfInBounds_toArray, List.set_cons_zero, List.set_cons_succ, Array.replicate]
          refine rA [18] (h := ?_)
          refine cA (h := fun K hK => ?_) (hs := ?_)
          ·refine step_app_more Try.underlying27 info_byte (by with_unfolding_all rfl) (.tmp 77) (.tmp 85) rfl rfl ho4 rfl (((OM1.out.sh).take (kq) (by omega)).below hb14) (by have h0 := hfs; rw [List.length_take]; omega) (by exact hb14.size) ?_; intro v5 w5 ho5 hb5; have hb15 : Below wr.heap.size wr w5 := hb14.trans hb5
           refine hK _ _ ?_
           clear hK K
           try simp only [Act.put, List.setIfInBounds_toArray, List.set_cons_zero, List.set_cons_succ, Array.replicate]
           refine rA [20] (h := ?_)
           refine cA (h := fun K hK => ?_) (hs := ?_)
           ·refine step_app_more Try.underlying27 info_byte (by with_unfolding_all rfl) (.tmp 86) (.tmp 87) rfl rfl ho5 rfl (HSB.out _ (HU.out.trans (Upd.of_below hb15))) (by have h0 := hfs; rw [List.length_append, List.length_take]; omega) (by exact hb15.size) ?_; intro v6 w6 ho6 hb6; have hb16 : Below wr.heap.size wr w6 := hb15.trans hb6
            refine hK _ _ ?_
            clear hK K
            try simp only [Act.put, List.setIfInBounds_toArray, List.set_cons_zero, List.set_cons_succ, Array.replicate]
            refine rA [21] (h := ?_)
            refine cA (h := fun K hK => ?_) (hs := ?_)
            ·go_simp; go_at_call 53; refine (fast_any q 1 (by omega) v6 _ _ R _ (HRR.out.below hb16) ho6).mono ?_; rintro e w7 ⟨rfl, hr7, hu7⟩; try go_simp
             refine hK _ _ ?_
             clear hK K
             try simp only [Act.put, List.setIfInBounds_toArray, List.set_cons_zero, List.set_cons_succ, Array.replicate]
             refine wpAny_done (by kernel_rfl) ?_ _
             go_wp2_with fail
             exact ⟨⟨_, (HU.out.trans (Upd.of_below hb16)).trans hu7, hr7, .inr (.inr ⟨rfl, rfl⟩)⟩, by simp [intOf]⟩
            exact AllReady.nil
           exact AllReady.nil
          exact AllReady.nil
         exact AllReady.nil
        refine cA (h := fun K hK => ?_) (hs := ?_)
        ·go_simp
         refine hK _ _ ?_
         clear hK K
         try simp only [Act.put, List.setIfInBounds_toArray, List.set_cons_zero, List.set_cons_succ, Array.replicate]
         refine tA (i := 17) (v := ?_) (y := (Or.inl ⟨by rfl, ?_⟩)) (h := ?_)
         rotate_left
         ·intro w; go_simp; try with_reducible rfl
         try simp only [Act.put, List.setIfInBounds_toArray, List.set_cons_zero, List.set_cons_succ, Array.replicate]
         refine rA [9] (h := ?_)
         refine cA (h := fun K hK => ?_) (hs := ?_)
         ·refine step_app_own Try.underlying27 info_byte (by with_unfolding_all rfl) (.tmp 70) (.tmp 76) rfl rfl (Row.new _ _ []) rfl ((OF1.out.sh).below (balloc (Below.refl _ _).drew _)) (by omega) ?_; intro v4 w4 ho4 hb4; have hb14 : Below wr.heap.size wr w4 := bstep (balloc (Below.refl _ _).drew _) hb4; have hyc := bkeep hb14 hh3
          refine hK _ _ ?_
          clear hK K
          try simp only [Act.put, List.setIfInBounds_toArray, List.set_cons_zero, List.set_cons_succ, Array.replicate]
          refine rA [18] (h := ?_)
          refine cA (h := fun K hK => ?_) (hs := ?_)
          ·refine step_app_more Try.underlying27 info_byte (by with_unfolding_all rfl) (.tmp 77) (.tmp 85) rfl rfl ho4 rfl (((OM1.out.sh).take (kq) (by omega)).below hb14) (by have h0 := hfs; rw [List.length_take]; omega) (by exact hb14.size) ?_; intro v5 w5 ho5 hb5; have hb15 : Below wr.heap.size wr w5 := hb14.trans hb5
           refine hK _ _ ?_
           clear hK K
           try simp only [Act.put, List.setIfInBounds_toArray, List.set_cons_zero, List.set_cons_succ, Array.replicate]
           refine rA [20] (h := ?_)
           refine cA (h := fun K hK => ?_) (hs := ?_)
           ·refine step_app_more Try.underlying27 info_byte (by with_unfolding_all rfl) (.tmp 86) (.tmp 87) rfl rfl ho5 rfl (HSB.out _ (HU.out.trans (Upd.of_below hb15))) (by have h0 := hfs; rw [List.length_append, List.length_take]; omega) (by exact hb15.size) ?_; intro v6 w6 ho6 hb6; have hb16 : Below wr.heap.size wr w6 := hb15.trans hb6
            refine hK _ _ ?_
            clear hK K
            try simp only [Act.put, List.setIfInBounds_toArray, List.set_cons_zero, List.set_cons_succ, Array.replicate]
            refine rA [21] (h := ?_)
            refine cA (h := fun K hK => ?_) (hs := ?_)
            ·go_simp; go_at_call 53; refine (fast_any q 1 (by omega) v6 _ _ R _ (HRR.out.below hb16) ho6).mono ?_; rintro e w7 ⟨rfl, hr7, hu7⟩; try go_simp
             refine hK _ _ ?_
             clear hK K
             try simp only [Act.put, List.setIfInBounds_toArray, List.set_cons_zero, List.set_cons_succ, Array.replicate]
             refine wpAny_done (by kernel_rfl) ?_ _
             go_wp2_with fail
             exact ⟨⟨_, (HU.out.trans (Upd.of_below hb16)).trans hu7, hr7, .inr (.inr ⟨rfl, rfl⟩)⟩, by simp [intOf]⟩
            exact AllReady.nil
           exact AllReady.nil
          exact AllReady.nil
         exact AllReady.nil
        exact AllReady.nil
       refine cA (h := fun K hK => ?_) (hs := ?_)
       ·go_simp
        refine hK _ _ ?_
        clear hK K
        try simp only [Act.put, List.setIfInBounds_toArray, List.set_cons_zero, List.set_cons_succ, Array.replicate]
        refine tA (i := 17) (v := ?_) (y := (Or.inl ⟨by rfl, ?_⟩)) (h := ?_)
        rotate_left
        ·intro w; go_simp; try with_reducible rfl
        try simp only [Act.put, List.setIfInBounds_toArray, List.set_cons_zero, List.set_cons_succ, Array.replicate]
        refine rA [8] (h := ?_)
        refine cA (h := fun K hK => ?_) (hs := ?_)
        ·go_simp
         refine hK _ _ ?_
         clear hK K
         try simp only [Act.put, List.setIfInBounds_toArray, List.set_cons_zero, List.set_cons_succ, Array.replicate]
         refine rA [9] (h := ?_)
         refine cA (h := fun K hK => ?_) (hs := ?_)
         ·refine step_app_own Try.underlying27 info_byte (by with_unfolding_all rfl) (.tmp 70) (.tmp 76) rfl rfl (Row.new _ _ []) rfl ((OF1.out.sh).below (balloc (Below.refl _ _).drew _)) (by omega) ?_; intro v4 w4 ho4 hb4; have hb14 : Below wr.heap.size wr w4 := bstep (balloc (Below.refl _ _).drew _) hb4; have hyc := bkeep hb14 hh3
          refine hK _ _ ?_
          clear hK K
          try simp only [Act.put, List.setIfInBounds_toArray, List.set_cons_zero, List.set_cons_succ, Array.replicate]
          refine rA [18] (h := ?_)
          refine cA (h := fun K hK => ?_) (hs := ?_)
          ·refine step_app_more Try.underlying27 info_byte (by with_unfolding_all rfl) (.tmp 77) (.tmp 85) rfl rfl ho4 rfl (((OM1.out.sh).take (kq) (by omega)).below hb14) (by have h0 := hfs; rw [List.length_take]; omega) (by exact hb14.size) ?_; intro v5 w5 ho5 hb5; have hb15 : Below wr.heap.size wr w5 := hb14.trans hb5
           refine hK _ _ ?_
           clear hK K
           try simp only [Act.put, List.setIfInBounds_toArray, List.set_cons_zero, List.set_cons_succ, Array.replicate]
           refine rA [20] (h := ?_)
           refine cA (h := fun K hK => ?_) (hs := ?_)
           ·refine step_app_more Try.underlying27 info_byte (by with_unfolding_all rfl) (.tmp 86) (.tmp 87) rfl rfl ho5 rfl (HSB.out _ (HU.out.trans (Upd.of_below hb15))) (by have h0 := hfs; rw [List.length_append, List.length_take]; omega) (by exact hb15.size) ?_; intro v6 w6 ho6 hb6; have hb16 : Below wr.heap.size wr w6 := hb15.trans hb6
            refine hK _ _ ?_
            clear hK K
            try simp only [Act.put, List.setIfInBounds_toArray, List.set_cons_zero, List.set_cons_succ, Array.replicate]
            refine rA [21] (h := ?_)
            refine cA (h := fun K hK => ?_) (hs := ?_)
            ·go_simp; go_at_call 53; refine (fast_any q 1 (by omega) v6 _ _ R _ (HRR.out.below hb16) ho6).mono ?_; rintro e w7 ⟨rfl, hr7, hu7⟩; try go_simp
             refine hK _ _ ?_
             clear hK K
             try simp only [Act.put, List.setIfInBounds_toArray, List.set_cons_zero, List.set_cons_succ, Array.replicate]
             refine wpAny_done (by kernel_rfl) ?_ _
             go_wp2_with fail
             exact ⟨⟨_, (HU.out.trans (Upd.of_below hb16)).trans hu7, hr7, .inr (.inr ⟨rfl, rfl⟩)⟩, by simp [intOf]⟩
            exact AllReady.nil
           exact AllReady.nil
          exact AllReady.nil
         exact AllReady.nil
        exact AllReady.nil
       exact AllReady.nil
      refine cA (h := fun K hK => ?_) (hs := ?_)
      ·go_simp
       refine hK _ _ ?_
       clear hK K
       try simp only [Act.put, List.setIfInBounds_toArray, List.set_cons_zero, List.set_cons_succ, Array.replicate]
       refine rA [2, 15] (h := ?_)
       refine cA (h := fun K hK => ?_) (hs := ?_)
       ·go_simp
        refine hK _ _ ?_
        clear hK K
        try simp only [Act.put, List.setIfInBounds_toArray, List.set_cons_zero, List.set_cons_succ, Array.replicate]
        refine rA [9, 15] (h := ?_)
        refine cA (h := fun K hK => ?_) (hs := ?_)
        ·refine step_app_own Try.underlying27 info_byte (by with_unfolding_all rfl) (.tmp 70) (.tmp 76) rfl rfl (Row.new _ _ []) rfl ((OF1.out.sh).below (balloc (Below.refl _ _).drew _)) (by omega) ?_; intro v4 w4 ho4 hb4; have hb14 : Below wr.heap.size wr w4 := bstep (balloc (Below.refl _ _).drew _) hb4; have hyc := bkeep hb14 hh3
         refine hK _ _ ?_
         clear hK K
         try simp only [Act.put, List.setIfInBounds_toArray, List.set_cons_zero, List.set_cons_succ, Array.replicate]
         refine rA [15] (h := ?_)
         refine cA (h := fun K hK => ?_) (hs := ?_)
         ·go_simp
          refine hK _ _ ?_
          clear hK K
          try simp only [Act.put, List.setIfInBounds_toArray, List.set_cons_zero, List.set_cons_succ, Array.replicate]
          refine tA (i := 17) (v := ?_) (y := (Or.inl ⟨by rfl, ?_⟩)) (h := ?_)
          rotate_left
          ·intro w; go_simp; try with_reducible rfl
          try simp only [Act.put, List.setIfInBounds_toArray, List.set_cons_zero, List.set_cons_succ, Array.replicate]
          refine rA [18] (h := ?_)
          refine cA (h := fun K hK => ?_) (hs := ?_)
          ·refine step_app_more Try.underlying27 info_byte (by with_unfolding_all rfl) (.tmp 77) (.tmp 85) rfl rfl ho4 rfl (((OM1.out.sh).take (kq) (by omega)).below hb14) (by have h0 := hfs; rw [List.length_take]; omega) (by exact hb14.size) ?_; intro v5 w5 ho5 hb5; have hb15 : Below wr.heap.size wr w5 := hb14.trans hb5
           refine hK _ _ ?_
           clear hK K
           try simp only [Act.put, List.setIfInBounds_toArray, List.set_cons_zero, List.set_cons_succ, Array.replicate]
           refine rA [20] (h := ?_)
           refine cA (h := fun K hK => ?_) (hs := ?_)
           ·refine step_app_more Try.underlying27 info_byte (by with_unfolding_all rfl) (.tmp 86) (.tmp 87) rfl rfl ho5 rfl (HSB.out _ (HU.out.trans (Upd.of_below hb15))) (by have h0 := hfs; rw [List.length_append, List.length_take]; omega) (by exact hb15.size) ?_; intro v6 w6 ho6 hb6; have hb16 : Below wr.heap.size wr w6 := hb15.trans hb6
            refine hK _ _ ?_
            clear hK K
            try simp only [Act.put, List.setIfInBounds_toArray, List.set_cons_zero, List.set_cons_succ, Array.replicate]
            refine rA [21] (h := ?_)
            refine cA (h := fun K hK => ?_) (hs := ?_)
            ·go_simp; go_at_call 53; refine (fast_any q 1 (by omega) v6 _ _ R _ (HRR.out.below hb16) ho6).mono ?_; rintro e w7 ⟨rfl, hr7, hu7⟩; try go_simp
             refine hK _ _ ?_
             clear hK K
             try simp only [Act.put, List.setIfInBounds_toArray, List.set_cons_zero, List.set_cons_succ, Array.replicate]
             refine wpAny_done (by kernel_rfl) ?_ _
             go_wp2_with fail
             exact ⟨⟨_, (HU.out.trans (Upd.of_below hb16)).trans hu7, hr7, .inr (.inr ⟨rfl, rfl⟩)⟩, by simp [intOf]⟩
            exact AllReady.nil
           exact AllReady.nil
          exact AllReady.nil
         exact AllReady.nil
        refine cA (h := fun K hK => ?_) (hs := ?_)
        ·go_simp
         refine hK _ _ ?_
         clear hK K
         try simp only [Act.put, List.setIfInBounds_toArray, List.set_cons_zero, List.set_cons_succ, Array.replicate]
         refine tA (i := 17) (v := ?_) (y := (Or.inl ⟨by rfl, ?_⟩)) (h := ?_)
         rotate_left
         ·intro w; go_simp; try with_reducible rfl
         try simp only [Act.put, List.setIfInBounds_toArray, List.set_cons_zero, List.set_cons_succ, Array.replicate]
         refine rA [9] (h := ?_)
         refine cA (h := fun K hK => ?_) (hs := ?_)
         ·refine step_app_own Try.underlying27 info_byte (by with_unfolding_all rfl) (.tmp 70) (.tmp 76) rfl rfl (Row.new _ _ []) rfl ((OF1.out.sh).below (balloc (Below.refl _ _).drew _)) (by omega) ?_; intro v4 w4 ho4 hb4; have hb14 : Below wr.heap.size wr w4 := bstep (balloc (Below.refl _ _).drew _) hb4; have hyc := bkeep hb14 hh3
          refine hK _ _ ?_
          clear hK K
          try simp only [Act.put, List.setIfInBounds_toArray, List.set_cons_zero, List.set_cons_succ, Array.replicate]
          refine rA [18] (h := ?_)
          refine cA (h := fun K hK => ?_) (hs := ?_)
          ·refine step_app_more Try.underlying27 info_byte (by with_unfolding_all rfl) (.tmp 77) (.tmp 85) rfl rfl ho4 rfl (((OM1.out.sh).take (kq) (by omega)).below hb14) (by have h0 := hfs; rw [List.length_take]; omega) (by exact hb14.size) ?_; intro v5 w5 ho5 hb5; have hb15 : Below wr.heap.size wr w5 := hb14.trans hb5
           refine hK _ _ ?_
           clear hK K
           try simp only [Act.put, List.setIfInBounds_toArray, List.set_cons_zero, List.set_cons_succ, Array.replicate]
           refine rA [20] (h := ?_)
           refine cA (h := fun K hK => ?_) (hs := ?_)
           ·refine step_app_more Try.underlying27 info_byte (by with_unfolding_all rfl) (.tmp 86) (.tmp 87) rfl rfl ho5 rfl (HSB.out _ (HU.out.trans (Upd.of_below hb15))) (by have h0 := hfs; rw [List.length_append, List.length_take]; omega) (by exact hb15.size) ?_; intro v6 w6 ho6 hb6; have hb16 : Below wr.heap.size wr w6 := hb15.trans hb6
            refine hK _ _ ?_
            clear hK K
            try simp only [Act.put, List.setIfInBounds_toArray, List.set_cons_zero, List.set_cons_succ, Array.replicate]
            refine rA [21] (h := ?_)
            refine cA (h := fun K hK => ?_) (hs := ?_)
            ·go_simp; go_at_call 53; refine (fast_any q 1 (by omega) v6 _ _ R _ (HRR.out.below hb16) ho6).mono ?_; rintro e w7 ⟨rfl, hr7, hu7⟩; try go_simp
             refine hK _ _ ?_
             clear hK K
             try simp only [Act.put, List.setIfInBounds_toArray, List.set_cons_zero, List.set_cons_succ, Array.replicate]
             refine wpAny_done (by kernel_rfl) ?_ _
             go_wp2_with fail
             exact ⟨⟨_, (HU.out.trans (Upd.of_below hb16)).trans hu7, hr7, .inr (.inr ⟨rfl, rfl⟩)⟩, by simp [intOf]⟩
            exact AllReady.nil
           exact AllReady.nil
          exact AllReady.nil
         exact AllReady.nil
        exact AllReady.nil
       refine cA (h := fun K hK => ?_) (hs := ?_)
       ·go_simp
        refine hK _ _ ?_
        clear hK K
        try simp only [Act.put, List.setIfInBounds_toArray, List.set_cons_zero, List.set_cons_succ, Array.replicate]
        refine tA (i := 17) (v := ?_) (y := (Or.inl ⟨by rfl, ?_⟩)) (h := ?_)
        rotate_left
        ·intro w; go_simp; try with_reducible rfl
        try simp only [Act.put, List.setIfInBounds_toArray, List.set_cons_zero, List.set_cons_succ, Array.replicate]
        refine rA [2] (h := ?_)
        refine cA (h := fun K hK => ?_) (hs := ?_)
        ·go_simp
         refine hK _ _ ?_
         clear hK K
         try simp only [Act.put, List.setIfInBounds_toArray, List.set_cons_zero, List.set_cons_succ, Array.replicate]
         refine rA [9] (h := ?_)
         refine cA (h := fun K hK => ?_) (hs := ?_)
         ·refine step_app_own Try.underlying27 info_byte (by with_unfolding_all rfl) (.tmp 70) (.tmp 76) rfl rfl (Row.new _ _ []) rfl ((OF1.out.sh).below (balloc (Below.refl _ _).drew _)) (by omega) ?_; intro v4 w4 ho4 hb4; have hb14 : Below wr.heap.size wr w4 := bstep (balloc (Below.refl _ _).drew _) hb4; have hyc := bkeep hb14 hh3
          refine hK _ _ ?_
          clear hK K
          try simp only [Act.put, List.setIfInBounds_toArray, List.set_cons_zero, List.set_cons_succ, Array.replicate]
          refine rA [18] (h := ?_)
          refine cA (h := fun K hK => ?_) (hs := ?_)
          ·refine step_app_more Try.underlying27 info_byte (by with_unfolding_all rfl) (.tmp 77) (.tmp 85) rfl rfl ho4 rfl (((OM1.out.sh).take (kq) (by omega)).below hb14) (by have h0 := hfs; rw [List.length_take]; omega) (by exact hb14.size) ?_; intro v5 w5 ho5 hb5; have hb15 : Below wr.heap.size wr w5 := hb14.trans hb5
           refine hK _ _ ?_
           clear hK K
           try simp only [Act.put, List.setIfInBounds_toArray, List.set_cons_zero, List.set_cons_succ, Array.replicate]
           refine rA [20] (h := ?_)
           refine cA (h := fun K hK => ?_) (hs := ?_)
           ·refine step_app_more Try.underlying27 info_byte (by with_unfolding_all rfl) (.tmp 86) (.tmp 87) rfl rfl ho5 rfl (HSB.out _ (HU.out.trans (Upd.of_below hb15))) (by have h0 := hfs; rw [List.length_append, List.length_take]; omega) (by exact hb15.size) ?_; intro v6 w6 ho6 hb6; have hb16 : Below wr.heap.size wr w6 := hb15.trans hb6
            refine hK _ _ ?_
            clear hK K
            try simp only [Act.put, List.setIfInBounds_toArray, List.set_cons_zero, List.set_cons_succ, Array.replicate]
            refine rA [21] (h := ?_)
            refine cA (h := fun K hK => ?_) (hs := ?_)
            ·go_simp; go_at_call 53; refine (fast_any q 1 (by omega) v6 _ _ R _ (HRR.out.below hb16) ho6).mono ?_; rintro e w7 ⟨rfl, hr7, hu7⟩; try go_simp
             refine hK _ _ ?_
             clear hK K
             try simp only [Act.put, List.setIfInBounds_toArray, List.set_cons_zero, List.set_cons_succ, Array.replicate]
             refine wpAny_done (by kernel_rfl) ?_ _
             go_wp2_with fail
             exact ⟨⟨_, (HU.out.trans (Upd.of_below hb16)).trans hu7, hr7, .inr (.inr ⟨rfl, rfl⟩)⟩, by simp [intOf]⟩
            exact AllReady.nil
           exact AllReady.nil
          exact AllReady.nil
         exact AllReady.nil
        exact AllReady.nil
       exact AllReady.nil
      refine cA (h := fun K hK => ?_) (hs := ?_)
      ·go_simp
       refine hK _ _ ?_
       clear hK K
       try simp only [Act.put, List.setIfInBounds_toArray, List.set_cons_zero, List.set_cons_succ, Array.replicate]
       refine tA (i := 17) (v := ?_) (y := (Or.inl ⟨by rfl, ?_⟩)) (h := ?_)
       rotate_left
       ·intro w; go_simp; try with_reducible rfl
       try simp only [Act.put, List.setIfInBounds_toArray, List.set_cons_zero, List.set_cons_succ, Array.replicate]
       refine rA [2, 8] (h := ?_)
       refine cA (h := fun K hK => ?_) (hs := ?_)
       ·go_simp
        refine hK _ _ ?_
        clear hK K
        try simp only [Act.put, List.setIfInBounds_toArray, List.set_cons_zero, List.set_cons_succ, Array.replicate]
        refine rA [8] (h := ?_)
        refine cA (h := fun K hK => ?_) (hs := ?_)
        ·go_simp
         refine hK _ _ ?_
         clear hK K
         try simp only [Act.put, List.setIfInBounds_toArray, List.set_cons_zero, List.set_cons_succ, Array.replicate]
         refine rA [9] (h := ?_)
         refine cA (h := fun K hK => ?_) (hs := ?_)
         ·refine step_app_own Try.underlying27 info_byte (by with_unfolding_all rfl) (.tmp 70) (.tmp 76) rfl rfl (Row.new _ _ []) rfl ((OF1.out.sh).below (balloc (Below.refl _ _).drew _)) (by omega) ?_; intro v4 w4 ho4 hb4; have hb14 : Below wr.heap.size wr w4 := bstep (balloc (Below.refl _ _).drew _) hb4; have hyc := bkeep hb14 hh3
          refine hK _ _ ?_
          clear hK K
          try simp only [Act.put, List.setIfInBounds_toArray, List.set_cons_zero, List.set_cons_succ, Array.replicate]
          refine rA [18] (h := ?_)
          refine cA (h := fun K hK => ?_) (hs := ?_)
          ·refine step_app_more Try.underlying27 info_byte (by with_unfolding_all rfl) (.tmp 77) (.tmp 85) rfl rfl ho4 rfl (((OM1.out.sh).take (kq) (by omega)).below hb14) (by have h0 := hfs; rw [List.length_take]; omega) (by exact hb14.size) ?_; intro v5 w5 ho5 hb5; have hb15 : Below wr.heap.size wr w5 := hb14.trans hb5
           refine hK _ _ ?_
           clear hK K
           try simp only [Act.put, List.setIfInBounds_toArray, List.set_cons_zero, List.set_cons_succ, Array.replicate]
           refine rA [20] (h := ?_)
           refine cA (h := fun K hK => ?_) (hs := ?_)
           ·refine step_app_more Try.underlying27 info_byte (by with_unfolding_all rfl) (.tmp 86) (.tmp 87) rfl rfl ho5 rfl (HSB.out _ (HU.out.trans (Upd.of_below hb15))) (by have h0 := hfs; rw [List.length_append, List.length_take]; omega) (by exact hb15.size) ?_; intro v6 w6 ho6 hb6; have hb16 : Below wr.heap.size wr w6 := hb15.trans hb6
            refine hK _ _ ?_
            clear hK K
            try simp only [Act.put, List.setIfInBounds_toArray, List.set_cons_zero, List.set_cons_succ, Array.replicate]
            refine rA [21] (h := ?_)
            refine cA (h := fun K hK => ?_) (hs := ?_)
            ·go_simp; go_at_call 53; refine (fast_any q 1 (by omega) v6 _ _ R _ (HRR.out.below hb16) ho6).mono ?_; rintro e w7 ⟨rfl, hr7, hu7⟩; try go_simp
             refine hK _ _ ?_
             clear hK K
             try simp only [Act.put, List.setIfInBounds_toArray, List.set_cons_zero, List.set_cons_succ, Array.replicate]
             refine wpAny_done (by kernel_rfl) ?_ _
             go_wp2_with fail
             exact ⟨⟨_, (HU.out.trans (Upd.of_below hb16)).trans hu7, hr7, .inr (.inr ⟨rfl, rfl⟩)⟩, by simp [intOf]⟩
            exact AllReady.nil
           exact AllReady.nil
          exact AllReady.nil
         exact AllReady.nil
        exact AllReady.nil
       refine cA (h := fun K hK => ?_) (hs := ?_)
       ·go_simp
        refine hK _ _ ?_
        clear hK K
        try simp only [Act.put, List.setIfInBounds_toArray, List.set_cons_zero, List.set_cons_succ, Array.replicate]
        refine rA [2] (h := ?_)
        refine cA (h := fun K hK => ?_) (hs := ?_)
        ·go_simp
         refine hK _ _ ?_
         clear hK K
         try simp only [Act.put, List.setIfInBounds_toArray, List.set_cons_zero, List.set_cons_succ, Array.replicate]
         refine rA [9] (h := ?_)
         refine cA (h := fun K hK => ?_) (hs := ?_)
         ·refine step_app_own Try.underlying27 info_byte (by with_unfolding_all rfl) (.tmp 70) (.tmp 76) rfl rfl (Row.new _ _ []) rfl ((OF1.out.sh).below (balloc (Below.refl _ _).drew _)) (by omega) ?_; intro v4 w4 ho4 hb4; have hb14 : Below wr.heap.size wr w4 := bstep (balloc (Below.refl _ _).drew _) hb4; have hyc := bkeep hb14 hh3
          refine hK _ _ ?_
          clear hK K
          try simp only [Act.put, List.setIfInBounds_toArray, List.set_cons_zero, List.set_cons_succ, Array.replicate]
          refine rA [18] (h := ?_)
          refine cA (h := fun K hK => ?_) (hs := ?_)
          ·refine step_app_more Try.underlying27 info_byte (by with_unfolding_all rfl) (.tmp 77) (.tmp 85) rfl rfl ho4 rfl (((OM1.out.sh).take (kq) (by omega)).below hb14) (by have h0 := hfs; rw [List.length_take]; omega) (by exact hb14.size) ?_; intro v5 w5 ho5 hb5; have hb15 : Below wr.heap.size wr w5 := hb14.trans hb5
           refine hK _ _ ?_
           clear hK K
           try simp only [Act.put, List.setIfInBounds_toArray, List.set_cons_zero, List.set_cons_succ, Array.replicate]
           refine rA [20] (h := ?_)
           refine cA (h := fun K hK => ?_) (hs := ?_)
           ·refine step_app_more Try.underlying27 info_byte (by with_unfolding_all rfl) (.tmp 86) (.tmp 87) rfl rfl ho5 rfl (HSB.out _ (HU.out.trans (Upd.of_below hb15))) (by have h0 := hfs; rw [List.length_append, List.length_take]; omega) (by exact hb15.size) ?_; intro v6 w6 ho6 hb6; have hb16 : Below wr.heap.size wr w6 := hb15.trans hb6
            refine hK _ _ ?_
            clear hK K
            try simp only [Act.put, List.setIfInBounds_toArray, List.set_cons_zero, List.set_cons_succ, Array.replicate]
            refine rA [21] (h := ?_)
            refine cA (h := fun K hK => ?_) (hs := ?_)
            ·go_simp; go_at_call 53; refine (fast_any q 1 (by omega) v6 _ _ R _ (HRR.out.below hb16) ho6).mono ?_; rintro e w7 ⟨rfl, hr7, hu7⟩; try go_simp
             refine hK _ _ ?_
             clear hK K
             try simp only [Act.put, List.setIfInBounds_toArray, List.set_cons_zero, List.set_cons_succ, Array.replicate]
             refine wpAny_done (by kernel_rfl) ?_ _
             go_wp2_with fail
             exact ⟨⟨_, (HU.out.trans (Upd.of_below hb16)).trans hu7, hr7, .inr (.inr ⟨rfl, rfl⟩)⟩, by simp [intOf]⟩
            exact AllReady.nil
           exact AllReady.nil
          exact AllReady.nil
         exact AllReady.nil
        exact AllReady.nil
       exact AllReady.nil
      exact AllReady.nil
    ·have hc : R.c1 (kq : Int) tail = R := by unfold RD.c1; rw [if_neg (by rw [hi]; simp), if_neg hml]
     rw [hc]
     clear hc hi
     have hm0 : R.m1.length = 0 := by omega
     rw [hm0] at hh3
     go_wp2_with fail
     exact ⟨⟨_, HU.out, HRR.out, .inr (.inr ⟨rfl, rfl⟩)⟩, by simp [intOf]⟩
  ·rw [hRR] at hr
   clear hRR
   go_wp2_with fail
   go_end0
   exact ⟨rfl, hr, hu⟩
theorem refCrash_any (q : Nat) (keep : Int) (vb : Value) (tail : List UInt8) (R0 : RD) (TT : Nat) (w : World) (hR0 : Rdk w q R0) (hsb : ∀ w', Upd q w w' → Sh w' vb tail) (hbd0 : Bd R0 TT) (hTT : TT + tail.length ≤ 10000000000) :
  Calls Try.prog 36 #[.pointer (some ⟨q, 0, none⟩), .int .i64 keep, vb] w fun e w' => e = .returned (.tuple #[]) ∧ Rdk w' q (R0.crash keep tail) ∧ Upd q w w' := by
 by_cases h0 : keep < 0
 ·exact refCrash_n q keep h0 vb tail R0 TT w hR0 hsb hbd0 hTT
 ·by_cases h1 : keep = 0
  ·subst h1; exact refCrash_z q 0 rfl vb tail R0 TT w hR0 hsb hbd0 hTT
  ·obtain ⟨kq, rfl⟩ : ∃ kq : Nat, keep = (kq : Int) := ⟨keep.toNat, by omega⟩
   exact refCrash_p q kq (by omega) vb tail R0 TT w hR0 hsb hbd0 hTT
end Go.Proofs.Ytkghkpkiodghiaa
