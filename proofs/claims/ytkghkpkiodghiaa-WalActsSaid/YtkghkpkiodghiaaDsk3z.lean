/- The disk: Crash. (printed by gen/dsk3.py) -/
import Derived.Test.YtkghkpkiodghiaaTk
import Derived.Test.YtkghkpkiodghiaaDsk3
namespace Go.Proofs.Ytkghkpkiodghiaa
set_option linter.unusedVariables false
set_option linter.unusedSimpArgs false
set_option linter.unnecessarySimpa false
open Go.RowKit
set_option maxRecDepth 100000
set_option maxHeartbeats 4000000

theorem Crash_z (p : Nat) (keep : Int) (hk : keep = 0) (vb : Value) (tail : List UInt8) (S : PD) (w : World) (hS : Dsk w p S) (hsb : ∀ w', Upd p w w' → Sh w' vb tail) (ht : S.f0.length + S.n0.length + S.f1.length + S.n1.length ≤ 100000000000) (hct : (S.r0 = false ∧ S.f0.length < S.n0.length) ∨ (S.r1 = false ∧ S.f1.length < S.n1.length) → tail.length ≤ 100000000000) :
  Calls Try.prog 21 #[.pointer (some ⟨p, 0, none⟩), .int .i64 0, vb] w fun e w' => e = .returned (.tuple #[]) ∧ Dsk w' p (S.crash 0 tail) ∧ Upd p w w' := by
 obtain ⟨xa, ka, xb, kb, xc, kc, xd, kd, hR, oa, ob, oc, od⟩ := hS
 obtain ⟨f0, n0, r0, f1, n1, r1, lim, left, dead⟩ := S
 simp only at hR oa ob oc od ht hct
 have h7 := Row.cell hR 7
 have h8 := Row.cell hR 8
 have hf7 := Row.frozen hR 7
 have hf8 := Row.frozen hR 8
 simp only [DskC, List.getElem?_cons_succ, List.getElem?_cons_zero] at h7 h8
 have hs8 := dset8 hR false
 have hs7 := dset7 hs8.1 (-1)
 have hu := hs8.2.trans hs7.2
 have hD : Dsk ((w.setCell ⟨p, 8, none⟩ (.bool false)).setCell ⟨p, 7, none⟩ (.int .i64 (-1))) p ⟨f0, n0, r0, f1, n1, r1, lim, -1, false⟩ :=
  ⟨xa, ka, xb, kb, xc, kc, xd, kd, hs7.1, dkeep oa hR hu, dkeep ob hR hu, dkeep oc hR hu, dkeep od hR hu⟩
 obtain ⟨xv, kv, rfl, -⟩ := (hsb w (Upd.refl _ _)).open
 have HSB := Lib.hid hsb
 have HCT := Lib.hid hct
 clear hct
 have HU0 := Lib.hid hu
 have HD := Lib.hid hD
 obtain ⟨c0, hc0⟩ : ∃ c0, crashF f0 n0 r0 0 tail = c0 := ⟨_, rfl⟩
 obtain ⟨c1, hc1⟩ : ∃ c1, crashF f1 n1 r1 0 tail = c1 := ⟨_, rfl⟩
 have e0 : (PD.mk f0 n0 r0 f1 n1 r1 lim left dead).crash 0 tail = ⟨c0, c0, false, c1, c1, false, lim, -1, false⟩ := by rw [← hc0, ← hc1]; rfl
 rw [e0]
 have HC0 := Lib.hid hc0
 have HC1 := Lib.hid hc1
 have hcl0 := crashF_len f0 n0 r0 0 tail
 have hcl1 := crashF_len f1 n1 r1 0 tail
 rw [hc0] at hcl0
 rw [hc1] at hcl1
 clear e0 hc0 hc1 hsb hR oa ob oc od hs8 hs7 hu hD
 go_enter Try.func21, Try.ntmps21
 go_wp2_with fail
 clear h7 h8 hf7 hf8
 go_loopw [17] (fun i wr => ∃ S', Upd p w wr ∧ Dsk wr p S' ∧ ((i = .int .i64 0 ∧ S' = ⟨f0, n0, r0, f1, n1, r1, lim, -1, false⟩) ∨ (i = .int .i64 1 ∧ S' = ⟨c0, c0, false, f1, n1, r1, lim, -1, false⟩) ∨ (i = .int .i64 2 ∧ S' = ⟨c0, c0, false, c1, c1, false, lim, -1, false⟩))) (fun i _ => 2 - (intOf i).toNat)
 case atStart => exact ⟨_, HU0.out, HD.out, .inl ⟨rfl, rfl⟩⟩
 case round =>
  obtain ⟨S', hu, hS, ⟨rfl, rfl⟩ | ⟨rfl, rfl⟩ | ⟨rfl, rfl⟩⟩ := hrel
  ·obtain ⟨xa, ka, xb, kb, xc, kc, xd, kd, hR, oa, ob, oc, od⟩ := hS
   simp only at hR oa ob oc od
   have hh0 := Row.cell hR 0
   have hh1 := Row.cell hR 1
   have hh2 := Row.cell hR 2
   have hf0 := Row.frozen hR 0
   have hf1 := Row.frozen hR 1
   have hf2 := Row.frozen hR 2
   simp only [DskC, List.getElem?_cons_succ, List.getElem?_cons_zero] at hh0 hh1 hh2
   have HR := Lib.hid hR
   have OA := Lib.hid oa
   have OB := Lib.hid ob
   have OC := Lib.hid oc
   have OD := Lib.hid od
   have HU := Lib.hid hu
   obtain ⟨qn1, qn2⟩ := dcap ob
   clear hR oa ob oc od hu
   have hwm : IntKind.i64.wrap ((n0.length : Int) - (f0.length : Int)) = (n0.length : Int) - (f0.length : Int) := IntWalk.i64_in _ ⟨by omega, by omega⟩
   go_wp2_with fail
   go_quiet (fail)
   have hrq := Row.drewN HR.out nq
   have hbq : Below wr.heap.size wr (wr.drewN nq) := drewN_below wr nq
   have hh0' := bkeep hbq hh0
   have hh1' := bkeep hbq hh1
   have hh2' := bkeep hbq hh2
   have hf0' := Row.frozen hrq 0
   have hf1' := Row.frozen hrq 1
   have hf2' := Row.frozen hrq 2
   have HRQ := Lib.hid hrq
   have huq : Upd p wr (wr.drewN nq) := Upd.of_below hbq
   have HUQ := Lib.hid huq
   clear hrq hbq huq hh0 hh1 hh2 hf0 hf1 hf2 hwm
   generalize wr.drewN nq = wq at *
   cases r0 with
   | true =>
    have hce : c0 = f0 := by rw [← HC0.out]; unfold crashF; exact if_pos ⟨rfl, by omega⟩
    go_wp2_with fail
    have hs3 := dset1 HRQ.out (.slice xa f0.length ka)
    have hs4 := dset0 hs3.1 (.slice xa f0.length ka)
    have hs5 := (dset2 hs4.1 false).1
    have hu45 := hs4.2.trans (dset2 hs4.1 false).2
    have hu4 := HUQ.out.trans (hs3.2.trans hu45)
    subst hce
    refine ⟨⟨_, HU.out.trans hu4, ⟨xa, ka, xa, ka, xc, kc, xd, kd, hs5, dkeep OA.out HR.out hu4, dkeep OA.out HR.out hu4, dkeep OC.out HR.out hu4, dkeep OD.out HR.out hu4⟩, .inr (.inl ⟨rfl, rfl⟩)⟩, by simp [intOf]⟩
   | false =>
    by_cases hlt : f0.length < n0.length
    ·have htl : tail.length ≤ 100000000000 := HCT.out (.inl ⟨rfl, hlt⟩)
     have hce : c0 = n0.take (f0.length) ++ tail := by rw [← HC0.out]; unfold crashF; rw [if_neg (by simp), if_pos ⟨rfl, hlt⟩]; congr 2 <;> omega
     have hltI : (n0.length : Int) - (f0.length : Int) > 0 := by omega
     go_upto_region 10 with fail
     have hneg : ¬ ((n0.length : Int) - (f0.length : Int) < 0) := by omega
     have hwf : IntKind.i64.wrap (f0.length : Int) = (f0.length : Int) := IntWalk.i64_in _ ⟨by omega, by omega⟩
     have hcap : (f0.length : Int) ≤ (kb : Int) := by omega
     refine wp_region_any (by kernel_rfl) ?_
     try (change wpAny _ _ _ _ _ _ _ (World.drew _))
     refine tA (i := 0) (v := ?_) (y := (Or.inl ⟨by rfl, ?_⟩)) (h := ?_)
     rotate_left
     ·intro w; go_simp; try with_reducible rfl
     try simp only [Act.put, List.setIfInBounds_toArray, List.set_cons_zero, List.set_cons_succ, Array.replicate]
     refine tA (i := 1) (v := ?_) (y := (Or.inl ⟨by rfl, ?_⟩)) (h := ?_)
     rotate_left
     ·intro w; go_simp; try with_reducible rfl
     try simp only [Act.put, List.setIfInBounds_toArray, List.set_cons_zero, List.set_cons_succ, Array.replicate]
     refine tA (i := 2) (v := ?_) (y := (Or.inl ⟨by rfl, ?_⟩)) (h := ?_)
     rotate_left
     ·intro w; go_simp; try with_reducible rfl
     try simp only [Act.put, List.setIfInBounds_toArray, List.set_cons_zero, List.set_cons_succ, Array.replicate]
     refine tA (i := 3) (v := ?_) (y := (Or.inl ⟨by rfl, ?_⟩)) (h := ?_)
     rotate_left
     ·intro w; go_simp; try with_reducible rfl
     try simp only [Act.put, List.setIfInBounds_toArray, List.set_cons_zero, List.set_cons_succ, Array.replicate]
     refine tA (i := 5) (v := ?_) (y := (Or.inl ⟨by rfl, ?_⟩)) (h := ?_)
     rotate_left
     ·intro w; go_simp; try with_reducible rfl
     try simp only [Act.put, List.setIfInBounds_toArray, List.set_cons_zero, List.set_cons_succ, Array.replicate]
     refine tA (i := 6) (v := ?_) (y := (Or.inl ⟨by rfl, ?_⟩)) (h := ?_)
     rotate_left
     ·intro w; go_simp; try with_reducible rfl
     try simp only [Act.put, List.setIfInBounds_toArray, List.set_cons_zero, List.set_cons_succ, Array.replicate]
     refine tA (i := 7) (v := ?_) (y := (Or.inl ⟨by rfl, ?_⟩)) (h := ?_)
     rotate_left
     ·intro w; go_simp; try with_reducible rfl
     try simp only [Act.put, List.setIfInBounds_toArray, List.set_cons_zero, List.set_cons_succ, Array.replicate]
     refine tA (i := 10) (v := ?_) (y := (Or.inl ⟨by rfl, ?_⟩)) (h := ?_)
     rotate_left
     ·intro w; go_simp; try with_reducible rfl
     try simp only [Act.put, List.setIfInBounds_toArray, List.set_cons_zero, List.set_cons_succ, Array.replicate]
     refine tA (i := 11) (v := ?_) (y := (Or.inl ⟨by rfl, ?_⟩)) (h := ?_)
     rotate_left
     ·intro w; go_simp; try with_reducible rfl
     try simp only [Act.put, List.setIfInBounds_toArray, List.set_cons_zero, List.set_cons_succ, Array.replicate]
     refine tA (i := 12) (v := ?_) (y := (Or.inl ⟨by rfl, ?_⟩)) (h := ?_)
     rotate_left
     ·intro w; go_simp; try with_reducible rfl
     try simp only [Act.put, List.setIfInBounds_toArray, List.set_cons_zero, List.set_cons_succ, Array.replicate]
     refine tA (i := 15) (v := ?_) (y := (Or.inl ⟨by rfl, ?_⟩)) (h := ?_)
     rotate_left
     ·intro w; go_simp; try with_reducible rfl
     try simp only [Act.put, List.setIfInBounds_toArray, List.set_cons_zero, List.set_cons_succ, Array.replicate]
     refine rA [4, 8] (h := ?_)
     refine cA (h := fun K hK => ?_) (hs := ?_)
     ·go_simp
      refine hK _ _ ?_
      clear hK K
      try simp only [Act.put, List.setIfInBounds_toArray, List.set_cons_zero, List.set_cons_succ, Array.replicate]
      refine rA [8] (h := ?_)
      refine cA (h := fun K hK => ?_) (hs := ?_)
      ·go_simp
       refine hK _ _ ?_
       clear hK K
       try simp only [Act.put, List.setIfInBounds_toArray, List.set_cons_zero, List.set_cons_succ, Array.replicate]
       refine tA (i := 9) (v := ?_) (y := (Or.inl ⟨by rfl, ?_⟩)) (h := ?_)
       rotate_left
       ·intro w; go_simp; try with_reducible rfl
       try simp only [Act.put, List.setIfInBounds_toArray, List.set_cons_zero, List.set_cons_succ, Array.replicate]
       refine tA (i := 13) (v := ?_) (y := (Or.inl ⟨by rfl, ?_⟩)) (h := ?_)
       rotate_left
       ·intro w; go_simp; try with_reducible rfl
       try simp only [Act.put, List.setIfInBounds_toArray, List.set_cons_zero, List.set_cons_succ, Array.replicate]
       refine tA (i := 14) (v := ?_) (y := (Or.inl ⟨by rfl, ?_⟩)) (h := ?_)
       rotate_left
       ·intro w; go_simp; try with_reducible rfl
       try simp only [Act.put, List.setIfInBounds_toArray, List.set_cons_zero, List.set_cons_succ, Array.replicate]
       refine rA [16] (h := ?_)
       refine cA (h := fun K hK => ?_) (hs := ?_)
       ·go_simp
        refine hK _ _ ?_
        clear hK K
        try simp only [Act.put, List.setIfInBounds_toArray, List.set_cons_zero, List.set_cons_succ, Array.replicate]
        refine rA [17] (h := ?_)
        refine cA (h := fun K hK => ?_) (hs := ?_)
        ·go_simp; go_at_call 39; refine (concat_any _ [n0.take (f0.length), tail] _ (bss2 _ _ _ _ _ (((dkeep OB.out HR.out HUQ.out).sh.take (f0.length) (by omega)).at' (by exact (balloc (Below.refl _ _).drew _)) (Nat.le_refl _)) (HSB.out _ (HU.out.trans (HUQ.out.trans (Upd.of_below (balloc (Below.refl _ _).drew _)))))) (by simp) (by simp; omega)).mono ?_; rintro e w3 ⟨v3, rfl, ho3, hb3⟩; obtain ⟨x3, k3, rfl, -⟩ := ho3.sh.open; have hb13 : Below wq.heap.size wq w3 := bstep (balloc (Below.refl _ _).drew _) hb3; have hr3 := Row.keep HRQ.out hb13; have hf3 := Row.frozen hr3 1; have hc3 := Row.cell hr3 1; simp only [DskC, List.getElem?_cons_succ, List.getElem?_cons_zero] at hc3; try go_simp
         refine hK _ _ ?_
         clear hK K
         try simp only [Act.put, List.setIfInBounds_toArray, List.set_cons_zero, List.set_cons_succ, Array.replicate]
         refine tA (i := 18) (v := ?_) (y := (Or.inl ⟨by rfl, ?_⟩)) (h := ?_)
         rotate_left
         ·intro w; go_simp; try with_reducible rfl
         try simp only [Act.put, List.setIfInBounds_toArray, List.set_cons_zero, List.set_cons_succ, Array.replicate]
         refine tA (i := 19) (v := ?_) (y := (Or.inl ⟨by rfl, ?_⟩)) (h := ?_)
         rotate_left
         ·intro w; go_simp; try with_reducible rfl
         try simp only [Act.put, List.setIfInBounds_toArray, List.set_cons_zero, List.set_cons_succ, Array.replicate]
         refine rA [20] (h := ?_)
         refine cA (h := fun K hK => ?_) (hs := ?_)
         ·go_simp
          refine hK _ _ ?_
          clear hK K
          try simp only [Act.put, List.setIfInBounds_toArray, List.set_cons_zero, List.set_cons_succ, Array.replicate]
          refine wpAny_done (by kernel_rfl) ?_ _
          have hL : [n0.take (f0.length), tail].flatten = c0 := by rw [hce]; simp
          have hLn : min (f0.length) n0.length + tail.length = c0.length := by rw [hce, List.length_append, List.length_take]
          rw [hL] at ho3
          have hg0 := Row.frozen hr3 0
          have hg2 := Row.frozen hr3 2
          have hd0 := Row.cell hr3 0
          have hd2 := Row.cell hr3 2
          simp only [DskC, List.getElem?_cons_succ, List.getElem?_cons_zero] at hd0 hd2
          have HR3 := Lib.hid hr3
          have HO3 := Lib.hid ho3
          have HB13 := Lib.hid hb13
          have HLn := Lib.hid hLn
          have HCE := Lib.hid hce
          clear hr3 ho3 hb3 hL hLn hce hb13
          go_wp2_with fail
          try rw [HLn.out]
          have hs3 := dset1 HR3.out (.slice x3 c0.length k3)
          have hs4 := dset0 hs3.1 (.slice x3 c0.length k3)
          have hs5 := (dset2 hs4.1 false).1
          have hu45 := hs4.2.trans (dset2 hs4.1 false).2
          have hu4 := (HUQ.out.trans (Upd.of_below HB13.out)).trans (hs3.2.trans hu45)
          have hon := dkeep HO3.out HR3.out (hs3.2.trans hu45)
          refine ⟨⟨_, HU.out.trans hu4, ⟨x3, k3, x3, k3, xc, kc, xd, kd, hs5, hon, hon, dkeep OC.out HR.out hu4, dkeep OD.out HR.out hu4⟩, .inr (.inl ⟨rfl, rfl⟩)⟩, by simp [intOf]⟩
         exact AllReady.nil
        exact AllReady.nil
       exact AllReady.nil
      exact AllReady.nil
     refine cA (h := fun K hK => ?_) (hs := ?_)
     ·go_simp
      refine hK _ _ ?_
      clear hK K
      try simp only [Act.put, List.setIfInBounds_toArray, List.set_cons_zero, List.set_cons_succ, Array.replicate]
      refine tA (i := 9) (v := ?_) (y := (Or.inl ⟨by rfl, ?_⟩)) (h := ?_)
      rotate_left
      ·intro w; go_simp; try with_reducible rfl
      try simp only [Act.put, List.setIfInBounds_toArray, List.set_cons_zero, List.set_cons_succ, Array.replicate]
      refine tA (i := 13) (v := ?_) (y := (Or.inl ⟨by rfl, ?_⟩)) (h := ?_)
      rotate_left
      ·intro w; go_simp; try with_reducible rfl
      try simp only [Act.put, List.setIfInBounds_toArray, List.set_cons_zero, List.set_cons_succ, Array.replicate]
      refine rA [4] (h := ?_)
      refine cA (h := fun K hK => ?_) (hs := ?_)
      ·go_simp
       refine hK _ _ ?_
       clear hK K
       try simp only [Act.put, List.setIfInBounds_toArray, List.set_cons_zero, List.set_cons_succ, Array.replicate]
       refine tA (i := 14) (v := ?_) (y := (Or.inl ⟨by rfl, ?_⟩)) (h := ?_)
       rotate_left
       ·intro w; go_simp; try with_reducible rfl
       try simp only [Act.put, List.setIfInBounds_toArray, List.set_cons_zero, List.set_cons_succ, Array.replicate]
       refine rA [16] (h := ?_)
       refine cA (h := fun K hK => ?_) (hs := ?_)
       ·go_simp
        refine hK _ _ ?_
        clear hK K
        try simp only [Act.put, List.setIfInBounds_toArray, List.set_cons_zero, List.set_cons_succ, Array.replicate]
        refine rA [17] (h := ?_)
        refine cA (h := fun K hK => ?_) (hs := ?_)
        ·go_simp; go_at_call 39; refine (concat_any _ [n0.take (f0.length), tail] _ (bss2 _ _ _ _ _ (((dkeep OB.out HR.out HUQ.out).sh.take (f0.length) (by omega)).at' (by exact (balloc (Below.refl _ _).drew _)) (Nat.le_refl _)) (HSB.out _ (HU.out.trans (HUQ.out.trans (Upd.of_below (balloc (Below.refl _ _).drew _)))))) (by simp) (by simp; omega)).mono ?_; rintro e w3 ⟨v3, rfl, ho3, hb3⟩; obtain ⟨x3, k3, rfl, -⟩ := ho3.sh.open; have hb13 : Below wq.heap.size wq w3 := bstep (balloc (Below.refl _ _).drew _) hb3; have hr3 := Row.keep HRQ.out hb13; have hf3 := Row.frozen hr3 1; have hc3 := Row.cell hr3 1; simp only [DskC, List.getElem?_cons_succ, List.getElem?_cons_zero] at hc3; try go_simp
         refine hK _ _ ?_
         clear hK K
         try simp only [Act.put, List.setIfInBounds_toArray, List.set_cons_zero, List.set_cons_succ, Array.replicate]
         refine tA (i := 18) (v := ?_) (y := (Or.inl ⟨by rfl, ?_⟩)) (h := ?_)
         rotate_left
         ·intro w; go_simp; try with_reducible rfl
         try simp only [Act.put, List.setIfInBounds_toArray, List.set_cons_zero, List.set_cons_succ, Array.replicate]
         refine tA (i := 19) (v := ?_) (y := (Or.inl ⟨by rfl, ?_⟩)) (h := ?_)
         rotate_left
         ·intro w; go_simp; try with_reducible rfl
         try simp only [Act.put, List.setIfInBounds_toArray, List.set_cons_zero, List.set_cons_succ, Array.replicate]
         refine rA [20] (h := ?_)
         refine cA (h := fun K hK => ?_) (hs := ?_)
         ·go_simp
          refine hK _ _ ?_
          clear hK K
          try simp only [Act.put, List.setIfInBounds_toArray, List.set_cons_zero, List.set_cons_succ, Array.replicate]
          refine wpAny_done (by kernel_rfl) ?_ _
          have hL : [n0.take (f0.length), tail].flatten = c0 := by rw [hce]; simp
          have hLn : min (f0.length) n0.length + tail.length = c0.length := by rw [hce, List.length_append, List.length_take]
          rw [hL] at ho3
          have hg0 := Row.frozen hr3 0
          have hg2 := Row.frozen hr3 2
          have hd0 := Row.cell hr3 0
          have hd2 := Row.cell hr3 2
          simp only [DskC, List.getElem?_cons_succ, List.getElem?_cons_zero] at hd0 hd2
          have HR3 := Lib.hid hr3
          have HO3 := Lib.hid ho3
          have HB13 := Lib.hid hb13
          have HLn := Lib.hid hLn
          have HCE := Lib.hid hce
          clear hr3 ho3 hb3 hL hLn hce hb13
          go_wp2_with fail
          try rw [HLn.out]
          have hs3 := dset1 HR3.out (.slice x3 c0.length k3)
          have hs4 := dset0 hs3.1 (.slice x3 c0.length k3)
          have hs5 := (dset2 hs4.1 false).1
          have hu45 := hs4.2.trans (dset2 hs4.1 false).2
          have hu4 := (HUQ.out.trans (Upd.of_below HB13.out)).trans (hs3.2.trans hu45)
          have hon := dkeep HO3.out HR3.out (hs3.2.trans hu45)
          refine ⟨⟨_, HU.out.trans hu4, ⟨x3, k3, x3, k3, xc, kc, xd, kd, hs5, hon, hon, dkeep OC.out HR.out hu4, dkeep OD.out HR.out hu4⟩, .inr (.inl ⟨rfl, rfl⟩)⟩, by simp [intOf]⟩
         exact AllReady.nil
        exact AllReady.nil
       exact AllReady.nil
      exact AllReady.nil
     exact AllReady.nil
    ·have hce : c0 = n0 := by rw [← HC0.out]; unfold crashF; rw [if_neg (by simp), if_neg (by omega)]
     have hltI : ¬ (n0.length : Int) - (f0.length : Int) > 0 := by omega
     go_wp2_with fail
     have hs4 := dset0 HRQ.out (.slice xb n0.length kb)
     have hs5 := (dset2 hs4.1 false).1
     have hu45 := hs4.2.trans (dset2 hs4.1 false).2
     have hu4 := HUQ.out.trans hu45
     subst hce
     refine ⟨⟨_, HU.out.trans hu4, ⟨xb, kb, xb, kb, xc, kc, xd, kd, hs5, dkeep OB.out HR.out hu4, dkeep OB.out HR.out hu4, dkeep OC.out HR.out hu4, dkeep OD.out HR.out hu4⟩, .inr (.inl ⟨rfl, rfl⟩)⟩, by simp [intOf]⟩
  ·obtain ⟨xa, ka, xb, kb, xc, kc, xd, kd, hR, oa, ob, oc, od⟩ := hS
   simp only at hR oa ob oc od
   have hh0 := Row.cell hR 3
   have hh1 := Row.cell hR 4
   have hh2 := Row.cell hR 5
   have hf0 := Row.frozen hR 3
   have hf1 := Row.frozen hR 4
   have hf2 := Row.frozen hR 5
   simp only [DskC, List.getElem?_cons_succ, List.getElem?_cons_zero] at hh0 hh1 hh2
   have HR := Lib.hid hR
   have OA := Lib.hid oa
   have OB := Lib.hid ob
   have OC := Lib.hid oc
   have OD := Lib.hid od
   have HU := Lib.hid hu
   obtain ⟨qn1, qn2⟩ := dcap od
   clear hR oa ob oc od hu
   have hwm : IntKind.i64.wrap ((n1.length : Int) - (f1.length : Int)) = (n1.length : Int) - (f1.length : Int) := IntWalk.i64_in _ ⟨by omega, by omega⟩
   go_wp2_with fail
   go_quiet (fail)
   have hrq := Row.drewN HR.out nq
   have hbq : Below wr.heap.size wr (wr.drewN nq) := drewN_below wr nq
   have hh0' := bkeep hbq hh0
   have hh1' := bkeep hbq hh1
   have hh2' := bkeep hbq hh2
   have hf0' := Row.frozen hrq 3
   have hf1' := Row.frozen hrq 4
   have hf2' := Row.frozen hrq 5
   have HRQ := Lib.hid hrq
   have huq : Upd p wr (wr.drewN nq) := Upd.of_below hbq
   have HUQ := Lib.hid huq
   clear hrq hbq huq hh0 hh1 hh2 hf0 hf1 hf2 hwm
   generalize wr.drewN nq = wq at *
   cases r1 with
   | true =>
    have hce : c1 = f1 := by rw [← HC1.out]; unfold crashF; exact if_pos ⟨rfl, by omega⟩
    go_wp2_with fail
    have hs3 := dset4 HRQ.out (.slice xc f1.length kc)
    have hs4 := dset3 hs3.1 (.slice xc f1.length kc)
    have hs5 := (dset5 hs4.1 false).1
    have hu45 := hs4.2.trans (dset5 hs4.1 false).2
    have hu4 := HUQ.out.trans (hs3.2.trans hu45)
    subst hce
    refine ⟨⟨_, HU.out.trans hu4, ⟨xa, ka, xb, kb, xc, kc, xc, kc, hs5, dkeep OA.out HR.out hu4, dkeep OB.out HR.out hu4, dkeep OC.out HR.out hu4, dkeep OC.out HR.out hu4⟩, .inr (.inr ⟨rfl, rfl⟩)⟩, by simp [intOf]⟩
   | false =>
    by_cases hlt : f1.length < n1.length
    ·have htl : tail.length ≤ 100000000000 := HCT.out (.inr ⟨rfl, hlt⟩)
     have hce : c1 = n1.take (f1.length) ++ tail := by rw [← HC1.out]; unfold crashF; rw [if_neg (by simp), if_pos ⟨rfl, hlt⟩]; congr 2 <;> omega
     have hltI : (n1.length : Int) - (f1.length : Int) > 0 := by omega
     go_upto_region 10 with fail
     have hneg : ¬ ((n1.length : Int) - (f1.length : Int) < 0) := by omega
     have hwf : IntKind.i64.wrap (f1.length : Int) = (f1.length : Int) := IntWalk.i64_in _ ⟨by omega, by omega⟩
     have hcap : (f1.length : Int) ≤ (kd : Int) := by omega
     refine wp_region_any (by kernel_rfl) ?_
     try (change wpAny _ _ _ _ _ _ _ (World.drew _))
     refine tA (i := 0) (v := ?_) (y := (Or.inl ⟨by rfl, ?_⟩)) (h := ?_)
     rotate_left
     ·intro w; go_simp; try with_reducible rfl
     try simp only [Act.put, List.setIfInBounds_toArray, List.set_cons_zero, List.set_cons_succ, Array.replicate]
     refine tA (i := 1) (v := ?_) (y := (Or.inl ⟨by rfl, ?_⟩)) (h := ?_)
     rotate_left
     ·intro w; go_simp; try with_reducible rfl
     try simp only [Act.put, List.setIfInBounds_toArray, List.set_cons_zero, List.set_cons_succ, Array.replicate]
     refine tA (i := 2) (v := ?_) (y := (Or.inl ⟨by rfl, ?_⟩)) (h := ?_)
     rotate_left
     ·intro w; go_simp; try with_reducible rfl
     try simp only [Act.put, List.setIfInBounds_toArray, List.set_cons_zero, List.set_cons_succ, Array.replicate]
     refine tA (i := 3) (v := ?_) (y := (Or.inl ⟨by rfl, ?_⟩)) (h := ?_)
     rotate_left
     ·intro w; go_simp; try with_reducible rfl
     try simp only [Act.put, List.setIfInBounds_toArray, List.set_cons_zero, List.set_cons_succ, Array.replicate]
     refine tA (i := 5) (v := ?_) (y := (Or.inl ⟨by rfl, ?_⟩)) (h := ?_)
     rotate_left
     ·intro w; go_simp; try with_reducible rfl
     try simp only [Act.put, List.setIfInBounds_toArray, List.set_cons_zero, List.set_cons_succ, Array.replicate]
     refine tA (i := 6) (v := ?_) (y := (Or.inl ⟨by rfl, ?_⟩)) (h := ?_)
     rotate_left
     ·intro w; go_simp; try with_reducible rfl
     try simp only [Act.put, List.setIfInBounds_toArray, List.set_cons_zero, List.set_cons_succ, Array.replicate]
     refine tA (i := 7) (v := ?_) (y := (Or.inl ⟨by rfl, ?_⟩)) (h := ?_)
     rotate_left
     ·intro w; go_simp; try with_reducible rfl
     try simp only [Act.put, List.setIfInBounds_toArray, List.set_cons_zero, List.set_cons_succ, Array.replicate]
     refine tA (i := 10) (v := ?_) (y := (Or.inl ⟨by rfl, ?_⟩)) (h := ?_)
     rotate_left
     ·intro w; go_simp; try with_reducible rfl
     try simp only [Act.put, List.setIfInBounds_toArray, List.set_cons_zero, List.set_cons_succ, Array.replicate]
     refine tA (i := 11) (v := ?_) (y := (Or.inl ⟨by rfl, ?_⟩)) (h := ?_)
     rotate_left
     ·intro w; go_simp; try with_reducible rfl
     try simp only [Act.put, List.setIfInBounds_toArray, List.set_cons_zero, List.set_cons_succ, Array.replicate]
     refine tA (i := 12) (v := ?_) (y := (Or.inl ⟨by rfl, ?_⟩)) (h := ?_)
     rotate_left
     ·intro w; go_simp; try with_reducible rfl
     try simp only [Act.put, List.setIfInBounds_toArray, List.set_cons_zero, List.set_cons_succ, Array.replicate]
     refine tA (i := 15) (v := ?_) (y := (Or.inl ⟨by rfl, ?_⟩)) (h := ?_)
     rotate_left
     ·intro w; go_simp; try with_reducible rfl
     try simp only [Act.put, List.setIfInBounds_toArray, List.set_cons_zero, List.set_cons_succ, Array.replicate]
     refine rA [4, 8] (h := ?_)
     refine cA (h := fun K hK => ?_) (hs := ?_)
     ·go_simp
      refine hK _ _ ?_
      clear hK K
      try simp only [Act.put, List.setIfInBounds_toArray, List.set_cons_zero, List.set_cons_succ, Array.replicate]
      refine rA [8] (h := ?_)
      refine cA (h := fun K hK => ?_) (hs := ?_)
      ·go_simp
       refine hK _ _ ?_
       clear hK K
       try simp only [Act.put, List.setIfInBounds_toArray, List.set_cons_zero, List.set_cons_succ, Array.replicate]
       refine tA (i := 9) (v := ?_) (y := (Or.inl ⟨by rfl, ?_⟩)) (h := ?_)
       rotate_left
       ·intro w; go_simp; try with_reducible rfl
       try simp only [Act.put, List.setIfInBounds_toArray, List.set_cons_zero, List.set_cons_succ, Array.replicate]
       refine tA (i := 13) (v := ?_) (y := (Or.inl ⟨by rfl, ?_⟩)) (h := ?_)
       rotate_left
       ·intro w; go_simp; try with_reducible rfl
       try simp only [Act.put, List.setIfInBounds_toArray, List.set_cons_zero, List.set_cons_succ, Array.replicate]
       refine tA (i := 14) (v := ?_) (y := (Or.inl ⟨by rfl, ?_⟩)) (h := ?_)
       rotate_left
       ·intro w; go_simp; try with_reducible rfl
       try simp only [Act.put, List.setIfInBounds_toArray, List.set_cons_zero, List.set_cons_succ, Array.replicate]
       refine rA [16] (h := ?_)
       refine cA (h := fun K hK => ?_) (hs := ?_)
       ·go_simp
        refine hK _ _ ?_
        clear hK K
        try simp only [Act.put, List.setIfInBounds_toArray, List.set_cons_zero, List.set_cons_succ, Array.replicate]
        refine rA [17] (h := ?_)
        refine cA (h := fun K hK => ?_) (hs := ?_)
        ·go_simp; go_at_call 39; refine (concat_any _ [n1.take (f1.length), tail] _ (bss2 _ _ _ _ _ (((dkeep OD.out HR.out HUQ.out).sh.take (f1.length) (by omega)).at' (by exact (balloc (Below.refl _ _).drew _)) (Nat.le_refl _)) (HSB.out _ (HU.out.trans (HUQ.out.trans (Upd.of_below (balloc (Below.refl _ _).drew _)))))) (by simp) (by simp; omega)).mono ?_; rintro e w3 ⟨v3, rfl, ho3, hb3⟩; obtain ⟨x3, k3, rfl, -⟩ := ho3.sh.open; have hb13 : Below wq.heap.size wq w3 := bstep (balloc (Below.refl _ _).drew _) hb3; have hr3 := Row.keep HRQ.out hb13; have hf3 := Row.frozen hr3 4; have hc3 := Row.cell hr3 4; simp only [DskC, List.getElem?_cons_succ, List.getElem?_cons_zero] at hc3; try go_simp
         refine hK _ _ ?_
         clear hK K
         try simp only [Act.put, List.setIfInBounds_toArray, List.set_cons_zero, List.set_cons_succ, Array.replicate]
         refine tA (i := 18) (v := ?_) (y := (Or.inl ⟨by rfl, ?_⟩)) (h := ?_)
         rotate_left
         ·intro w; go_simp; try with_reducible rfl
         try simp only [Act.put, List.setIfInBounds_toArray, List.set_cons_zero, List.set_cons_succ, Array.replicate]
         refine tA (i := 19) (v := ?_) (y := (Or.inl ⟨by rfl, ?_⟩)) (h := ?_)
         rotate_left
         ·intro w; go_simp; try with_reducible rfl
         try simp only [Act.put, List.setIfInBounds_toArray, List.set_cons_zero, List.set_cons_succ, Array.replicate]
         refine rA [20] (h := ?_)
         refine cA (h := fun K hK => ?_) (hs := ?_)
         ·go_simp
          refine hK _ _ ?_
          clear hK K
          try simp only [Act.put, List.setIfInBounds_toArray, List.set_cons_zero, List.set_cons_succ, Array.replicate]
          refine wpAny_done (by kernel_rfl) ?_ _
          have hL : [n1.take (f1.length), tail].flatten = c1 := by rw [hce]; simp
          have hLn : min (f1.length) n1.length + tail.length = c1.length := by rw [hce, List.length_append, List.length_take]
          rw [hL] at ho3
          have hg0 := Row.frozen hr3 3
          have hg2 := Row.frozen hr3 5
          have hd0 := Row.cell hr3 3
          have hd2 := Row.cell hr3 5
          simp only [DskC, List.getElem?_cons_succ, List.getElem?_cons_zero] at hd0 hd2
          have HR3 := Lib.hid hr3
          have HO3 := Lib.hid ho3
          have HB13 := Lib.hid hb13
          have HLn := Lib.hid hLn
          have HCE := Lib.hid hce
          clear hr3 ho3 hb3 hL hLn hce hb13
          go_wp2_with fail
          try rw [HLn.out]
          have hs3 := dset4 HR3.out (.slice x3 c1.length k3)
          have hs4 := dset3 hs3.1 (.slice x3 c1.length k3)
          have hs5 := (dset5 hs4.1 false).1
          have hu45 := hs4.2.trans (dset5 hs4.1 false).2
          have hu4 := (HUQ.out.trans (Upd.of_below HB13.out)).trans (hs3.2.trans hu45)
          have hon := dkeep HO3.out HR3.out (hs3.2.trans hu45)
          refine ⟨⟨_, HU.out.trans hu4, ⟨xa, ka, xb, kb, x3, k3, x3, k3, hs5, dkeep OA.out HR.out hu4, dkeep OB.out HR.out hu4, hon, hon⟩, .inr (.inr ⟨rfl, rfl⟩)⟩, by simp [intOf]⟩
         exact AllReady.nil
        exact AllReady.nil
       exact AllReady.nil
      exact AllReady.nil
     refine cA (h := fun K hK => ?_) (hs := ?_)
     ·go_simp
      refine hK _ _ ?_
      clear hK K
      try simp only [Act.put, List.setIfInBounds_toArray, List.set_cons_zero, List.set_cons_succ, Array.replicate]
      refine tA (i := 9) (v := ?_) (y := (Or.inl ⟨by rfl, ?_⟩)) (h := ?_)
      rotate_left
      ·intro w; go_simp; try with_reducible rfl
      try simp only [Act.put, List.setIfInBounds_toArray, List.set_cons_zero, List.set_cons_succ, Array.replicate]
      refine tA (i := 13) (v := ?_) (y := (Or.inl ⟨by rfl, ?_⟩)) (h := ?_)
      rotate_left
      ·intro w; go_simp; try with_reducible rfl
      try simp only [Act.put, List.setIfInBounds_toArray, List.set_cons_zero, List.set_cons_succ, Array.replicate]
      refine rA [4] (h := ?_)
      refine cA (h := fun K hK => ?_) (hs := ?_)
      ·go_simp
       refine hK _ _ ?_
       clear hK K
       try simp only [Act.put, List.setIfInBounds_toArray, List.set_cons_zero, List.set_cons_succ, Array.replicate]
       refine tA (i := 14) (v := ?_) (y := (Or.inl ⟨by rfl, ?_⟩)) (h := ?_)
       rotate_left
       ·intro w; go_simp; try with_reducible rfl
       try simp only [Act.put, List.setIfInBounds_toArray, List.set_cons_zero, List.set_cons_succ, Array.replicate]
       refine rA [16] (h := ?_)
       refine cA (h := fun K hK => ?_) (hs := ?_)
       ·go_simp
        refine hK _ _ ?_
        clear hK K
        try simp only [Act.put, List.setIfInBounds_toArray, List.set_cons_zero, List.set_cons_succ, Array.replicate]
        refine rA [17] (h := ?_)
        refine cA (h := fun K hK => ?_) (hs := ?_)
        ·go_simp; go_at_call 39; refine (concat_any _ [n1.take (f1.length), tail] _ (bss2 _ _ _ _ _ (((dkeep OD.out HR.out HUQ.out).sh.take (f1.length) (by omega)).at' (by exact (balloc (Below.refl _ _).drew _)) (Nat.le_refl _)) (HSB.out _ (HU.out.trans (HUQ.out.trans (Upd.of_below (balloc (Below.refl _ _).drew _)))))) (by simp) (by simp; omega)).mono ?_; rintro e w3 ⟨v3, rfl, ho3, hb3⟩; obtain ⟨x3, k3, rfl, -⟩ := ho3.sh.open; have hb13 : Below wq.heap.size wq w3 := bstep (balloc (Below.refl _ _).drew _) hb3; have hr3 := Row.keep HRQ.out hb13; have hf3 := Row.frozen hr3 4; have hc3 := Row.cell hr3 4; simp only [DskC, List.getElem?_cons_succ, List.getElem?_cons_zero] at hc3; try go_simp
         refine hK _ _ ?_
         clear hK K
         try simp only [Act.put, List.setIfInBounds_toArray, List.set_cons_zero, List.set_cons_succ, Array.replicate]
         refine tA (i := 18) (v := ?_) (y := (Or.inl ⟨by rfl, ?_⟩)) (h := ?_)
         rotate_left
         ·intro w; go_simp; try with_reducible rfl
         try simp only [Act.put, List.setIfInBounds_toArray, List.set_cons_zero, List.set_cons_succ, Array.replicate]
         refine tA (i := 19) (v := ?_) (y := (Or.inl ⟨by rfl, ?_⟩)) (h := ?_)
         rotate_left
         ·intro w; go_simp; try with_reducible rfl
         try simp only [Act.put, List.setIfInBounds_toArray, List.set_cons_zero, List.set_cons_succ, Array.replicate]
         refine rA [20] (h := ?_)
         refine cA (h := fun K hK => ?_) (hs := ?_)
         ·go_simp
          refine hK _ _ ?_
          clear hK K
          try simp only [Act.put, List.setIfInBounds_toArray, List.set_cons_zero, List.set_cons_succ, Array.replicate]
          refine wpAny_done (by kernel_rfl) ?_ _
          have hL : [n1.take (f1.length), tail].flatten = c1 := by rw [hce]; simp
          have hLn : min (f1.length) n1.length + tail.length = c1.length := by rw [hce, List.length_append, List.length_take]
          rw [hL] at ho3
          have hg0 := Row.frozen hr3 3
          have hg2 := Row.frozen hr3 5
          have hd0 := Row.cell hr3 3
          have hd2 := Row.cell hr3 5
          simp only [DskC, List.getElem?_cons_succ, List.getElem?_cons_zero] at hd0 hd2
          have HR3 := Lib.hid hr3
          have HO3 := Lib.hid ho3
          have HB13 := Lib.hid hb13
          have HLn := Lib.hid hLn
          have HCE := Lib.hid hce
          clear hr3 ho3 hb3 hL hLn hce hb13
          go_wp2_with fail
          try rw [HLn.out]
          have hs3 := dset4 HR3.out (.slice x3 c1.length k3)
          have hs4 := dset3 hs3.1 (.slice x3 c1.length k3)
          have hs5 := (dset5 hs4.1 false).1
          have hu45 := hs4.2.trans (dset5 hs4.1 false).2
          have hu4 := (HUQ.out.trans (Upd.of_below HB13.out)).trans (hs3.2.trans hu45)
          have hon := dkeep HO3.out HR3.out (hs3.2.trans hu45)
          refine ⟨⟨_, HU.out.trans hu4, ⟨xa, ka, xb, kb, x3, k3, x3, k3, hs5, dkeep OA.out HR.out hu4, dkeep OB.out HR.out hu4, hon, hon⟩, .inr (.inr ⟨rfl, rfl⟩)⟩, by simp [intOf]⟩
         exact AllReady.nil
        exact AllReady.nil
       exact AllReady.nil
      exact AllReady.nil
     exact AllReady.nil
    ·have hce : c1 = n1 := by rw [← HC1.out]; unfold crashF; rw [if_neg (by simp), if_neg (by omega)]
     have hltI : ¬ (n1.length : Int) - (f1.length : Int) > 0 := by omega
     go_wp2_with fail
     have hs4 := dset3 HRQ.out (.slice xd n1.length kd)
     have hs5 := (dset5 hs4.1 false).1
     have hu45 := hs4.2.trans (dset5 hs4.1 false).2
     have hu4 := HUQ.out.trans hu45
     subst hce
     refine ⟨⟨_, HU.out.trans hu4, ⟨xa, ka, xb, kb, xd, kd, xd, kd, hs5, dkeep OA.out HR.out hu4, dkeep OB.out HR.out hu4, dkeep OD.out HR.out hu4, dkeep OD.out HR.out hu4⟩, .inr (.inr ⟨rfl, rfl⟩)⟩, by simp [intOf]⟩
  ·go_wp2_with fail
   go_end0
   exact ⟨rfl, hS, hu⟩
end Go.Proofs.Ytkghkpkiodghiaa
