/- The law DescentNext, its walk. (printed by gen/des12.py) -/
import Derived.Test.YticabllkadpmeaaGreatDoorDes11
import Derived.Test.YticabllkadpmeaaGreatDoorDes4
import Derived.Test.YticabllkadpmeaaGreatDoorDes8
import Derived.OrdersHeld
import Derived.Deep.RegionHeld
namespace Go.Proofs.YticabllkadpmeaaGreatDoor
set_option linter.unusedVariables false
set_option linter.unusedSimpArgs false
set_option linter.unnecessarySimpa false
open Go.RowKit
open Tre (It)
set_option maxRecDepth 100000
set_option maxHeartbeats 8000000

theorem PL.form {w : World} {B : Nat} {v : Value} {Ps : List (List Int)} (h : PL w B v Ps) : ∃ a c, v = .slice a Ps.length c ∧ PL w B (.slice a Ps.length c) Ps := by
  obtain ⟨vs, h1, h2, h3⟩ := h
  obtain ⟨_, a, c, hv, -⟩ := (show Shows w 1 v vs.length vs from Shows.of_own h1)
  subst hv
  refine ⟨a, c, by rw [h2], vs, ?_, h2, h3⟩
  rw [← h2]
  exact h1
theorem sums_lit0 (w : World) : (w.alloc (.cells #[] 36)).ownsRow w.heap.size 36 32 (.slice (some ⟨w.heap.size, 0, none⟩) 0 0) ([] : List (List UInt8)).length (sumsC []) :=
  World.ownsRow_lit (e := 36) (size := 32) (base := w.heap.size) w #[] 0 (Nat.le_refl _) (by decide) (by simp)
theorem DescentNext_walk (v pv sv : Value) (l : List It) (P : List Int) (S : List (List UInt8)) (w : World) (hg : Glob w) (hs : Its w v l) (hok : Oks l) (hsz : l.length ≤ 140737488355328) (hp : Ns w pv P) (hszP : P.length ≤ 17592186044416) (hss : Sms w sv S) (h32 : L32 S) (hszS : S.length ≤ 4398046511104) :
    Calls Tryz.prog 3 #[v, pv, sv] w fun e w' => e = .returned (.bool true) ∧ Below w.heap.size w w' := by
  obtain ⟨xa, ca, rfl, -, -, -, hp2⟩ := hp.open
  obtain ⟨xs, cs, rfl, -, -, -, hss2⟩ := hss.open
  have HG := Lib.hid hg
  have HS := Lib.hid hs
  have HOK := Lib.hid hok
  have HP := Lib.hid hp2
  have HSS := Lib.hid hss2
  have H32 := Lib.hid h32
  have hz3 := hg.1
  obtain ⟨A, hA⟩ : ∃ A, few22 l = A := ⟨_, rfl⟩
  have hAl : A.length ≤ 8 := by rw [← hA]; exact few22_length l
  have HAA : Hid (Tre.all A = A) := by rw [← hA]; exact all_self (few22_rise l)
  have HAI : Hid (∀ x ∈ A, ItS x) := by rw [← hA]; exact few22_its hok
  have HA := Lib.hid hA
  have H320 : Hid (L32 []) := fun x hx => by cases hx
  obtain ⟨Q, hQ⟩ : ∃ Q, nextF A P S = Q := ⟨_, rfl⟩
  have hQl : Q.length ≤ 4 := by rw [← hQ]; exact nextF_length A P S
  have HQ := Lib.hid hQ
  clear hg hs hok hp hp2 hss hss2 h32 hA hQ
  go_enter Tryz.func3, Tryz.ntmps3
  go_upto_region 2 with (go_at_call 4; refine (few22_any v l _ HS.out HOK.out hsz).mono ?_; rw [HA.out]; rintro e w1 ⟨v1, rfl, ho1, hb1⟩; obtain ⟨a1, c1, hv1, -, -, -, hs1⟩ := ho1.its.open; subst hv1; have O1 := Lib.hid hs1; have B1 := Lib.hid hb1; have P1 := Lib.hid (HP.out.below hb1); have S1 := Lib.hid (HSS.out.below hb1); have hw1 := hb1.size; clear ho1 hb1 hs1)
  clear HS HP HSS
  go_upto_region 3 with (first
    | (at_builtin; refine app_items (base := w1.heap.size) rfl (.tmp 12) (.tmp 13) rfl (L := []) rfl (OwnI.lit0 w1) rfl (O1.out.below (balloc (Below.refl _ w1) _)) (by simp; omega) (by simp) ?_; rw [List.nil_append]; intro v3 w3 ho3 hb3; have hb30 : Below w1.heap.size w1 w3 := ((balloc (Below.refl _ w1) _).trans hb3); have Q3 := Lib.hid ho3.its; have O3 := Lib.hid (O1.out.below hb30); have P3 := Lib.hid (P1.out.below hb30); have S3 := Lib.hid (S1.out.below hb30); have B3 := Lib.hid (B1.out.trans (hb30.mono hw1)); have hw3 := B3.out.size; have G3 := Lib.hid (Glob.below HG.out B3.out hz3); clear ho3 hb3 hb30 O1 P1 S1)
    | (go_at_call 6; refine (Build_any v3 A _ G3.out Q3.out HAI.out (by omega)).mono ?_; rw [HAA.out]; rintro e w4 ⟨TA, rfl, ht4, hi4, hn4, hb4⟩; have TA4 := Lib.hid ht4; have IA := Lib.hid hi4; have B4 := Lib.hid (B3.out.trans (hb4.mono hw3)); have hw4 := B4.out.size; have O4 := Lib.hid (O3.out.below hb4); have P4 := Lib.hid (P3.out.below hb4); have S4 := Lib.hid (S3.out.below hb4); clear ht4 hi4 hn4 hb4 O3 P3 S3 Q3 G3)
    | (at_builtin; refine app_ints (base := w4.heap.size) rfl (.tmp 16) (.tmp 17) rfl (l := []) rfl (OwnN.lit0 w4) rfl (P4.out.below (balloc (Below.refl _ w4) _)) (by simp only [List.length_nil]; omega) (by simp) ?_; rw [List.nil_append]; intro v5 w5 ho5 hb5; have hb50 : Below w4.heap.size w4 w5 := ((balloc (Below.refl _ w4) _).trans hb5); have N5 := Lib.hid ho5.ns; have O5 := Lib.hid (O4.out.below hb50); have P5 := Lib.hid (P4.out.below hb50); have S5 := Lib.hid (S4.out.below hb50); have TA5 := Lib.hid (TA4.out.below hb50 (Nat.le_refl _)); have B5 := Lib.hid (B4.out.trans (hb50.mono hw4)); have hw5 := B5.out.size; clear ho5 hb5 hb50 O4 P4 S4 TA4)
    | (at_builtin; refine app_sums (base := w5.heap.size) rfl (.tmp 19) (.tmp 20) rfl (L := []) (M := S) H320.out H32.out rfl (sums_lit0 w5) rfl (S5.out.below (balloc (Below.refl _ w5) _)) (by simp only [List.length_nil]; omega) (by simp) ?_; rw [List.nil_append]; intro v6 w6 ho6 hb6; have hb60 : Below w5.heap.size w5 w6 := ((balloc (Below.refl _ w5) _).trans hb6); have M6 : Hid (Sms w6 v6 S) := Shows.of_own ho6; have N6 := Lib.hid (N5.out.below hb60); have O6 := Lib.hid (O5.out.below hb60); have P6 := Lib.hid (P5.out.below hb60); have S6 := Lib.hid (S5.out.below hb60); have TA6 := Lib.hid (TA5.out.below hb60 (Nat.le_refl _)); have B6 := Lib.hid (B5.out.trans (hb60.mono hw5)); have hw6 := B6.out.size; clear ho6 hb6 hb60 O5 P5 S5 N5 TA5)
    | (go_at_call 5; refine (Next_any _ _ _ TA A v5 v6 P S TA6.out IA.out N6.out M6.out H32.out).mono ?_; rw [HQ.out]; rintro e w7 ⟨v7, rfl, hpl7, hb7⟩; obtain ⟨a7, c7, hv7, hpl72⟩ := hpl7.form; subst hv7; have PL7 := Lib.hid hpl72; have O7 := Lib.hid (O6.out.below hb7); have P7 := Lib.hid (P6.out.below hb7); have S7 := Lib.hid (S6.out.below hb7); have B7 := Lib.hid (B6.out.trans (hb7.mono hw6)); have hw7 := B7.out.size; clear hpl7 hpl72 hb7 O6 P6 S6 N6 M6 TA6)
    | (go_at_call 7; refine (rNext_any _ _ _ _ A P S O7.out HAI.out (by omega) P7.out S7.out H32.out).mono ?_; rw [HQ.out]; rintro e w8 ⟨v8, rfl, hpl8, hb8⟩; obtain ⟨a8, c8, hv8, hpl82⟩ := hpl8.form; subst hv8; have PL8 := Lib.hid hpl82; have PL78 := Lib.hid (PL7.out.below hb8 (Nat.le_refl _)); have B8 := Lib.hid (B7.out.trans (hb8.mono hw7)); have hw8 := B8.out.size; clear hpl8 hpl82 hb8 O7 P7 S7 PL7))
  clear HQ
  go_wp2_with fail
  go_loopw [9] (fun iv wr => ∃ j : Nat, j ≤ Q.length ∧ iv = .int .i64 j ∧ Below w8.heap.size w8 wr) (fun iv _ => Q.length - (intOf iv).toNat)
  case atStart => exact ⟨0, Nat.zero_le _, rfl, Below.refl _ _⟩
  case round =>
    obtain ⟨j, hj, rfl, hb⟩ := hrel
    have BR := Lib.hid hb
    have hwr := hb.size
    clear hb
    by_cases hlt : j < Q.length
    · have hltI : (j : Int) < (Q.length : Int) := by omega
      obtain ⟨pa, oa, ua, rfl, hca, hna⟩ := PL78.out.at j hlt
      obtain ⟨pb, ob, ub, rfl, hcb, hnb⟩ := PL8.out.at j hlt
      have CA := Lib.hid (bcell BR.out hca (blt hca))
      have CB := Lib.hid (bcell BR.out hcb (blt hcb))
      obtain ⟨ya, yc, rfl, -, -, -, hna2⟩ := hna.ns.open
      obtain ⟨za, zc, rfl, -, -, -, hnb2⟩ := hnb.ns.open
      generalize Q.getD j [] = X at *
      have NA := Lib.hid (hna2.below BR.out)
      have NB := Lib.hid (hnb2.below BR.out)
      clear hca hcb hna hnb hna2 hnb2
      have HEQ : Hid ((X == X) = true) := by show _ = _; rw [beq_iff_eq]
      go_upto_region 8 with fail
      refine wp_region_held_drew (S := fun w' => Below wr.heap.size wr w') (by kernel_rfl) (by exact (Below.refl _ _).drew) (fun hHeld => ?_)
      refine wpAnyH_take (i := 0) (v := ?_) (by simp only [List.getElem?_toArray, List.getElem?_cons_zero, List.getElem?_cons_succ] <;> rfl) (by kernel_rfl) (by kernel_rfl) (by kernel_rfl) (by intro _ _ _ h; exact h) (Or.inl ⟨by rfl, ?_⟩) (by assumption) ?_
      rotate_left
      · intro w _; go_simp; try with_reducible rfl
      try simp only [Act.put, List.setIfInBounds_toArray, List.set_cons_zero, List.set_cons_succ, Array.replicate]
      refine wpAnyH_take (i := 1) (v := ?_) (by simp only [List.getElem?_toArray, List.getElem?_cons_zero, List.getElem?_cons_succ] <;> rfl) (by kernel_rfl) (by kernel_rfl) (by kernel_rfl) (by intro _ _ _ h; exact h) (Or.inl ⟨by rfl, ?_⟩) (by assumption) ?_
      rotate_left
      · intro w _; go_simp; try with_reducible rfl
      try simp only [Act.put, List.setIfInBounds_toArray, List.set_cons_zero, List.set_cons_succ, Array.replicate]
      refine wpAnyH_take (i := 2) (v := ?_) (by simp only [List.getElem?_toArray, List.getElem?_cons_zero, List.getElem?_cons_succ] <;> rfl) (by kernel_rfl) (by kernel_rfl) (by kernel_rfl) (by intro _ _ _ h; exact h) (Or.inl ⟨by rfl, ?_⟩) (by assumption) ?_
      rotate_left
      · intro w _; go_simp; try with_reducible rfl
      try simp only [Act.put, List.setIfInBounds_toArray, List.set_cons_zero, List.set_cons_succ, Array.replicate]
      refine wpAnyH_take (i := 3) (v := ?_) (by simp only [List.getElem?_toArray, List.getElem?_cons_zero, List.getElem?_cons_succ] <;> rfl) (by kernel_rfl) (by kernel_rfl) (by kernel_rfl) (by intro _ _ _ h; exact h) (Or.inl ⟨by rfl, ?_⟩) (by assumption) ?_
      rotate_left
      · intro w hSS; have hz := bcell (show Below wr.heap.size wr _ from hSS) CA.out (blt CA.out); go_simp; try with_reducible rfl
      try simp only [Act.put, List.setIfInBounds_toArray, List.set_cons_zero, List.set_cons_succ, Array.replicate]
      refine wpAnyH_take (i := 4) (v := ?_) (by simp only [List.getElem?_toArray, List.getElem?_cons_zero, List.getElem?_cons_succ] <;> rfl) (by kernel_rfl) (by kernel_rfl) (by kernel_rfl) (by intro _ _ _ h; exact h) (Or.inl ⟨by rfl, ?_⟩) (by assumption) ?_
      rotate_left
      · intro w _; go_simp; try with_reducible rfl
      try simp only [Act.put, List.setIfInBounds_toArray, List.set_cons_zero, List.set_cons_succ, Array.replicate]
      refine wpAnyH_take (i := 5) (v := ?_) (by simp only [List.getElem?_toArray, List.getElem?_cons_zero, List.getElem?_cons_succ] <;> rfl) (by kernel_rfl) (by kernel_rfl) (by kernel_rfl) (by intro _ _ _ h; exact h) (Or.inl ⟨by rfl, ?_⟩) (by assumption) ?_
      rotate_left
      · intro w _; go_simp; try with_reducible rfl
      try simp only [Act.put, List.setIfInBounds_toArray, List.set_cons_zero, List.set_cons_succ, Array.replicate]
      refine wpAnyH_take (i := 6) (v := ?_) (by simp only [List.getElem?_toArray, List.getElem?_cons_zero, List.getElem?_cons_succ] <;> rfl) (by kernel_rfl) (by kernel_rfl) (by kernel_rfl) (by intro _ _ _ h; exact h) (Or.inl ⟨by rfl, ?_⟩) (by assumption) ?_
      rotate_left
      · intro w _; go_simp; try with_reducible rfl
      try simp only [Act.put, List.setIfInBounds_toArray, List.set_cons_zero, List.set_cons_succ, Array.replicate]
      refine wpAnyH_take (i := 7) (v := ?_) (by simp only [List.getElem?_toArray, List.getElem?_cons_zero, List.getElem?_cons_succ] <;> rfl) (by kernel_rfl) (by kernel_rfl) (by kernel_rfl) (by intro _ _ _ h; exact h) (Or.inl ⟨by rfl, ?_⟩) (by assumption) ?_
      rotate_left
      · intro w hSS; have hz := bcell (show Below wr.heap.size wr _ from hSS) CB.out (blt CB.out); go_simp; try with_reducible rfl
      try simp only [Act.put, List.setIfInBounds_toArray, List.set_cons_zero, List.set_cons_succ, Array.replicate]
      refine wpAnyH_ready (rs := [8]) (by kernel_rfl) (by simp) ?_
      refine AllReadyH.cons (by simp only [List.getElem?_toArray, List.getElem?_cons_zero, List.getElem?_cons_succ] <;> rfl) (fun K hK => ?_) ?_
      · go_simp; go_at_call 8; refine (ints_any _ _ X X _ (NA.out.at' (by exact hHeld) (Nat.le_refl _)) (NB.out.at' (by exact hHeld) (Nat.le_refl _))).mono ?_; rw [HEQ.out]; rintro e wq ⟨rfl, hbq⟩; try go_simp
        refine hK.out _ _ (by exact bstep hHeld hbq) (fun hHeld => ?_)
        clear hK K
        try simp only [Act.put, List.setIfInBounds_toArray, List.set_cons_zero, List.set_cons_succ, Array.replicate]
        refine wpAnyH_take (i := 9) (v := ?_) (by simp only [List.getElem?_toArray, List.getElem?_cons_zero, List.getElem?_cons_succ] <;> rfl) (by kernel_rfl) (by kernel_rfl) (by kernel_rfl) (by intro _ _ _ h; exact h) (Or.inl ⟨by rfl, ?_⟩) (by assumption) ?_
        rotate_left
        · intro w _; go_simp; try with_reducible rfl
        try simp only [Act.put, List.setIfInBounds_toArray, List.set_cons_zero, List.set_cons_succ, Array.replicate]
        refine wpAnyH_done (by kernel_rfl) ?_ _
        go_wp2_with fail
        exact ⟨⟨j + 1, by omega, by go_num, BR.out.trans ((show Below wr.heap.size wr _ from hHeld).mono hwr)⟩, by simp [intOf]; omega⟩
      exact AllReadyH.nil
    · have hjl : j = Q.length := by omega
      subst hjl
      have Gr := Lib.hid (Glob.below HG.out (B8.out.trans (BR.out.mono hw8)) hz3)
      go_wp2_with (go_at_call 9; refine (lives22_any _ Gr.out).mono ?_; rintro e wb ⟨rfl, hbb⟩; have Bb := Lib.hid (BR.out.trans (hbb.mono hwr)); clear hbb)
      go_ret
      exact ⟨rfl, B8.out.trans (Bb.out.mono hw8)⟩
end Go.Proofs.YticabllkadpmeaaGreatDoor
