/- Packages descent, ref22: Next, whatever the path and the sums. (printed by gen/des11.py) -/
import Derived.Test.YticabllkadpmeaaGreatDoorDes5
import Derived.Test.YticabllkadpmeaaGreatDoorRSum
import Derived.Test.YticabllkadpmeaaGreatDoorDes1
import Derived.OrdersHeld
import Derived.Deep.RegionHeld
namespace Go.Proofs.YticabllkadpmeaaGreatDoor
set_option linter.unusedVariables false
set_option linter.unusedSimpArgs false
set_option linter.unnecessarySimpa false
open Go.RowKit
open Tre (It)
set_option maxRecDepth 100000
set_option maxHeartbeats 8000000

/-- The paths below a path at which sums are others; none, if there is nothing to compare. -/
def nextF (A : List It) (P : List Int) (S : List (List UInt8)) : List (List Int) := if goodP P = true ∧ P.length < 2 ∧ S.length = 4 then nextL (belowAt A P) S P 4 else []
theorem nextF_length (A : List It) (P : List Int) (S : List (List UInt8)) : (nextF A P S).length ≤ 4 := by
  unfold nextF
  split
  · exact nextL_length _ _ _ _
  · simp
theorem next_no (w : World) (b : Nat) (pv sv : Value) (X S : List (List UInt8)) (hB : Calls Tryz.prog 22 #[.pointer (some ⟨b, 0, none⟩), pv] w (SmsQ w X false)) (hs : Sms w sv S) :
    Calls Tryz.prog 11 #[.pointer (some ⟨b, 0, none⟩), pv, sv] w (PLQ w []) := by
  obtain ⟨xs, cs, rfl, -, -, -, hs2⟩ := hs.open
  have HB := Lib.hid hB
  clear hB hs hs2
  go_enter Tryz.func11, Tryz.ntmps11
  go_wp2_with (go_at_call 22; refine HB.out.mono ?_; rintro e w2 ⟨v2, rfl, hs2, hb2⟩; obtain ⟨x2, c2, hv2, -, -, -, hs2'⟩ := hs2.open; subst hv2; have B2 := Lib.hid hb2; clear hs2 hs2' hb2)
  go_ret
  exact ⟨_, rfl, PL.nil _ _, B2.out⟩
theorem next_len (w : World) (b : Nat) (pv sv : Value) (X S : List (List UInt8)) (hB : Calls Tryz.prog 22 #[.pointer (some ⟨b, 0, none⟩), pv] w (SmsQ w X true)) (hs : Sms w sv S) (hl : S.length ≠ X.length) :
    Calls Tryz.prog 11 #[.pointer (some ⟨b, 0, none⟩), pv, sv] w (PLQ w []) := by
  obtain ⟨xs, cs, rfl, -, -, -, hs2⟩ := hs.open
  have HB := Lib.hid hB
  have hI : ¬ (S.length : Int) = (X.length : Int) := by omega
  clear hB hs hs2 hl
  go_enter Tryz.func11, Tryz.ntmps11
  go_wp2_with (go_at_call 22; refine HB.out.mono ?_; rintro e w2 ⟨v2, rfl, hs2, hb2⟩; obtain ⟨x2, c2, hv2, -, -, -, hs2'⟩ := hs2.open; subst hv2; have B2 := Lib.hid hb2; clear hs2 hs2' hb2)
  go_ret
  exact ⟨_, rfl, PL.nil _ _, B2.out⟩
theorem next_all (w : World) (B b : Nat) (T : TS) (A : List It) (pv sv : Value) (P : List Int) (S : List (List UInt8)) (h : Tr w B b T) (hA : IsT T A) (hp : Ns w pv P) (hs : Sms w sv S) (h32 : L32 S) :
    Calls Tryz.prog 11 #[.pointer (some ⟨b, 0, none⟩), pv, sv] w (PLQ w (nextF A P S)) := by
  unfold nextF
  by_cases hg : goodP P = true
  · have hB := Below_good w B b T A pv P h hA hp hg
    by_cases hl : P.length < 2
    · by_cases h4 : S.length = 4
      · rw [if_pos ⟨hg, hl, h4⟩]
        exact next_any w B b T A pv sv P S h hA hp hg hl hs h32 h4
      · rw [if_neg (fun q => h4 q.2.2)]
        rw [decide_eq_true hl] at hB
        exact next_len w b pv sv _ S hB hs (by rw [belowAt_length hl]; exact h4)
    · rw [if_neg (fun q => hl q.2.1)]
      rw [decide_eq_false hl] at hB
      exact next_no w b pv sv _ S hB hs
  · rw [if_neg (fun q => hg q.1)]
    exact next_no w b pv sv _ S (Below_bad w B b T pv P (by simpa using hg) h hp) hs
theorem Next_any (w : World) (B b : Nat) (T : TS) (A : List It) (pv sv : Value) (P : List Int) (S : List (List UInt8)) (h : Tr w B b T) (hA : IsT T A) (hp : Ns w pv P) (hs : Sms w sv S) (h32 : L32 S) :
    Calls Tryz.prog 5 #[.pointer (some ⟨b, 0, none⟩), pv, sv] w (PLQ w (nextF A P S)) := by
  have HC := Lib.hid (next_all w B b T A pv sv P S h hA hp hs h32)
  clear h hA hp hs h32
  go_enter Tryz.func5, Tryz.ntmps5
  go_wp2_with (first
    | (go_at_call 12; refine (some_some w b).mono ?_; rintro e w1 ⟨rfl, rfl⟩)
    | (go_at_call 11; refine HC.out.mono ?_; rintro e w2 ⟨v2, rfl, hpl, hb2⟩; obtain ⟨vs, k1, k2, k3⟩ := hpl; obtain ⟨va, vn, vc, rfl⟩ := own_form1 k1; have K1 := Lib.hid k1; have K2 := Lib.hid k2; have K3 := Lib.hid k3; have B2 := Lib.hid hb2; clear k1 k2 k3 hb2))
  go_ret
  exact ⟨_, rfl, ⟨vs, K1.out, K2.out, K3.out⟩, B2.out⟩

/-! ### ref22.Next -/
theorem PL.lit0 (w : World) : PL (w.alloc (.cells #[] 23)) w.heap.size (.slice (some ⟨w.heap.size, 0, none⟩) 0 0) [] :=
  ⟨[], World.ownsRow_lit (e := 23) (size := 1) (base := w.heap.size) w #[] 0 (Nat.le_refl _) (by decide) (by simp), rfl, fun j hj => by simp at hj⟩
theorem own_kp {A B : World} {base e size n : Nat} {v : Value} {xs : List Value} (h : A.ownsRow base e size v n xs) (hk : Kpt Sp A B) (ht : Sp e) : B.ownsRow base e size v n xs := by
  refine ⟨h.1, ?_⟩
  rcases h.2 with hv | ⟨g, cap, cur, hv, h1, h2, h3⟩
  · exact .inl hv
  · exact .inr ⟨g, cap, cur, hv, h1, hk.rows g cur _ ht h2, h3⟩
theorem sp_sum : Sp 36 := by unfold Sp; decide
theorem own_snocN {w : World} {B : Nat} {v : Value} {P : List Int} {k : Int} (h : OwnN w B v (P ++ [k])) : OwnN w 0 v (P ++ [k]) := own_mono h (Nat.zero_le _)
theorem rNext_no (w : World) (vl pv sv : Value) (P : List Int) (S : List (List UInt8)) (hp : Ns w pv P) (hs : Sms w sv S) (hn : ¬ (goodP P = true ∧ P.length < 2 ∧ S.length = 4)) :
    Calls Tryz.prog 7 #[vl, pv, sv] w (PLQ w []) := by
  obtain ⟨xa, ca, rfl, -, -, -, hp2⟩ := hp.open
  obtain ⟨xs, cs, rfl, -, -, -, hs2⟩ := hs.open
  have HP := Lib.hid hp2
  have LIT := Lib.hid (PL.lit0 w)
  have BL : Hid (Below w.heap.size w (w.alloc (.cells #[] 23))) := balloc (Below.refl _ _) _
  clear hp hp2 hs hs2
  by_cases hg : goodP P = true
  · have HG := Lib.hid hg
    by_cases hl : P.length < 2
    · have hlB : decide ((1 : Int) < (P.length : Int)) = false := decide_eq_false (by omega)
      have h4 : ((S.length : Int) != 4) = true := by rw [bne_iff_ne]; exact fun q => hn ⟨hg, hl, by omega⟩
      clear hg hn
      go_enter Tryz.func7, Tryz.ntmps7
      go_wp2_with (go_at_call 17; refine (rgood_any _ P _ (HP.out.below (balloc (Below.refl _ w) _))).mono ?_; rw [HG.out]; rintro e w2 ⟨rfl, rfl⟩)
      go_ret
      exact ⟨_, rfl, LIT.out, BL.out⟩
    · have hlB : decide ((1 : Int) < (P.length : Int)) = true := decide_eq_true (by omega)
      clear hg hn
      go_enter Tryz.func7, Tryz.ntmps7
      go_wp2_with (go_at_call 17; refine (rgood_any _ P _ (HP.out.below (balloc (Below.refl _ w) _))).mono ?_; rw [HG.out]; rintro e w2 ⟨rfl, rfl⟩)
      go_ret
      exact ⟨_, rfl, LIT.out, BL.out⟩
  · have HG : Hid (goodP P = false) := by show _ = _; simpa using hg
    clear hg hn
    go_enter Tryz.func7, Tryz.ntmps7
    go_wp2_with (go_at_call 17; refine (rgood_any _ P _ (HP.out.below (balloc (Below.refl _ w) _))).mono ?_; rw [HG.out]; rintro e w2 ⟨rfl, rfl⟩)
    go_ret
    exact ⟨_, rfl, LIT.out, BL.out⟩
theorem rNext_yes (w : World) (vl pv sv : Value) (A : List It) (P : List Int) (S : List (List UInt8)) (hl : Its w vl A) (hok : ∀ x ∈ A, ItS x) (hn : A.length ≤ 1000000) (hp : Ns w pv P) (hs : Sms w sv S) (h32 : L32 S) (hg : goodP P = true) (hP : P.length < 2) (hS4 : S.length = 4) :
    Calls Tryz.prog 7 #[vl, pv, sv] w (PLQ w (nextL (belowAt A P) S P 4)) := by
  obtain ⟨xl, cl, rfl, -, -, -, hl2⟩ := hl.open
  obtain ⟨xa, ca, rfl, -, -, -, hp2⟩ := hp.open
  obtain ⟨xs, cs, rfl, -, -, -, hs2⟩ := hs.open
  have HL := Lib.hid hl2
  have HOK := Lib.hid hok
  have HP := Lib.hid hp2
  have HS := Lib.hid hs2
  have H32 := Lib.hid h32
  have HG := Lib.hid hg
  have HS4 := Lib.hid hS4
  have HX4 : Hid ((belowAt A P).length = 4) := belowAt_length hP
  have HX3 := Lib.hid (belowAt_32 A P)
  have hn4 : ((S.length : Int) != 4) = false := by rw [bne_eq_false_iff_eq]; omega
  have hPI : decide ((1 : Int) < (P.length : Int)) = false := decide_eq_false (by omega)
  have LIT := Lib.hid (PL.lit0 w)
  have B1 : Hid (Below w.heap.size w (w.alloc (.cells #[] 23))) := balloc (Below.refl _ _) _
  clear hl hl2 hok hp hp2 hs hs2 h32 hg hS4
  go_enter Tryz.func7, Tryz.ntmps7
  go_upto_region 4 with (go_at_call 17; refine (rgood_any _ P _ (HP.out.below B1.out)).mono ?_; rw [HG.out]; rintro e w2 ⟨rfl, rfl⟩)
  go_upto_region 5 with (go_at_call 18; refine (rBelow_row _ _ A P HG.out hP _ (HL.out.below B1.out) HOK.out hn (HP.out.below B1.out)).mono ?_; rintro e w2 ⟨v2, rfl, ho2, hb2⟩; have L2 := Lib.hid (LIT.out.below hb2 (Nat.le_refl _)); have B2 := Lib.hid (B1.out.trans (hb2.mono B1.out.size)); have O2 := Lib.hid (own_mono ho2 B1.out.size); clear ho2 hb2)
  rw [HX4.out] at O2
  generalize belowAt A P = X at *
  clear LIT B1 HL
  go_wp2_with fail
  go_loopw [7, 9] (fun ov iv wr => ∃ j : Nat, j ≤ 4 ∧ iv = .int .i64 j ∧ PL wr w.heap.size ov (nextL X S P j) ∧ wr.ownsRow w.heap.size 36 32 v2 4 (sumsC X) ∧ Below w.heap.size w wr) (fun _ iv _ => 4 - (intOf iv).toNat)
  case atStart => exact ⟨0, by omega, rfl, L2.out, O2.out, B2.out⟩
  case round =>
    obtain ⟨j, hj, rfl, hpl, hso, hb⟩ := hrel
    have PO := Lib.hid hpl
    have SO := Lib.hid hso
    have BR := Lib.hid hb
    have hwr := hb.size
    clear hpl hb L2 O2 B2
    by_cases hlt : j < 4
    · have hltI : (j : Int) < 4 := by omega
      have hltS : (j : Int) < (S.length : Int) := by have := HS4.out; omega
      have hsx : Sms wr v2 X := by unfold Sms; rw [HX4.out]; exact Shows.of_own hso
      obtain ⟨xx, cx, rfl, -, -, -, hsx2⟩ := hsx.open
      rw [HX4.out] at hsx2 SO ⊢
      have hltX : (j : Int) < ((4 : Nat) : Int) := by omega
      obtain ⟨bx, ox, rfl, hatx⟩ := hsx2.at (by have := HX4.out; omega) HX3.out
      obtain ⟨bs, os, rfl, haty⟩ := HS.out.at (by have := HS4.out; omega) H32.out
      have hrx := hatx j (by rw [HX4.out]; exact hlt)
      have hry := rangeAt_below (haty j (by rw [HS4.out]; exact hlt)) BR.out
      have hx32 : (X.getD j []).length = 32 := HX3.out _ (by simp [List.getD, List.getElem?_eq_getElem (show j < X.length by rw [HX4.out]; exact hlt)])
      have hy32 : (S.getD j []).length = 32 := H32.out _ (by simp [List.getD, List.getElem?_eq_getElem (show j < S.length by rw [HS4.out]; exact hlt)])
      have HNX := Lib.hid (nextL_succ X S P j)
      have hvl := nextL_length X S P j
      generalize X.getD j [] = x at *
      generalize S.getD j [] = y at *
      have HX32 := Lib.hid hx32
      have HY32 := Lib.hid hy32
      have HRX := Lib.hid hrx
      have HRY := Lib.hid hry
      clear hatx haty hrx hry hx32 hy32 hso hsx hsx2
      go_upto_region 8 with fail
      by_cases he : x = y
      · have HEQ : Hid ((x == y) = true) := by show _ = _; rw [beq_iff_eq]; exact he
        have hnx := HNX.out
        rw [if_pos he, List.append_nil] at hnx
        have HNX2 := Lib.hid hnx
        clear hnx HNX
        refine wp_region_held_drew (S := fun w' => Below wr.heap.size wr w') (by kernel_rfl) (by exact (Below.refl _ _).drew) (fun hHeld => ?_)
        refine wpAnyH_take (i := 0) (v := ?_) (by simp only [List.getElem?_toArray, List.getElem?_cons_zero, List.getElem?_cons_succ] <;> rfl) (by kernel_rfl) (by kernel_rfl) (by kernel_rfl) (by intro _ _ _ h; exact h) (Or.inl ⟨by rfl, ?_⟩) (by assumption) ?_
        rotate_left
        · intro w _; go_simp; try with_reducible rfl
        try simp only [Act.put, List.setIfInBounds_toArray, List.set_cons_zero, List.set_cons_succ, Array.replicate]
        refine wpAnyH_take (i := 1) (v := ?_) (by simp only [List.getElem?_toArray, List.getElem?_cons_zero, List.getElem?_cons_succ] <;> rfl) (by kernel_rfl) (by kernel_rfl) (by kernel_rfl) (by intro _ _ _ h; exact h) (Or.inl ⟨by rfl, ?_⟩) (by assumption) ?_
        rotate_left
        · intro w _; go_simp; try with_reducible rfl
        try simp only [Act.put, List.setIfInBounds_toArray, List.set_cons_zero, List.set_cons_succ, Array.replicate]
        refine wpAnyH_take (i := 2) (v := ?_) (by simp only [List.getElem?_toArray, List.getElem?_cons_zero, List.getElem?_cons_succ] <;> rfl) (by kernel_rfl) (by kernel_rfl) (by kernel_rfl) (by intro _ _ _ h; exact h) (Or.inl ⟨by rfl, ?_⟩) (by assumption) ?_
        rotate_left
        · intro w _; go_simp; try with_reducible rfl
        try simp only [Act.put, List.setIfInBounds_toArray, List.set_cons_zero, List.set_cons_succ, Array.replicate]
        refine wpAnyH_take (i := 3) (v := _) (by simp only [List.getElem?_toArray, List.getElem?_cons_zero, List.getElem?_cons_succ] <;> rfl) (by kernel_rfl) (by kernel_rfl) (by kernel_rfl) (by intro _ _ _ h; exact h) (yieldsIf_sum_mid (by with_unfolding_all rfl) (.tmp 34) rfl bx _ rfl x HX32.out (fun w' hS => rangeAt_below HRX.out hS)) (by assumption) ?_
        try simp only [Act.put, List.setIfInBounds_toArray, List.set_cons_zero, List.set_cons_succ, Array.replicate]
        refine wpAnyH_take (i := 4) (v := ?_) (by simp only [List.getElem?_toArray, List.getElem?_cons_zero, List.getElem?_cons_succ] <;> rfl) (by kernel_rfl) (by kernel_rfl) (by kernel_rfl) (by intro _ _ _ h; exact h) (Or.inl ⟨by rfl, ?_⟩) (by assumption) ?_
        rotate_left
        · intro w _; go_simp; try with_reducible rfl
        try simp only [Act.put, List.setIfInBounds_toArray, List.set_cons_zero, List.set_cons_succ, Array.replicate]
        refine wpAnyH_take (i := 5) (v := ?_) (by simp only [List.getElem?_toArray, List.getElem?_cons_zero, List.getElem?_cons_succ] <;> rfl) (by kernel_rfl) (by kernel_rfl) (by kernel_rfl) (by intro _ _ _ h; exact h) (Or.inl ⟨by rfl, ?_⟩) (by assumption) ?_
        rotate_left
        · intro w _; go_simp; try with_reducible rfl
        try simp only [Act.put, List.setIfInBounds_toArray, List.set_cons_zero, List.set_cons_succ, Array.replicate]
        refine wpAnyH_take (i := 6) (v := ?_) (by simp only [List.getElem?_toArray, List.getElem?_cons_zero, List.getElem?_cons_succ] <;> rfl) (by kernel_rfl) (by kernel_rfl) (by kernel_rfl) (by intro _ _ _ h; exact h) (Or.inl ⟨by rfl, ?_⟩) (by assumption) ?_
        rotate_left
        · intro w _; go_simp; try with_reducible rfl
        try simp only [Act.put, List.setIfInBounds_toArray, List.set_cons_zero, List.set_cons_succ, Array.replicate]
        refine wpAnyH_take (i := 7) (v := _) (by simp only [List.getElem?_toArray, List.getElem?_cons_zero, List.getElem?_cons_succ] <;> rfl) (by kernel_rfl) (by kernel_rfl) (by kernel_rfl) (by intro _ _ _ h; exact h) (yieldsIf_sum_mid (by with_unfolding_all rfl) (.tmp 38) rfl bs _ rfl y HY32.out (fun w' hS => rangeAt_below HRY.out hS)) (by assumption) ?_
        try simp only [Act.put, List.setIfInBounds_toArray, List.set_cons_zero, List.set_cons_succ, Array.replicate]
        refine wpAnyH_take (i := 8) (v := _) (by simp only [List.getElem?_toArray, List.getElem?_cons_zero, List.getElem?_cons_succ] <;> rfl) (by kernel_rfl) (by kernel_rfl) (by kernel_rfl) (by intro _ _ _ h; exact h) (yieldsIf_neq_sum (by with_unfolding_all rfl) (.tmp 35) (.tmp 39) rfl x y rfl rfl HX32.out HY32.out _ HEQ.out) (by assumption) ?_
        try simp only [Act.put, List.setIfInBounds_toArray, List.set_cons_zero, List.set_cons_succ, Array.replicate]
        refine wpAnyH_done (by kernel_rfl) ?_ _
        go_wp2_with fail
        have hbd : Below wr.heap.size wr _ := hHeld
        exact ⟨⟨j + 1, by omega, by go_num, by rw [HNX2.out]; exact PO.out.cel (Cel.of_below hbd), own_cel SO.out (Cel.of_below hbd), BR.out.trans (hbd.mono hwr)⟩, by simp [intOf]; omega⟩
      · have HEQ : Hid ((x == y) = false) := by show _ = _; rw [beq_eq_false_iff_ne]; exact he
        have hnx := HNX.out
        rw [if_neg he] at hnx
        have HNX2 := Lib.hid hnx
        clear hnx HNX
        refine wp_region_held_drew (S := fun w' => Below wr.heap.size wr w') (by kernel_rfl) (by exact (Below.refl _ _).drew) (fun hHeld => ?_)
        refine wpAnyH_take (i := 0) (v := ?_) (by simp only [List.getElem?_toArray, List.getElem?_cons_zero, List.getElem?_cons_succ] <;> rfl) (by kernel_rfl) (by kernel_rfl) (by kernel_rfl) (by intro _ _ _ h; exact h) (Or.inl ⟨by rfl, ?_⟩) (by assumption) ?_
        rotate_left
        · intro w _; go_simp; try with_reducible rfl
        try simp only [Act.put, List.setIfInBounds_toArray, List.set_cons_zero, List.set_cons_succ, Array.replicate]
        refine wpAnyH_take (i := 1) (v := ?_) (by simp only [List.getElem?_toArray, List.getElem?_cons_zero, List.getElem?_cons_succ] <;> rfl) (by kernel_rfl) (by kernel_rfl) (by kernel_rfl) (by intro _ _ _ h; exact h) (Or.inl ⟨by rfl, ?_⟩) (by assumption) ?_
        rotate_left
        · intro w _; go_simp; try with_reducible rfl
        try simp only [Act.put, List.setIfInBounds_toArray, List.set_cons_zero, List.set_cons_succ, Array.replicate]
        refine wpAnyH_take (i := 2) (v := ?_) (by simp only [List.getElem?_toArray, List.getElem?_cons_zero, List.getElem?_cons_succ] <;> rfl) (by kernel_rfl) (by kernel_rfl) (by kernel_rfl) (by intro _ _ _ h; exact h) (Or.inl ⟨by rfl, ?_⟩) (by assumption) ?_
        rotate_left
        · intro w _; go_simp; try with_reducible rfl
        try simp only [Act.put, List.setIfInBounds_toArray, List.set_cons_zero, List.set_cons_succ, Array.replicate]
        refine wpAnyH_take (i := 3) (v := _) (by simp only [List.getElem?_toArray, List.getElem?_cons_zero, List.getElem?_cons_succ] <;> rfl) (by kernel_rfl) (by kernel_rfl) (by kernel_rfl) (by intro _ _ _ h; exact h) (yieldsIf_sum_mid (by with_unfolding_all rfl) (.tmp 34) rfl bx _ rfl x HX32.out (fun w' hS => rangeAt_below HRX.out hS)) (by assumption) ?_
        try simp only [Act.put, List.setIfInBounds_toArray, List.set_cons_zero, List.set_cons_succ, Array.replicate]
        refine wpAnyH_take (i := 4) (v := ?_) (by simp only [List.getElem?_toArray, List.getElem?_cons_zero, List.getElem?_cons_succ] <;> rfl) (by kernel_rfl) (by kernel_rfl) (by kernel_rfl) (by intro _ _ _ h; exact h) (Or.inl ⟨by rfl, ?_⟩) (by assumption) ?_
        rotate_left
        · intro w _; go_simp; try with_reducible rfl
        try simp only [Act.put, List.setIfInBounds_toArray, List.set_cons_zero, List.set_cons_succ, Array.replicate]
        refine wpAnyH_take (i := 5) (v := ?_) (by simp only [List.getElem?_toArray, List.getElem?_cons_zero, List.getElem?_cons_succ] <;> rfl) (by kernel_rfl) (by kernel_rfl) (by kernel_rfl) (by intro _ _ _ h; exact h) (Or.inl ⟨by rfl, ?_⟩) (by assumption) ?_
        rotate_left
        · intro w _; go_simp; try with_reducible rfl
        try simp only [Act.put, List.setIfInBounds_toArray, List.set_cons_zero, List.set_cons_succ, Array.replicate]
        refine wpAnyH_take (i := 6) (v := ?_) (by simp only [List.getElem?_toArray, List.getElem?_cons_zero, List.getElem?_cons_succ] <;> rfl) (by kernel_rfl) (by kernel_rfl) (by kernel_rfl) (by intro _ _ _ h; exact h) (Or.inl ⟨by rfl, ?_⟩) (by assumption) ?_
        rotate_left
        · intro w _; go_simp; try with_reducible rfl
        try simp only [Act.put, List.setIfInBounds_toArray, List.set_cons_zero, List.set_cons_succ, Array.replicate]
        refine wpAnyH_take (i := 7) (v := _) (by simp only [List.getElem?_toArray, List.getElem?_cons_zero, List.getElem?_cons_succ] <;> rfl) (by kernel_rfl) (by kernel_rfl) (by kernel_rfl) (by intro _ _ _ h; exact h) (yieldsIf_sum_mid (by with_unfolding_all rfl) (.tmp 38) rfl bs _ rfl y HY32.out (fun w' hS => rangeAt_below HRY.out hS)) (by assumption) ?_
        try simp only [Act.put, List.setIfInBounds_toArray, List.set_cons_zero, List.set_cons_succ, Array.replicate]
        refine wpAnyH_take (i := 8) (v := _) (by simp only [List.getElem?_toArray, List.getElem?_cons_zero, List.getElem?_cons_succ] <;> rfl) (by kernel_rfl) (by kernel_rfl) (by kernel_rfl) (by intro _ _ _ h; exact h) (yieldsIf_neq_sum (by with_unfolding_all rfl) (.tmp 35) (.tmp 39) rfl x y rfl rfl HX32.out HY32.out _ HEQ.out) (by assumption) ?_
        try simp only [Act.put, List.setIfInBounds_toArray, List.set_cons_zero, List.set_cons_succ, Array.replicate]
        refine wpAnyH_done (by kernel_rfl) ?_ _
        have hbd : Below wr.heap.size wr wr.drew := (Below.refl _ _).drew
        obtain ⟨W9, hW9⟩ : ∃ W9, wr.drew = W9 := ⟨_, rfl⟩
        rw [hW9] at hbd ⊢
        have BD := Lib.hid hbd
        obtain ⟨vs, k1, k2, k3⟩ := PO.out.cel (Cel.of_below hbd)
        have hw9 := hbd.size
        have NS9 := Lib.hid (HP.out.below (BR.out.trans (hbd.mono hwr)))
        have K1 := Lib.hid k1
        have K2 := Lib.hid k2
        have K3 := Lib.hid k3
        have SO9 := Lib.hid (own_cel SO.out (Cel.of_below hbd))
        clear hbd hHeld k1 k2 k3 hW9 PO SO
        obtain ⟨va, vn, vc, rfl⟩ := own_form1 K1.out
        obtain ⟨i0, hi0, hz0, hz1, hz2⟩ := info_parts slice_info
        have HI0 := Lib.hid hi0
        have HZ0 := Lib.hid hz0
        have HZ1 := Lib.hid hz1
        have HZ2 := Lib.hid hz2
        have HVL : Hid (vs.length ≤ 4) := by have := K2.out; show _ ≤ _; omega
        clear hi0 hz0 hz1 hz2 hvl
        have hP17 : P.length + 1 ≤ 17592186044416 := by omega
        go_wp2_with (first
          | (at_builtin; refine app_ints (base := W9.heap.size) rfl (.tmp 42) (.tmp 43) rfl (l := []) rfl (OwnN.lit0 W9) rfl (NS9.out.below (balloc (Below.refl _ W9) _)) (by simp only [List.length_nil]; omega) (by simp) ?_; rw [List.nil_append]; intro v3 w3 ho3 hb3; have hb30 : Below W9.heap.size W9 w3 := ((balloc (Below.refl _ W9) _).trans hb3); have O3 := Lib.hid (OwnN.alloc' ho3 (.cells #[.int .i64 (j : Int)] 3)); have B3 := Lib.hid (hb30.alloc hb30.size (.cells #[.int .i64 (j : Int)] 3)); have hw3 := hb30.size; clear ho3 hb3 hb30)
          | (at_builtin; refine app_ints (base := W9.heap.size) rfl (.tmp 44) (.tmp 46) rfl (l := P) rfl O3.out rfl (lit1 w3 (j : Int)) (by simp only [List.length_singleton]; omega) (by simp; omega) ?_; intro v4 w4 ho4 hb4; obtain ⟨a4, n4, c4, hv4⟩ := ho4.form; subst hv4; obtain ⟨Wn, hWn⟩ : ∃ Wn, w4.alloc (.cells #[.slice a4 n4 c4] 23) = Wn := ⟨_, rfl⟩; have hbn : Below w4.heap.size w4 Wn := (by rw [← hWn]; exact (Below.refl _ _).alloc (Nat.le_refl _) _); have hnews : ∀ i q, ([.slice a4 n4 c4] : List Value)[i]? = some q → Wn.cell? ((⟨w4.heap.size, 0, none⟩ : Addr).add i) = some q := (fun i q hq => by rw [Addr.add_lit, Nat.zero_add, ← hWn, Row.cell (Row.new w4 23 [.slice a4 n4 c4]) i]; exact hq); have HNW := Lib.hid hnews; have HB9 := Lib.hid ((B3.out.trans hb4).trans (hbn.mono (B3.out.trans hb4).size)); have KN1 := Lib.hid (own_cel K1.out (Cel.of_below HB9.out)); have KN3 : Hid (∀ i, i < vs.length → OwnN Wn 0 (vs.getD i undef) ((nextL X S P j).getD i [])) := (fun i hi => (K3.out i hi).cel (Cel.of_below HB9.out)); have HG9 : Hid (OwnN Wn 0 (.slice a4 n4 c4) (P ++ [(j : Int)])) := (own_snocN ho4).cel (Cel.of_below hbn); have SOn := Lib.hid (own_cel SO9.out (Cel.of_below HB9.out)); have hwn := HB9.out.size; clear ho4 hb4 hbn hnews)
          | (at_builtin; refine wpList_append_own _ rfl (.tmp 41) (.tmp 48) 26 rfl w.heap.size 23 i0 (.slice none 0 0) 1 24 Tryz.underlying26 HI0.out HZ0.out HZ1.out HZ2.out rfl (by decide) (.slice va vn vc) vs.length vs rfl KN1.out ⟨w4.heap.size, 0, none⟩ 1 1 [.slice a4 n4 c4] rfl rfl HNW.out (by intro q hq; simp at hq; subst hq; rfl) (by have := HVL.out; unfold maxLen; omega) (by have := HVL.out; omega) (by omega) ?_; intro v5 w5 ho5 hg5 _; obtain ⟨a5, n5, c5, hv5⟩ := own_form1 ho5; subst hv5; have HO5 := Lib.hid ho5; have HG5 := Lib.hid hg5; clear ho5 hg5))
        have hk : Kpt Sp Wn w5 := Kpt.grown HG5.out (own_block KN1.out) (by unfold Sp; decide)
        refine ⟨⟨j + 1, by omega, by go_num, ?_, own_kp SOn.out hk sp_sum, ?_⟩, by simp [intOf]; omega⟩
        · rw [HNX2.out]
          exact PL.snoc KN1.out K2.out KN3.out HG9.out HO5.out hk
        · exact ((BR.out.trans (BD.out.mono hwr)).trans (HB9.out.mono (by omega))).grown HG5.out (by omega) (fun k hk => (World.ownsRow.lt KN1.out k hk).1)
    · have hjl : j = 4 := by omega
      subst hjl
      go_wp2_with fail
      obtain ⟨vs, k1, k2, k3⟩ := PO.out
      obtain ⟨va, vn, vc, rfl⟩ := own_form1 k1
      go_ret
      exact ⟨_, rfl, ⟨vs, k1, k2, k3⟩, BR.out⟩
theorem rNext_any (w : World) (vl pv sv : Value) (A : List It) (P : List Int) (S : List (List UInt8)) (hl : Its w vl A) (hok : ∀ x ∈ A, ItS x) (hn : A.length ≤ 1000000) (hp : Ns w pv P) (hs : Sms w sv S) (h32 : L32 S) :
    Calls Tryz.prog 7 #[vl, pv, sv] w (PLQ w (nextF A P S)) := by
  unfold nextF
  by_cases h : goodP P = true ∧ P.length < 2 ∧ S.length = 4
  · rw [if_pos h]
    exact rNext_yes w vl pv sv A P S hl hok hn hp hs h32 h.1 h.2.1 h.2.2
  · rw [if_neg h]
    exact rNext_no w vl pv sv P S hp hs h
end Go.Proofs.YticabllkadpmeaaGreatDoor
