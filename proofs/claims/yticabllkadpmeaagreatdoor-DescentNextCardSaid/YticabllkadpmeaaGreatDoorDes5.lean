/- Package descent: next. (printed by gen/des5.py) -/
import Derived.Test.YticabllkadpmeaaGreatDoorTAny
import Derived.OrdersHeld
import Derived.Deep.RegionHeld
namespace Go.Proofs.YticabllkadpmeaaGreatDoor
set_option linter.unusedVariables false
set_option linter.unusedSimpArgs false
set_option linter.unnecessarySimpa false
open Go.RowKit
open Tre (It)
set_option maxRecDepth 100000
set_option maxHeartbeats 8000000

/-- The paths below a path at which sums are others. -/
def nextL (X S : List (List UInt8)) (P : List Int) (n : Nat) : List (List Int) := ((List.range n).filter fun i => !(X.getD i [] == S.getD i [])).map fun i => P ++ [((i : Nat) : Int)]
theorem nextL_succ (X S : List (List UInt8)) (P : List Int) (n : Nat) : nextL X S P (n + 1) = nextL X S P n ++ (if X.getD n [] = S.getD n [] then [] else [P ++ [(n : Int)]]) := by
  unfold nextL
  rw [List.range_succ, List.filter_append, List.map_append]
  congr 1
  rw [List.filter_cons, List.filter_nil]
  by_cases h : X.getD n [] = S.getD n []
  · rw [if_pos h, if_neg (by rw [h]; simp)]; rfl
  · rw [if_neg h, if_pos (by simpa using h)]; rfl
theorem nextL_length (X S : List (List UInt8)) (P : List Int) (n : Nat) : (nextL X S P n).length ≤ n := by
  unfold nextL; rw [List.length_map]; exact Nat.le_trans (List.length_filter_le _ _) (by simp)
theorem belowAt_length {A : List It} {P : List Int} (h : P.length < 2) : (belowAt A P).length = 4 := by
  match P, h with
  | [], _ => rfl
  | [_], _ => rfl
theorem nss2' (w : World) (va : Option Addr) (vn vc : Nat) (P : List Int) (i : Nat) (h : Ns w (.slice va vn vc) P) :
    Nss ((w.alloc (.cells #[.int .i64 (i : Int)] 3)).alloc (.cells #[.slice va vn vc, .slice (some ⟨w.heap.size, 0, none⟩) 1 1] 23)) (.slice (some ⟨w.heap.size + 1, 0, none⟩) 2 2) [P, [(i : Int)]] := by
  have h1 : Ns ((w.alloc (.cells #[.int .i64 (i : Int)] 3)).alloc (.cells #[.slice va vn vc, .slice (some ⟨w.heap.size, 0, none⟩) 1 1] 23)) (.slice va vn vc) P :=
    h.below (((Below.refl _ w).alloc (Nat.le_refl _) _).alloc (by simp) _)
  have h2 : Ns ((w.alloc (.cells #[.int .i64 (i : Int)] 3)).alloc (.cells #[.slice va vn vc, .slice (some ⟨w.heap.size, 0, none⟩) 1 1] 23)) (.slice (some ⟨w.heap.size, 0, none⟩) 1 1) [(i : Int)] :=
    (Shows.of_own (Own1.lit w 3 (nums .i64 [(i : Int)]))).below ((Below.refl _ _).alloc (Nat.le_refl _) _)
  have h3 := Own1.lit (w.alloc (.cells #[.int .i64 (i : Int)] 3)) 23 [.slice va vn vc, .slice (some ⟨w.heap.size, 0, none⟩) 1 1]
  rw [World.size_alloc] at h3
  refine ⟨[.slice va vn vc, .slice (some ⟨w.heap.size, 0, none⟩) 1 1], h3.shows, fun j hj => ?_⟩
  simp only [List.length_cons, List.length_nil] at hj
  rcases (show j = 0 ∨ j = 1 by omega) with rfl | rfl
  · exact ⟨_, rfl, h1⟩
  · exact ⟨_, rfl, h2⟩
/-- What 'next' leaves. -/
def PLQ (w : World) (Ps : List (List Int)) (e : Ending) (w' : World) : Prop := ∃ v', e = .returned v' ∧ PL w' w.heap.size v' Ps ∧ Below w.heap.size w w'
theorem next_any (w : World) (B b : Nat) (T : TS) (A : List It) (pv sv : Value) (P : List Int) (S : List (List UInt8)) (h : Tr w B b T) (hA : IsT T A) (hp : Ns w pv P) (hg : goodP P = true) (hl : P.length < 2) (hs : Sms w sv S) (h32 : L32 S) (hS4 : S.length = 4) :
    Calls Tryz.prog 11 #[.pointer (some ⟨b, 0, none⟩), pv, sv] w (PLQ w (nextL (belowAt A P) S P 4)) := by
  obtain ⟨xa, ca, rfl, -, -, -, hp2⟩ := hp.open
  obtain ⟨xs, cs, rfl, -, -, -, hs2⟩ := hs.open
  have HT := Lib.hid h
  have HA := Lib.hid hA
  have HP := Lib.hid hp2
  have HS := Lib.hid hs2
  have H32 := Lib.hid h32
  have HGP := Lib.hid hg
  have HS4 := Lib.hid hS4
  have HD1 : Hid (decide (P.length < 2) = true) := by show _ = _; simp; omega
  have HX4 : Hid ((belowAt A P).length = 4) := belowAt_length hl
  have HX3 := Lib.hid (belowAt_32 A P)
  have HPL : Hid (P.length < 2) := hl
  have hn4 : (S.length : Int) = 4 := by omega
  clear h hA hp hp2 hs hs2 h32 hg hS4 hl
  go_enter Tryz.func11, Tryz.ntmps11
  go_upto_region 2 with (go_at_call 22; refine (Below_good _ _ _ T A _ P HT.out HA.out HP.out HGP.out).mono ?_; rw [HD1.out]; rintro e w2 ⟨v2, rfl, hs2, hb2⟩; obtain ⟨x2, c2, hv2, -, -, -, hs2'⟩ := hs2.open; subst hv2; have S2 := Lib.hid hs2'; have B2 := Lib.hid hb2; clear hs2 hs2' hb2)
  rw [HX4.out] at S2 ⊢
  generalize belowAt A P = X at *
  go_wp2_with fail
  go_loopw [9, 29] (fun ov iv wr => ∃ j : Nat, j ≤ 4 ∧ iv = .int .i64 j ∧ PL wr w2.heap.size ov (nextL X S P j) ∧ Below w2.heap.size w2 wr) (fun _ iv _ => 4 - (intOf iv).toNat)
  case atStart => exact ⟨0, by omega, rfl, PL.nil _ _, Below.refl _ _⟩
  case round =>
    obtain ⟨j, hj, rfl, hpl, hb2⟩ := hrel
    have hb := B2.out.trans (hb2.mono B2.out.size)
    have PO := Lib.hid hpl
    have BR := Lib.hid hb
    have BR2 := Lib.hid hb2
    have hwr := hb.size
    have hwr2 := hb2.size
    clear hpl hb hb2
    by_cases hlt : j < 4
    · have hltI : (j : Int) < 4 := by omega
      have hltS : (j : Int) < (S.length : Int) := by omega
      obtain ⟨bx, ox, rfl, hatx⟩ := S2.out.at (by have := HX4.out; omega) HX3.out
      obtain ⟨bs, os, rfl, haty⟩ := HS.out.at (by have := HS4.out; omega) H32.out
      have hrx := rangeAt_below (hatx j (by rw [HX4.out]; exact hlt)) BR2.out
      have hry := rangeAt_below (haty j (by rw [HS4.out]; exact hlt)) BR.out
      have hx32 : (X.getD j []).length = 32 := HX3.out _ (by simp [List.getD, List.getElem?_eq_getElem (show j < X.length by rw [HX4.out]; exact hlt)])
      have hy32 : (S.getD j []).length = 32 := H32.out _ (by simp [List.getD, List.getElem?_eq_getElem (show j < S.length by rw [HS4.out]; exact hlt)])
      have HNX := Lib.hid (nextL_succ X S P j)
      have hvl := nextL_length X S P j
      generalize X.getD j [] = x at *
      generalize S.getD j [] = y at *
      have HX32 := Lib.hid hx32
      have HY32 := Lib.hid hy32
      have HRX0 := Lib.hid hrx
      obtain ⟨hz0, wz, hWz, hrz, hbz⟩ := boxS wr x hx32
      have HZ0 := Lib.hid hz0
      have HRX : Hid (wz.rangeAt wr.heap.size 0 (bytes x)) := fun i v hv => by rw [Nat.zero_add, hrz.cell]; exact hv
      have HRY := Lib.hid (rangeAt_below hry hbz)
      have BZ := Lib.hid hbz
      clear hatx haty hrx hry hx32 hy32 hz0 hrz hbz
      go_upto_region 8 with (first
        | (with_reducible refine load_sum_mid rfl (.tmp 32) rfl bx _ rfl x HX32.out HRX0.out ?_)
        | (with_reducible refine store_sum rfl (.tmp 11) (.tmp 33) rfl wr.heap.size rfl x rfl HX32.out 36 Tre0 HZ0.out rfl ?_))
      try rw [hWz]
      clear hWz
      by_cases he : x = y
      · have HEQ : Hid ((x == y) = true) := by show _ = _; rw [beq_iff_eq]; exact he
        have hnx := HNX.out
        rw [if_pos he, List.append_nil] at hnx
        have HNX2 := Lib.hid hnx
        clear hnx HNX
        refine wp_region_held_drew (S := fun w' => Below wz.heap.size wz w') (by kernel_rfl) (by exact (Below.refl _ _).drew) (fun hHeld => ?_)
        refine wpAnyH_take (i := 0) (v := _) (by simp only [List.getElem?_toArray, List.getElem?_cons_zero, List.getElem?_cons_succ] <;> rfl) (by kernel_rfl) (by kernel_rfl) (by kernel_rfl) (by intro _ _ _ h; exact h) (yieldsIf_sum_mid (by with_unfolding_all rfl) (.tmp 11) rfl wr.heap.size 0 rfl x HX32.out (fun w' hS => rangeAt_below HRX.out hS)) (by assumption) ?_
        try simp only [Act.put, List.setIfInBounds_toArray, List.set_cons_zero, List.set_cons_succ, Array.replicate]
        refine wpAnyH_take (i := 1) (v := ?_) (by simp only [List.getElem?_toArray, List.getElem?_cons_zero, List.getElem?_cons_succ] <;> rfl) (by kernel_rfl) (by kernel_rfl) (by kernel_rfl) (by intro _ _ _ h; exact h) (Or.inl ⟨by rfl, ?_⟩) (by assumption) ?_
        rotate_left
        · intro w _; go_simp; try with_reducible rfl
        try simp only [Act.put, List.setIfInBounds_toArray, List.set_cons_zero, List.set_cons_succ, Array.replicate]
        refine wpAnyH_take (i := 2) (v := ?_) (by simp only [List.getElem?_toArray, List.getElem?_cons_zero, List.getElem?_cons_succ] <;> rfl) (by kernel_rfl) (by kernel_rfl) (by kernel_rfl) (by intro _ _ _ h; exact h) (Or.inl ⟨by rfl, ?_⟩) (by assumption) ?_
        rotate_left
        · intro w _; go_simp; try with_reducible rfl
        try simp only [Act.put, List.setIfInBounds_toArray, List.set_cons_zero, List.set_cons_succ, Array.replicate]
        refine wpAnyH_take (i := 3) (v := ?_) (by simp only [List.getElem?_toArray, List.getElem?_cons_zero, List.getElem?_cons_succ] <;> rfl) (by kernel_rfl) (by kernel_rfl) (by kernel_rfl) (by intro _ _ _ h; exact h) (Or.inl ⟨by rfl, ?_⟩) (by assumption) ?_
        rotate_left
        · intro w _; go_simp; try with_reducible rfl
        try simp only [Act.put, List.setIfInBounds_toArray, List.set_cons_zero, List.set_cons_succ, Array.replicate]
        refine wpAnyH_take (i := 4) (v := _) (by simp only [List.getElem?_toArray, List.getElem?_cons_zero, List.getElem?_cons_succ] <;> rfl) (by kernel_rfl) (by kernel_rfl) (by kernel_rfl) (by intro _ _ _ h; exact h) (yieldsIf_sum_mid (by with_unfolding_all rfl) (.tmp 37) rfl bs _ rfl y HY32.out (fun w' hS => rangeAt_below HRY.out hS)) (by assumption) ?_
        try simp only [Act.put, List.setIfInBounds_toArray, List.set_cons_zero, List.set_cons_succ, Array.replicate]
        refine wpAnyH_take (i := 5) (v := _) (by simp only [List.getElem?_toArray, List.getElem?_cons_zero, List.getElem?_cons_succ] <;> rfl) (by kernel_rfl) (by kernel_rfl) (by kernel_rfl) (by intro _ _ _ h; exact h) (yieldsIf_neq_sum (by with_unfolding_all rfl) (.tmp 34) (.tmp 38) rfl x y rfl rfl HX32.out HY32.out _ HEQ.out) (by assumption) ?_
        try simp only [Act.put, List.setIfInBounds_toArray, List.set_cons_zero, List.set_cons_succ, Array.replicate]
        refine wpAnyH_done (by kernel_rfl) ?_ _
        go_wp2_with fail
        have hbd : Below wr.heap.size wr _ := BZ.out.trans ((show Below wz.heap.size wz _ from hHeld).mono BZ.out.size)
        exact ⟨⟨j + 1, by omega, by go_num, by rw [HNX2.out]; exact PO.out.cel (Cel.of_below hbd), BR2.out.trans (hbd.mono hwr2)⟩, by simp [intOf]; omega⟩
      · have HEQ : Hid ((x == y) = false) := by show _ = _; rw [beq_eq_false_iff_ne]; exact he
        have hnx := HNX.out
        rw [if_neg he] at hnx
        have HNX2 := Lib.hid hnx
        clear hnx HNX
        refine wp_region_held_drew (S := fun w' => Below wz.heap.size wz w') (by kernel_rfl) (by exact (Below.refl _ _).drew) (fun hHeld => ?_)
        refine wpAnyH_take (i := 0) (v := _) (by simp only [List.getElem?_toArray, List.getElem?_cons_zero, List.getElem?_cons_succ] <;> rfl) (by kernel_rfl) (by kernel_rfl) (by kernel_rfl) (by intro _ _ _ h; exact h) (yieldsIf_sum_mid (by with_unfolding_all rfl) (.tmp 11) rfl wr.heap.size 0 rfl x HX32.out (fun w' hS => rangeAt_below HRX.out hS)) (by assumption) ?_
        try simp only [Act.put, List.setIfInBounds_toArray, List.set_cons_zero, List.set_cons_succ, Array.replicate]
        refine wpAnyH_take (i := 1) (v := ?_) (by simp only [List.getElem?_toArray, List.getElem?_cons_zero, List.getElem?_cons_succ] <;> rfl) (by kernel_rfl) (by kernel_rfl) (by kernel_rfl) (by intro _ _ _ h; exact h) (Or.inl ⟨by rfl, ?_⟩) (by assumption) ?_
        rotate_left
        · intro w _; go_simp; try with_reducible rfl
        try simp only [Act.put, List.setIfInBounds_toArray, List.set_cons_zero, List.set_cons_succ, Array.replicate]
        refine wpAnyH_take (i := 2) (v := ?_) (by simp only [List.getElem?_toArray, List.getElem?_cons_zero, List.getElem?_cons_succ] <;> rfl) (by kernel_rfl) (by kernel_rfl) (by kernel_rfl) (by intro _ _ _ h; exact h) (Or.inl ⟨by rfl, ?_⟩) (by assumption) ?_
        rotate_left
        · intro w _; go_simp; try with_reducible rfl
        try simp only [Act.put, List.setIfInBounds_toArray, List.set_cons_zero, List.set_cons_succ, Array.replicate]
        refine wpAnyH_take (i := 3) (v := ?_) (by simp only [List.getElem?_toArray, List.getElem?_cons_zero, List.getElem?_cons_succ] <;> rfl) (by kernel_rfl) (by kernel_rfl) (by kernel_rfl) (by intro _ _ _ h; exact h) (Or.inl ⟨by rfl, ?_⟩) (by assumption) ?_
        rotate_left
        · intro w _; go_simp; try with_reducible rfl
        try simp only [Act.put, List.setIfInBounds_toArray, List.set_cons_zero, List.set_cons_succ, Array.replicate]
        refine wpAnyH_take (i := 4) (v := _) (by simp only [List.getElem?_toArray, List.getElem?_cons_zero, List.getElem?_cons_succ] <;> rfl) (by kernel_rfl) (by kernel_rfl) (by kernel_rfl) (by intro _ _ _ h; exact h) (yieldsIf_sum_mid (by with_unfolding_all rfl) (.tmp 37) rfl bs _ rfl y HY32.out (fun w' hS => rangeAt_below HRY.out hS)) (by assumption) ?_
        try simp only [Act.put, List.setIfInBounds_toArray, List.set_cons_zero, List.set_cons_succ, Array.replicate]
        refine wpAnyH_take (i := 5) (v := _) (by simp only [List.getElem?_toArray, List.getElem?_cons_zero, List.getElem?_cons_succ] <;> rfl) (by kernel_rfl) (by kernel_rfl) (by kernel_rfl) (by intro _ _ _ h; exact h) (yieldsIf_neq_sum (by with_unfolding_all rfl) (.tmp 34) (.tmp 38) rfl x y rfl rfl HX32.out HY32.out _ HEQ.out) (by assumption) ?_
        try simp only [Act.put, List.setIfInBounds_toArray, List.set_cons_zero, List.set_cons_succ, Array.replicate]
        refine wpAnyH_done (by kernel_rfl) ?_ _
        have hbd : Below wr.heap.size wr wz.drew := BZ.out.trans ((show Below wz.heap.size wz _ from hHeld).mono BZ.out.size)
        obtain ⟨W9, hW9⟩ : ∃ W9, wz.drew = W9 := ⟨_, rfl⟩
        rw [hW9] at hbd ⊢
        have BD := Lib.hid hbd
        obtain ⟨vs, k1, k2, k3⟩ := PO.out.cel (Cel.of_below hbd)
        have hw9 := hbd.size
        have NS9 := Lib.hid (HP.out.below (BR.out.trans (hbd.mono hwr)))
        obtain ⟨Wa, hWa⟩ : ∃ Wa, (W9.alloc (.cells #[.int .i64 (j : Int)] 3)).alloc (.cells #[.slice xa P.length ca, .slice (some ⟨W9.heap.size, 0, none⟩) 1 1] 23) = Wa := ⟨_, rfl⟩
        have hba : Below W9.heap.size W9 Wa := by rw [← hWa]; exact ((Below.refl _ W9).alloc (Nat.le_refl _) _).alloc (by simp) _
        have HNS : Hid (Nss Wa (.slice (some ⟨W9.heap.size + 1, 0, none⟩) 2 2) [P, [(j : Int)]]) := by rw [← hWa]; exact nss2' W9 xa P.length ca P j NS9.out
        have BA := Lib.hid hba
        have K1 := Lib.hid k1
        have K2 := Lib.hid k2
        have K3 := Lib.hid k3
        clear hbd hHeld k1 k2 k3 hba hW9
        obtain ⟨va, vn, vc, rfl⟩ := own_form1 K1.out
        obtain ⟨i0, hi0, hz0, hz1, hz2⟩ := info_parts slice_info
        have HI0 := Lib.hid hi0
        have HZ0 := Lib.hid hz0
        have HZ1 := Lib.hid hz1
        have HZ2 := Lib.hid hz2
        have HVL : Hid (vs.length ≤ 4) := by have := K2.out; show _ ≤ _; omega
        have hwa := BA.out.size
        clear hi0 hz0 hz1 hz2 hvl
        go_wp2_with (first
          | (go_at_call 23; refine (concatN_any _ [P, [(j : Int)]] Wa HNS.out (by simp) (by have := HPL.out; simp; omega)).mono ?_; rintro e w3 ⟨v3, rfl, ho3, hb3⟩; obtain ⟨a3, n3, c3, hv3⟩ := ho3.form; subst hv3; obtain ⟨Wn, hWn⟩ : ∃ Wn, w3.alloc (.cells #[.slice a3 n3 c3] 23) = Wn := ⟨_, rfl⟩; have hbn : Below w3.heap.size w3 Wn := (by rw [← hWn]; exact (Below.refl _ _).alloc (Nat.le_refl _) _); have hnews : ∀ i q, ([.slice a3 n3 c3] : List Value)[i]? = some q → Wn.cell? ((⟨w3.heap.size, 0, none⟩ : Addr).add i) = some q := (fun i q hq => by rw [Addr.add_lit, Nat.zero_add, ← hWn, Row.cell (Row.new w3 23 [.slice a3 n3 c3]) i]; exact hq); have HNW := Lib.hid hnews; have HB9 := Lib.hid (BA.out.trans ((hb3.trans (hbn.mono hb3.size)).mono hwa)); have KN1 := Lib.hid (own_cel K1.out (Cel.of_below HB9.out)); have KN3 : Hid (∀ i, i < vs.length → OwnN Wn 0 (vs.getD i undef) ((nextL X S P j).getD i [])) := (fun i hi => (K3.out i hi).cel (Cel.of_below HB9.out)); have HG : Hid (OwnN Wn 0 (.slice a3 n3 c3) (P ++ [(j : Int)])) := (own_zero ho3).cel (Cel.of_below hbn); have hwn := HB9.out.size; clear ho3 hb3 hbn hnews)
          | (at_builtin; refine wpList_append_own _ rfl (.tmp 40) (.tmp 46) 26 rfl w2.heap.size 23 i0 (.slice none 0 0) 1 24 Tryz.underlying26 HI0.out HZ0.out HZ1.out HZ2.out rfl (by decide) (.slice va vn vc) vs.length vs rfl KN1.out ⟨w3.heap.size, 0, none⟩ 1 1 [.slice a3 n3 c3] rfl rfl HNW.out (by intro q hq; simp at hq; subst hq; rfl) (by have := HVL.out; unfold maxLen; omega) (by have := HVL.out; omega) (by omega) ?_; intro v4 w4 ho4 hg4 _; obtain ⟨a4, n4, c4, hv4⟩ := own_form1 ho4; subst hv4; have HO4 := Lib.hid ho4; have HG4 := Lib.hid hg4; clear ho4 hg4))
        have hk : Kpt Sp Wn w4 := Kpt.grown HG4.out (own_block KN1.out) (by unfold Sp; decide)
        refine ⟨⟨j + 1, by omega, by go_num, ?_, ?_⟩, by simp [intOf]; omega⟩
        · rw [HNX2.out]
          exact PL.snoc KN1.out K2.out KN3.out HG.out HO4.out hk
        · exact (BR2.out.trans ((BD.out.trans (HB9.out.mono hw9)).mono hwr2)).grown HG4.out (by omega) (fun k hk => (World.ownsRow.lt KN1.out k hk).1)
    · have hjl : j = 4 := by omega
      subst hjl
      go_wp2_with fail
      go_ret
      obtain ⟨vs, k1, k2, k3⟩ := PO.out
      exact ⟨_, rfl, ⟨vs, own_mono k1 B2.out.size, k2, k3⟩, BR.out⟩
end Go.Proofs.YticabllkadpmeaaGreatDoor
