/- The law TreeWay, its walk. (printed by gen/tway.py) -/
import Derived.Test.YtnhkbbladifmmaaDoorTAny
import Derived.Test.YtnhkbbladifmmaaDoorOn21
import Derived.OrdersHeld
import Derived.Deep.RegionHeld
namespace Go.Proofs.YtnhkbbladifmmaaDoor
set_option linter.unusedVariables false
set_option linter.unusedSimpArgs false
set_option linter.unnecessarySimpa false
open Go.RowKit
open Tre (It)
set_option maxRecDepth 100000
set_option maxHeartbeats 8000000

theorem TreeWay_walk (v : Value) (l : List It) (x : It) (w : World) (hg : Glob w) (hs : Its w v l) (hok : Oks l) (hsz : l.length ≤ 140737488355328) (hx : ItOk x) :
    Calls Tryd.prog 4 #[v, itV x] w fun e w' => e = .returned (.bool true) ∧ Below w.heap.size w w' := by
  obtain ⟨W0, hW0⟩ : ∃ W0, w.alloc (.cells (itC x).toArray 32) = W0 := ⟨_, rfl⟩
  have hrx : Row W0 w.heap.size 32 (itC x) := by rw [← hW0]; exact Row.new w 32 (itC x)
  have hb0 : Below w.heap.size w W0 := by rw [← hW0]; exact balloc (Below.refl _ _) _
  have hz3 := hg.1
  have hz0 := hb0.size
  have R0 := Lib.hid hrx
  have B0 := Lib.hid hb0
  have G0 := Lib.hid (Glob.below hg hb0 hz3)
  have HS := Lib.hid (hs.below hb0)
  have HOK := Lib.hid hok
  have HX := Lib.hid hx
  have HF1 : Hid (∀ y ∈ fewL l, ItS y) := fewL_its hok
  have HF2 : Hid ((fewL l).length ≤ 8) := fewL_length l
  obtain ⟨A, hA⟩ : ∃ A, Tre.all (fewL l) = A := ⟨_, rfl⟩
  have hAr : Hid (Tre.Rise A) := by rw [← hA]; exact Tre.all_rise _
  have HA := Lib.hid hA
  clear hrx hb0 hg hs hok hx hA
  go_enter Tryd.func4, Tryd.ntmps4
  go_upto_region 2 with (go_at_call 9; refine (few_any v l _ HS.out HOK.out hsz).mono ?_; rintro e w1 ⟨v1, rfl, ho1, hb1⟩; have O1 := Lib.hid ho1.its; have B1 := Lib.hid (B0.out.trans (hb1.mono hz0)); have R1 := Lib.hid (R0.out.keep hb1); have G1 := Lib.hid (Glob.below G0.out hb1 (by omega)); clear ho1 hb1)
  have hw1 := B1.out.size
  have hxc : w1.cell? ⟨w.heap.size, 0, none⟩ = some (.string x.name) := by
    have := Row.cell R1.out 0
    simpa [itC] using this
  have hxl : (x.name.size : Int) ≤ 9223372036854775807 := by have := HX.out.2.2; unfold maxLen at this; omega
  by_cases hbig : 200 < x.name.size
  · have hbI : (x.name.size : Int) > 200 := by omega
    go_wp2_with (go_at_call 14; refine (lives_any _ G1.out).mono ?_; rintro e wl ⟨rfl, hbl⟩; have BL := Lib.hid (B1.out.trans (hbl.mono hw1)); clear hbl)
    go_ret
    exact ⟨rfl, BL.out⟩
  have hbI : ¬ (x.name.size : Int) > 200 := by omega
  have HXS : Hid (ItS x) := ⟨HX.out, by omega⟩
  have tok1 : True := trivial
  go_upto_region 5 with (first
    | (at_builtin; first | (have tok := tok1; refine app_items (base := w1.heap.size) rfl (.tmp 20) (.tmp 21) rfl (L := []) rfl (OwnI.lit0 w1) rfl (O1.out.below (balloc (Below.refl _ w1) _)) (by have := HF2.out; simp only [List.length_nil]; omega) (by simp) ?_; rw [List.nil_append]; intro v3 w3 ho3' hb3; have hb30 : Below w1.heap.size w1 w3 := ((balloc (Below.refl _ w1) _).trans hb3); have O3 := Lib.hid ho3'.its; have O13 := Lib.hid (O1.out.below hb30); have B3 := Lib.hid (B1.out.trans (hb30.mono hw1)); have R3 := Lib.hid (R1.out.keep hb30); have hw3 := B3.out.size; have G3 := Lib.hid (Glob.below G1.out hb30 (by omega)); clear tok tok1 ho3' hb3 hb30) | (refine app_items (base := w4.heap.size) rfl (.tmp 24) (.tmp 25) rfl (L := []) rfl (OwnI.lit0 w4) rfl (O14.out.below (balloc (Below.refl _ w4) _)) (by have := HF2.out; simp only [List.length_nil]; omega) (by simp) ?_; rw [List.nil_append]; intro v5 w5 ho5' hb5; have hb50 : Below w4.heap.size w4 w5 := ((balloc (Below.refl _ w4) _).trans hb5); have O5 := Lib.hid ho5'.its; have B5 := Lib.hid (B4.out.trans (hb50.mono hw4)); have R5 := Lib.hid (R4.out.keep hb50); have hw5 := B5.out.size; have TA5 := Lib.hid (TA4.out.below hb50 (Nat.le_refl _)); have G5 := Lib.hid (Glob.below G4.out hb50 (by omega)); clear ho5' hb5 hb50))
    | (go_at_call 10; first | (refine (Build_any v5 (fewL l) _ G5.out O5.out HF1.out (by have := HF2.out; omega)).mono ?_; rw [HA.out]; rintro e w6 ⟨TB, rfl, ht6, hi6, hn6, hb6⟩; have TB6 := Lib.hid ht6; have IB := Lib.hid hi6; have NB := Lib.hid hn6; have B6 := Lib.hid (B5.out.trans (hb6.mono hw5)); have R6 := Lib.hid (R5.out.keep hb6); have B56 := Lib.hid hb6; have G6 := Lib.hid (Glob.below G5.out hb6 (by omega)); clear ht6 hi6 hn6 hb6) | (refine (Build_any v3 (fewL l) _ G3.out O3.out HF1.out (by have := HF2.out; omega)).mono ?_; rw [HA.out]; rintro e w4 ⟨TA, rfl, ht4, hi4, hn4, hb4⟩; have TA4 := Lib.hid ht4; have IA := Lib.hid hi4; have B4 := Lib.hid (B3.out.trans (hb4.mono hw3)); have R4 := Lib.hid (R3.out.keep hb4); have hw4 := B4.out.size; have O14 := Lib.hid (O13.out.below hb4); have G4 := Lib.hid (Glob.below G3.out hb4 (by omega)); clear ht4 hi4 hn4 hb4)))
  obtain ⟨D, hD⟩ : ∃ D, w5.heap.size = D := ⟨_, rfl⟩
  have HD : Hid (w5.heap.size ≤ D) := Nat.le_of_eq hD
  have hxD : w.heap.size < D := by have := R5.out.lt; omega
  have hD3 : 3 ≤ D := by omega
  rw [hD] at TB6 B56
  simp only [hD]
  clear hD
  obtain ⟨E, hE⟩ : ∃ E, w3.heap.size = E := ⟨_, rfl⟩
  rw [hE] at TA5
  simp only [hE]
  clear hE O1 O13 O14 O3 O5 R1 R3 R4 R0 TA4 G1 G3 G4 B1 B3 B4 HS HOK hxc
  have hrg : Hid (w6.rangeAt w.heap.size 0 (itC x)) := fun j v hv => by rw [Nat.zero_add, Row.cell R6.out]; exact hv
  have HNb : Hid (TB.N + 1 ≤ 1000000) := by have := NB.out; have := HF2.out; show _ ≤ _; omega
  go_upto_region 9 with (first
    | (with_reducible refine load_item rfl (.tmp 3) rfl w.heap.size 0 rfl x HX.out hrg.out ?_)
    | (go_at_call 11; refine (tPut_any _ D D TB A x G6.out TB6.out IB.out HXS.out HNb.out hD3).mono ?_; rintro e w7 ⟨T2, rfl, ht7, hi7, hn7, hb7, -⟩; have TB7 := Lib.hid ht7; have I7 := Lib.hid hi7; have B7 := Lib.hid (B56.out.trans hb7); have G7 := Lib.hid (Glob.below G6.out hb7 hD3); have R7 := Lib.hid (R5.out.below B7.out hxD); have TA7 := Lib.hid (TA5.out.below B7.out HD.out); have BW7 := Lib.hid (B5.out.trans (B7.out.mono (Nat.le_of_lt hxD))); clear ht7 hi7 hn7 hb7)
    | (go_at_call 12; refine (Paths_any _).mono ?_; rintro e wp ⟨vp, rfl, hp, hbp⟩; have PP := Lib.hid hp; have TAP := Lib.hid (TA7.out.below hbp (Nat.le_refl _)); have TBP := Lib.hid (TB7.out.below hbp (Nat.le_refl _)); have GP := Lib.hid (Glob.below G7.out hbp (by have := TB7.out.row.lt; omega)); have RP := Lib.hid (R7.out.keep hbp); have BWP := Lib.hid (BW7.out.trans (hbp.mono BW7.out.size)); clear hp hbp))
  clear TB7 TA7 G7 R7 BW7 B7 TB6 TA5 G6 G5 R6 R5 B6 B5 B56 hrg IB NB HNb
  have hl21 : (psTo 3).length = 21 := by decide
  obtain ⟨ap, cp, hvp⟩ := PP.out.len
  rw [hl21] at hvp
  subst hvp
  have HL21 := Lib.hid hl21
  clear hl21
  go_wp2_with fail
  go_loopw [8] (fun iv wq => ∃ q : Nat, q ≤ 21 ∧ iv = .int .i64 q ∧ Below wp.heap.size wp wq) (fun iv _ => 21 - (intOf iv).toNat)
  case atStart => exact ⟨0, by omega, rfl, Below.refl _ _⟩
  case round =>
    obtain ⟨q, hq, rfl, hbq⟩ := hrel
    have BQ := Lib.hid hbq
    have hwq := hbq.size
    clear hbq
    by_cases hlt : q < 21
    · have hltI : (q : Int) < 21 := by omega
      obtain ⟨pb, po, pv, rfl, hpc, hpn⟩ := PP.out.at q (by rw [HL21.out]; exact hlt)
      have hpc2 := bcell BQ.out hpc (blt hpc)
      have hgood := psTo_good ((psTo 3).getD q []) (by simp [List.getD, List.getElem?_eq_getElem (show q < (psTo 3).length by rw [HL21.out]; exact hlt)])
      have hns := hpn.ns.below BQ.out
      generalize (psTo 3).getD q [] = P at *
      obtain ⟨sA, hsA⟩ : ∃ s, Tre.sumAt A P = s := ⟨_, rfl⟩
      obtain ⟨sB, hsB⟩ : ∃ s, Tre.sumAt (Tre.put A x) P = s := ⟨_, rfl⟩
      have HA32 : Hid (sA.length = 32) := by rw [← hsA]; exact sumAt_length _ _
      have HB32 : Hid (sB.length = 32) := by rw [← hsB]; exact sumAt_length _ _
      have HSA := Lib.hid hsA
      have HSB := Lib.hid hsB
      have HGD := Lib.hid hgood
      have HNS := Lib.hid hns
      have TAQ := Lib.hid (TAP.out.below BQ.out (Nat.le_refl _))
      have TBQ := Lib.hid (TBP.out.below BQ.out (Nat.le_refl _))
      have RQ := Lib.hid (RP.out.keep BQ.out)
      clear hsA hsB hgood hns hpc hpn
      go_upto_region 13 with (first
        | (go_at_call 13; refine (Sum_good _ _ _ TA A pv P TAQ.out IA.out HNS.out HGD.out).mono ?_; rw [HSA.out]; rintro e w8 ⟨rfl, hb8⟩; obtain ⟨hz8, W9, hW9, hr9, hb9⟩ := boxS w8 sA HA32.out; have HZ8 := Lib.hid hz8; have R9 := Lib.hid hr9; have hw8 := hb8.size; have B9 := Lib.hid (hb8.trans (hb9.mono hw8)); clear hz8 hr9 hb8 hb9)
        | (with_reducible refine store_sum rfl (.tmp 9) (.tmp 51) rfl w8.heap.size rfl sA rfl HA32.out 30 Tre0 HZ8.out rfl ?_))
      try rw [hW9]
      clear hW9
      have hpc3 := bcell B9.out hpc2 (blt hpc2)
      have TB9 := Lib.hid (TBQ.out.below B9.out (Nat.le_refl _))
      have NS9 := Lib.hid (HNS.out.below B9.out)
      have hw89 := R9.out.lt
      go_upto_region 14 with (first
        | (go_at_call 13; refine (Sum_good _ _ _ T2 (Tre.put A x) pv P TB9.out I7.out NS9.out HGD.out).mono ?_; rw [HSB.out]; rintro e wa ⟨rfl, hba⟩; obtain ⟨hza, Wb, hWb, hrb, hbb⟩ := boxS wa sB HB32.out; have HZA := Lib.hid hza; have RB := Lib.hid hrb; have hwa := hba.size; have BB := Lib.hid (hba.trans (hbb.mono hwa)); clear hza hrb hba hbb)
        | (with_reducible refine store_sum rfl (.tmp 11) (.tmp 60) rfl wa.heap.size rfl sB rfl HB32.out 30 Tre0 HZA.out rfl ?_))
      try rw [hWb]
      clear hWb
      have R9b := Lib.hid (R9.out.keep BB.out)
      have HRA : Hid (Wb.rangeAt w8.heap.size 0 (bytes sA)) := fun k v hv => by rw [Nat.zero_add, R9b.out.cell]; exact hv
      have HRB : Hid (Wb.rangeAt wa.heap.size 0 (bytes sB)) := fun k v hv => by rw [Nat.zero_add, RB.out.cell]; exact hv
      have HPC := Lib.hid (bcell BB.out hpc3 (blt hpc3))
      have RXZ := Lib.hid ((RQ.out.keep B9.out).keep BB.out)
      have HXC : Hid (Wb.cell? ⟨w.heap.size, 0, none⟩ = some (.string x.name)) := by
        have := Row.cell RXZ.out 0
        show Wb.cell? ⟨w.heap.size, 0, none⟩ = some (.string x.name)
        simpa [itC] using this
      have NSZ := Lib.hid (NS9.out.below BB.out)
      have BZ := Lib.hid (BQ.out.trans ((B9.out.mono hwq).trans (BB.out.mono (by have := B9.out.size; omega))))
      clear hpc2 hpc3 TAQ TBQ TB9 NS9 HNS R9 R9b RB RQ RXZ HZ8 HZA B9 BB hw8 hwa
      generalize w8.heap.size = q1 at *
      generalize wa.heap.size = q2 at *
      generalize Wb = wz at *
      by_cases hss : sA = sB
      · have HEQ : Hid ((sA == sB) = true) := by show _ = _; rw [beq_iff_eq]; exact hss
        clear hss
        refine wp_region_held_drew (S := fun w' => Below wz.heap.size wz w') (by kernel_rfl) (by exact (Below.refl _ _).drew) (fun hHeld => ?_)
        refine wpAnyH_take (i := 0) (v := _) (by simp only [List.getElem?_toArray, List.getElem?_cons_zero, List.getElem?_cons_succ] <;> rfl) (by kernel_rfl) (by kernel_rfl) (by kernel_rfl) (by intro _ _ _ h; exact h) (yieldsIf_sum_mid (by with_unfolding_all rfl) (.tmp 9) rfl q1 0 rfl sA HA32.out (fun w' hS => rangeAt_below HRA.out hS)) (by assumption) ?_
        try simp only [Act.put, List.setIfInBounds_toArray, List.set_cons_zero, List.set_cons_succ, Array.replicate]
        refine wpAnyH_take (i := 1) (v := _) (by simp only [List.getElem?_toArray, List.getElem?_cons_zero, List.getElem?_cons_succ] <;> rfl) (by kernel_rfl) (by kernel_rfl) (by kernel_rfl) (by intro _ _ _ h; exact h) (yieldsIf_sum_mid (by with_unfolding_all rfl) (.tmp 11) rfl q2 0 rfl sB HB32.out (fun w' hS => rangeAt_below HRB.out hS)) (by assumption) ?_
        try simp only [Act.put, List.setIfInBounds_toArray, List.set_cons_zero, List.set_cons_succ, Array.replicate]
        refine wpAnyH_take (i := 2) (v := _) (by simp only [List.getElem?_toArray, List.getElem?_cons_zero, List.getElem?_cons_succ] <;> rfl) (by kernel_rfl) (by kernel_rfl) (by kernel_rfl) (by intro _ _ _ h; exact h) (yieldsIf_neq_sum (by with_unfolding_all rfl) (.tmp 62) (.tmp 63) rfl sA sB rfl rfl HA32.out HB32.out _ HEQ.out) (by assumption) ?_
        try simp only [Act.put, List.setIfInBounds_toArray, List.set_cons_zero, List.set_cons_succ, Array.replicate]
        refine wpAnyH_take (i := 3) (v := ?_) (by simp only [List.getElem?_toArray, List.getElem?_cons_zero, List.getElem?_cons_succ] <;> rfl) (by kernel_rfl) (by kernel_rfl) (by kernel_rfl) (by intro _ _ _ h; exact h) (Or.inl ⟨by rfl, ?_⟩) (by assumption) ?_
        rotate_left
        · intro w _; go_simp; try with_reducible rfl
        try simp only [Act.put, List.setIfInBounds_toArray, List.set_cons_zero, List.set_cons_succ, Array.replicate]
        refine wpAnyH_take (i := 4) (v := undef) (by simp only [List.getElem?_toArray, List.getElem?_cons_zero, List.getElem?_cons_succ] <;> rfl) (by kernel_rfl) (by kernel_rfl) (by kernel_rfl) (by intro _ _ _ h; exact h) (Or.inr ⟨by rfl, rfl⟩) (by assumption) ?_
        try simp only [Act.put, List.setIfInBounds_toArray, List.set_cons_zero, List.set_cons_succ, Array.replicate]
        refine wpAnyH_take (i := 5) (v := undef) (by simp only [List.getElem?_toArray, List.getElem?_cons_zero, List.getElem?_cons_succ] <;> rfl) (by kernel_rfl) (by kernel_rfl) (by kernel_rfl) (by intro _ _ _ h; exact h) (Or.inr ⟨by rfl, rfl⟩) (by assumption) ?_
        try simp only [Act.put, List.setIfInBounds_toArray, List.set_cons_zero, List.set_cons_succ, Array.replicate]
        refine wpAnyH_take (i := 6) (v := undef) (by simp only [List.getElem?_toArray, List.getElem?_cons_zero, List.getElem?_cons_succ] <;> rfl) (by kernel_rfl) (by kernel_rfl) (by kernel_rfl) (by intro _ _ _ h; exact h) (Or.inr ⟨by rfl, rfl⟩) (by assumption) ?_
        try simp only [Act.put, List.setIfInBounds_toArray, List.set_cons_zero, List.set_cons_succ, Array.replicate]
        refine wpAnyH_take (i := 7) (v := undef) (by simp only [List.getElem?_toArray, List.getElem?_cons_zero, List.getElem?_cons_succ] <;> rfl) (by kernel_rfl) (by kernel_rfl) (by kernel_rfl) (by intro _ _ _ h; exact h) (Or.inr ⟨by rfl, rfl⟩) (by assumption) ?_
        try simp only [Act.put, List.setIfInBounds_toArray, List.set_cons_zero, List.set_cons_succ, Array.replicate]
        refine wpAnyH_take (i := 8) (v := undef) (by simp only [List.getElem?_toArray, List.getElem?_cons_zero, List.getElem?_cons_succ] <;> rfl) (by kernel_rfl) (by kernel_rfl) (by kernel_rfl) (by intro _ _ _ h; exact h) (Or.inr ⟨by rfl, rfl⟩) (by assumption) ?_
        try simp only [Act.put, List.setIfInBounds_toArray, List.set_cons_zero, List.set_cons_succ, Array.replicate]
        refine wpAnyH_take (i := 9) (v := undef) (by simp only [List.getElem?_toArray, List.getElem?_cons_zero, List.getElem?_cons_succ] <;> rfl) (by kernel_rfl) (by kernel_rfl) (by kernel_rfl) (by intro _ _ _ h; exact h) (Or.inr ⟨by rfl, rfl⟩) (by assumption) ?_
        try simp only [Act.put, List.setIfInBounds_toArray, List.set_cons_zero, List.set_cons_succ, Array.replicate]
        refine wpAnyH_take (i := 10) (v := undef) (by simp only [List.getElem?_toArray, List.getElem?_cons_zero, List.getElem?_cons_succ] <;> rfl) (by kernel_rfl) (by kernel_rfl) (by kernel_rfl) (by intro _ _ _ h; exact h) (Or.inr ⟨by rfl, rfl⟩) (by assumption) ?_
        try simp only [Act.put, List.setIfInBounds_toArray, List.set_cons_zero, List.set_cons_succ, Array.replicate]
        refine wpAnyH_take (i := 11) (v := undef) (by simp only [List.getElem?_toArray, List.getElem?_cons_zero, List.getElem?_cons_succ] <;> rfl) (by kernel_rfl) (by kernel_rfl) (by kernel_rfl) (by intro _ _ _ h; exact h) (Or.inr ⟨by rfl, rfl⟩) (by assumption) ?_
        try simp only [Act.put, List.setIfInBounds_toArray, List.set_cons_zero, List.set_cons_succ, Array.replicate]
        refine wpAnyH_take (i := 12) (v := undef) (by simp only [List.getElem?_toArray, List.getElem?_cons_zero, List.getElem?_cons_succ] <;> rfl) (by kernel_rfl) (by kernel_rfl) (by kernel_rfl) (by intro _ _ _ h; exact h) (Or.inr ⟨by rfl, rfl⟩) (by assumption) ?_
        try simp only [Act.put, List.setIfInBounds_toArray, List.set_cons_zero, List.set_cons_succ, Array.replicate]
        refine wpAnyH_take (i := 13) (v := ?_) (by simp only [List.getElem?_toArray, List.getElem?_cons_zero, List.getElem?_cons_succ] <;> rfl) (by kernel_rfl) (by kernel_rfl) (by kernel_rfl) (by intro _ _ _ h; exact h) (Or.inl ⟨by rfl, ?_⟩) (by assumption) ?_
        rotate_left
        · intro w _; go_simp; try with_reducible rfl
        try simp only [Act.put, List.setIfInBounds_toArray, List.set_cons_zero, List.set_cons_succ, Array.replicate]
        refine wpAnyH_done (by kernel_rfl) ?_ _
        go_wp2_with fail
        exact ⟨⟨q + 1, by omega, by go_num, BZ.out.trans ((show Below wz.heap.size wz _ from hHeld).mono BZ.out.size)⟩, by simp [intOf] <;> omega⟩
      · have HEQ : Hid ((sA == sB) = false) := by show _ = _; rw [beq_eq_false_iff_ne]; exact hss
        have HON : Hid (onB P (pathOf x.name) = true) := by
          show _ = _
          cases h : onB P (pathOf x.name)
          · exact (hss (by rw [← HSA.out, ← HSB.out, way hAr.out HGD.out h])).elim
          · rfl
        clear hss
        refine wp_region_held_drew (S := fun w' => Below wz.heap.size wz w') (by kernel_rfl) (by exact (Below.refl _ _).drew) (fun hHeld => ?_)
        refine wpAnyH_take (i := 0) (v := _) (by simp only [List.getElem?_toArray, List.getElem?_cons_zero, List.getElem?_cons_succ] <;> rfl) (by kernel_rfl) (by kernel_rfl) (by kernel_rfl) (by intro _ _ _ h; exact h) (yieldsIf_sum_mid (by with_unfolding_all rfl) (.tmp 9) rfl q1 0 rfl sA HA32.out (fun w' hS => rangeAt_below HRA.out hS)) (by assumption) ?_
        try simp only [Act.put, List.setIfInBounds_toArray, List.set_cons_zero, List.set_cons_succ, Array.replicate]
        refine wpAnyH_take (i := 1) (v := _) (by simp only [List.getElem?_toArray, List.getElem?_cons_zero, List.getElem?_cons_succ] <;> rfl) (by kernel_rfl) (by kernel_rfl) (by kernel_rfl) (by intro _ _ _ h; exact h) (yieldsIf_sum_mid (by with_unfolding_all rfl) (.tmp 11) rfl q2 0 rfl sB HB32.out (fun w' hS => rangeAt_below HRB.out hS)) (by assumption) ?_
        try simp only [Act.put, List.setIfInBounds_toArray, List.set_cons_zero, List.set_cons_succ, Array.replicate]
        refine wpAnyH_take (i := 2) (v := _) (by simp only [List.getElem?_toArray, List.getElem?_cons_zero, List.getElem?_cons_succ] <;> rfl) (by kernel_rfl) (by kernel_rfl) (by kernel_rfl) (by intro _ _ _ h; exact h) (yieldsIf_neq_sum (by with_unfolding_all rfl) (.tmp 62) (.tmp 63) rfl sA sB rfl rfl HA32.out HB32.out _ HEQ.out) (by assumption) ?_
        try simp only [Act.put, List.setIfInBounds_toArray, List.set_cons_zero, List.set_cons_succ, Array.replicate]
        refine wpAnyH_take (i := 3) (v := ?_) (by simp only [List.getElem?_toArray, List.getElem?_cons_zero, List.getElem?_cons_succ] <;> rfl) (by kernel_rfl) (by kernel_rfl) (by kernel_rfl) (by intro _ _ _ h; exact h) (Or.inl ⟨by rfl, ?_⟩) (by assumption) ?_
        rotate_left
        · intro w _; go_simp; try with_reducible rfl
        try simp only [Act.put, List.setIfInBounds_toArray, List.set_cons_zero, List.set_cons_succ, Array.replicate]
        refine wpAnyH_take (i := 4) (v := ?_) (by simp only [List.getElem?_toArray, List.getElem?_cons_zero, List.getElem?_cons_succ] <;> rfl) (by kernel_rfl) (by kernel_rfl) (by kernel_rfl) (by intro _ _ _ h; exact h) (Or.inl ⟨by rfl, ?_⟩) (by assumption) ?_
        rotate_left
        · intro w _; go_simp; try with_reducible rfl
        try simp only [Act.put, List.setIfInBounds_toArray, List.set_cons_zero, List.set_cons_succ, Array.replicate]
        refine wpAnyH_take (i := 5) (v := ?_) (by simp only [List.getElem?_toArray, List.getElem?_cons_zero, List.getElem?_cons_succ] <;> rfl) (by kernel_rfl) (by kernel_rfl) (by kernel_rfl) (by intro _ _ _ h; exact h) (Or.inl ⟨by rfl, ?_⟩) (by assumption) ?_
        rotate_left
        · intro w _; go_simp; try with_reducible rfl
        try simp only [Act.put, List.setIfInBounds_toArray, List.set_cons_zero, List.set_cons_succ, Array.replicate]
        refine wpAnyH_take (i := 6) (v := ?_) (by simp only [List.getElem?_toArray, List.getElem?_cons_zero, List.getElem?_cons_succ] <;> rfl) (by kernel_rfl) (by kernel_rfl) (by kernel_rfl) (by intro _ _ _ h; exact h) (Or.inl ⟨by rfl, ?_⟩) (by assumption) ?_
        rotate_left
        · intro w _; go_simp; try with_reducible rfl
        try simp only [Act.put, List.setIfInBounds_toArray, List.set_cons_zero, List.set_cons_succ, Array.replicate]
        refine wpAnyH_take (i := 7) (v := ?_) (by simp only [List.getElem?_toArray, List.getElem?_cons_zero, List.getElem?_cons_succ] <;> rfl) (by kernel_rfl) (by kernel_rfl) (by kernel_rfl) (by intro _ _ _ h; exact h) (Or.inl ⟨by rfl, ?_⟩) (by assumption) ?_
        rotate_left
        · intro w hSS; have hz := bcell (show Below wz.heap.size wz _ from hSS) HPC.out (blt HPC.out); go_simp; try with_reducible rfl
        try simp only [Act.put, List.setIfInBounds_toArray, List.set_cons_zero, List.set_cons_succ, Array.replicate]
        refine wpAnyH_take (i := 8) (v := ?_) (by simp only [List.getElem?_toArray, List.getElem?_cons_zero, List.getElem?_cons_succ] <;> rfl) (by kernel_rfl) (by kernel_rfl) (by kernel_rfl) (by intro _ _ _ h; exact h) (Or.inl ⟨by rfl, ?_⟩) (by assumption) ?_
        rotate_left
        · intro w _; go_simp; try with_reducible rfl
        try simp only [Act.put, List.setIfInBounds_toArray, List.set_cons_zero, List.set_cons_succ, Array.replicate]
        refine wpAnyH_take (i := 9) (v := ?_) (by simp only [List.getElem?_toArray, List.getElem?_cons_zero, List.getElem?_cons_succ] <;> rfl) (by kernel_rfl) (by kernel_rfl) (by kernel_rfl) (by intro _ _ _ h; exact h) (Or.inl ⟨by rfl, ?_⟩) (by assumption) ?_
        rotate_left
        · intro w hSS; have hz := bcell (show Below wz.heap.size wz _ from hSS) HXC.out (blt HXC.out); go_simp; try with_reducible rfl
        try simp only [Act.put, List.setIfInBounds_toArray, List.set_cons_zero, List.set_cons_succ, Array.replicate]
        refine wpAnyH_ready (rs := [10]) (by kernel_rfl) (by simp) ?_
        refine AllReadyH.cons (by simp only [List.getElem?_toArray, List.getElem?_cons_zero, List.getElem?_cons_succ] <;> rfl) (fun K hK => ?_) ?_
        · go_simp; go_at_call 16; refine (rpath_any x.name _ (by have := HXS.out.2; omega)).mono ?_; rintro e wq ⟨vq, rfl, hnq, hbq⟩; have NQ := Lib.hid hnq; clear hnq; try go_simp
          refine hK.out _ _ (by exact bstep hHeld hbq) (fun hHeld => ?_)
          clear hK K
          try simp only [Act.put, List.setIfInBounds_toArray, List.set_cons_zero, List.set_cons_succ, Array.replicate]
          refine wpAnyH_ready (rs := [11]) (by kernel_rfl) (by simp) ?_
          refine AllReadyH.cons (by simp only [List.getElem?_toArray, List.getElem?_cons_zero, List.getElem?_cons_succ] <;> rfl) (fun K hK => ?_) ?_
          · go_simp; go_at_call 15; refine (on_any _ _ P (pathOf x.name) _ (NSZ.out.at' (by exact hHeld) (Nat.le_refl _)) NQ.out).mono ?_; rw [HON.out]; rintro e wt ⟨rfl, hbt⟩; try go_simp
            refine hK.out _ _ (by exact bstep hHeld hbt) (fun hHeld => ?_)
            clear hK K
            try simp only [Act.put, List.setIfInBounds_toArray, List.set_cons_zero, List.set_cons_succ, Array.replicate]
            refine wpAnyH_take (i := 12) (v := ?_) (by simp only [List.getElem?_toArray, List.getElem?_cons_zero, List.getElem?_cons_succ] <;> rfl) (by kernel_rfl) (by kernel_rfl) (by kernel_rfl) (by intro _ _ _ h; exact h) (Or.inl ⟨by rfl, ?_⟩) (by assumption) ?_
            rotate_left
            · intro w _; go_simp; try with_reducible rfl
            try simp only [Act.put, List.setIfInBounds_toArray, List.set_cons_zero, List.set_cons_succ, Array.replicate]
            refine wpAnyH_take (i := 13) (v := ?_) (by simp only [List.getElem?_toArray, List.getElem?_cons_zero, List.getElem?_cons_succ] <;> rfl) (by kernel_rfl) (by kernel_rfl) (by kernel_rfl) (by intro _ _ _ h; exact h) (Or.inl ⟨by rfl, ?_⟩) (by assumption) ?_
            rotate_left
            · intro w _; go_simp; try with_reducible rfl
            try simp only [Act.put, List.setIfInBounds_toArray, List.set_cons_zero, List.set_cons_succ, Array.replicate]
            refine wpAnyH_done (by kernel_rfl) ?_ _
            go_wp2_with fail
            exact ⟨⟨q + 1, by omega, by go_num, BZ.out.trans ((show Below wz.heap.size wz _ from hHeld).mono BZ.out.size)⟩, by simp [intOf] <;> omega⟩
          exact AllReadyH.nil
        exact AllReadyH.nil
    · have hql : q = 21 := by omega
      subst hql
      have hnI : ¬ ((21 : Nat) : Int) < 21 := by omega
      have GQ := Lib.hid (Glob.below GP.out BQ.out (by have := TBP.out.row.lt; omega))
      have BWQ := Lib.hid (BWP.out.trans (BQ.out.mono BWP.out.size))
      go_wp2_with (go_at_call 14; refine (lives_any _ GQ.out).mono ?_; rintro e wl ⟨rfl, hbl⟩; have BL := Lib.hid (BWQ.out.trans (hbl.mono BWQ.out.size)); clear hbl)
      go_ret
      exact ⟨rfl, BL.out⟩
end Go.Proofs.YtnhkbbladifmmaaDoor
