/- The law DescentCounts, its walk. (printed by gen/des10.py) -/
import Derived.Test.YticabllkadpmeaaDoorDes9
namespace Go.Proofs.YticabllkadpmeaaDoor
set_option linter.unusedVariables false
set_option linter.unusedSimpArgs false
set_option linter.unnecessarySimpa false
open Go.RowKit
open Tre (It)
set_option maxRecDepth 100000
set_option maxHeartbeats 8000000

theorem OwnS.lit0 (w : World) : OwnS (w.alloc (.cells #[] 9)) w.heap.size (.slice (some ⟨w.heap.size, 0, none⟩) 0 0) [] :=
  World.ownsRow_lit (e := 9) (size := 1) (base := w.heap.size) w #[] 0 (Nat.le_refl _) (by decide) (by simp)
theorem few22_nm {l : List It} (h : Oks l) : NmOk (few22 l) := fun x hx => ⟨(few22_its h x hx).1, by have := (few22_its h x hx).2; omega⟩
theorem DescentCounts_walk (v u : Value) (l M : List It) (w : World) (hg : Glob w) (hs : Its w v l) (hok : Oks l) (hsz : l.length ≤ 140737488355328) (hm : Its w u M) (hokM : Oks M) (hszM : M.length ≤ 140737488355328) :
    Calls Tryd.prog 4 #[v, u] w fun e w' => e = .returned (.bool true) ∧ Below w.heap.size w w' := by
  have HG := Lib.hid hg
  have HS := Lib.hid hs
  have HOK := Lib.hid hok
  have HM := Lib.hid hm
  have HOM := Lib.hid hokM
  have hz3 := hg.1
  obtain ⟨A, hA⟩ : ∃ A, few22 l = A := ⟨_, rfl⟩
  obtain ⟨C, hC⟩ : ∃ C, few22 M = C := ⟨_, rfl⟩
  have hAl : A.length ≤ 8 := by rw [← hA]; exact few22_length l
  have hCl : C.length ≤ 8 := by rw [← hC]; exact few22_length M
  have HAA : Hid (Tre.all A = A) := by rw [← hA]; exact all_self (few22_rise l)
  have HCC : Hid (Tre.all C = C) := by rw [← hC]; exact all_self (few22_rise M)
  have HAI : Hid (∀ x ∈ A, ItS x) := by rw [← hA]; exact few22_its hok
  have HCI : Hid (∀ x ∈ C, ItS x) := by rw [← hC]; exact few22_its hokM
  have HAO : Hid (Oks A) := ItS.oks HAI.out
  have HCN : Hid (NmOk C) := by rw [← hC]; exact few22_nm hokM
  have HCO : Hid (Oks C) := ItS.oks HCI.out
  have HA := Lib.hid hA
  have HC := Lib.hid hC
  clear hg hs hok hm hokM hA hC
  have tok1 : True := trivial
  go_enter Tryd.func4, Tryd.ntmps4
  go_upto_region 2 with (go_at_call 5; first
    | (have tok := tok1; refine (few22_any v l _ HS.out HOK.out hsz).mono ?_; rw [HA.out]; rintro e w1 ⟨v1, rfl, ho1, hb1⟩; obtain ⟨a1, c1, hv1, -, -, -, hs1⟩ := ho1.its.open; subst hv1; have O1 := Lib.hid hs1; have B1 := Lib.hid hb1; have M1 := Lib.hid (HM.out.at' hb1 (Nat.le_refl _)); have hw1 := hb1.size; clear tok tok1 ho1 hb1 hs1)
    | (refine (few22_any u M _ M1.out HOM.out hszM).mono ?_; rw [HC.out]; rintro e w2 ⟨v2, rfl, ho2, hb2⟩; obtain ⟨a2, c2, hv2, -, -, -, hs2⟩ := ho2.its.open; subst hv2; have P2 := Lib.hid hs2; have B2 := Lib.hid (B1.out.trans (hb2.mono hw1)); have O2 := Lib.hid (O1.out.below hb2); have hw2 := B2.out.size; clear ho2 hb2 hs2))
  have tok2 : True := trivial
  go_upto_region 3 with (first
    | (at_builtin; refine app_items (base := w2.heap.size) rfl (.tmp 15) (.tmp 16) rfl (L := []) rfl (OwnI.lit0 w2) rfl (O2.out.below (balloc (Below.refl _ w2) _)) (by simp; omega) (by simp) ?_; rw [List.nil_append]; intro v3 w3 ho3 hb3; have hb30 : Below w2.heap.size w2 w3 := ((balloc (Below.refl _ w2) _).trans hb3); have Q3 := Lib.hid ho3.its; have O3 := Lib.hid (O2.out.below hb30); have P3 := Lib.hid (P2.out.below hb30); have B3 := Lib.hid (B2.out.trans (hb30.mono hw2)); have hw3 := B3.out.size; have G3 := Lib.hid (Glob.below HG.out B3.out hz3); clear ho3 hb3 hb30)
    | (go_at_call 8; first
      | (have tok := tok2; refine (Build_any v3 A _ G3.out Q3.out HAI.out (by omega)).mono ?_; rw [HAA.out]; rintro e w4 ⟨TA, rfl, ht4, hi4, hn4, hb4⟩; have TA4 := Lib.hid ht4; have IA := Lib.hid hi4; have B4 := Lib.hid (B3.out.trans (hb4.mono hw3)); have hw4 := B4.out.size; have O4 := Lib.hid (O3.out.below hb4); have P4 := Lib.hid (P3.out.below hb4); clear tok tok2 ht4 hi4 hn4 hb4)
      | (refine (Build_any v5 C _ G5.out Q5.out HCI.out (by omega)).mono ?_; rw [HCC.out]; rintro e w6 ⟨TC, rfl, ht6, hi6, hn6, hb6⟩; have TC6 := Lib.hid ht6; have IC := Lib.hid hi6; have B6 := Lib.hid (B5.out.trans (hb6.mono hw5)); have hw6 := B6.out.size; have O6 := Lib.hid (O5.out.below hb6); have P6 := Lib.hid (P5.out.below hb6); have TA6 := Lib.hid (TA5.out.below hb6 (Nat.le_refl _)); have G6 := Lib.hid (Glob.below HG.out B6.out hz3); clear ht6 hi6 hn6 hb6))
    | (at_builtin; refine app_items (base := w4.heap.size) rfl (.tmp 19) (.tmp 20) rfl (L := []) rfl (OwnI.lit0 w4) rfl (P4.out.below (balloc (Below.refl _ w4) _)) (by simp; omega) (by simp) ?_; rw [List.nil_append]; intro v5 w5 ho5 hb5; have hb50 : Below w4.heap.size w4 w5 := ((balloc (Below.refl _ w4) _).trans hb5); have Q5 := Lib.hid ho5.its; have O5 := Lib.hid (O4.out.below hb50); have P5 := Lib.hid (P4.out.below hb50); have B5 := Lib.hid (B4.out.trans (hb50.mono hw4)); have hw5 := B5.out.size; have G5 := Lib.hid (Glob.below HG.out B5.out hz3); have TA5 := Lib.hid (TA4.out.below hb50 (Nat.le_refl _)); clear ho5 hb5 hb50))
  have BL : Hid (Below w6.heap.size w6 (w6.alloc (.cells #[] 9))) := balloc (Below.refl _ _) _
  have OL := Lib.hid (OwnS.lit0 w6)
  clear Q3 Q5 O1 O2 O3 O4 O5 P2 P3 P4 P5 HS HM M1 B1 B2 B3 B4 B5 TA4 TA5 G3 G5
  go_wp2_with fail
  go_loopw [7, 8] (fun ov iv wr => ∃ j : Nat, j ≤ C.length ∧ iv = .int .i64 j ∧ OwnS wr w6.heap.size ov (namesF A (C.take j)) ∧ Below w6.heap.size w6 wr) (fun _ iv _ => C.length - (intOf iv).toNat)
  case atStart => exact ⟨0, Nat.zero_le _, rfl, OL.out, BL.out⟩
  case round =>
    obtain ⟨j, hj, rfl, ho, hb⟩ := hrel
    have OR := Lib.hid ho
    have BR := Lib.hid hb
    have hwr := hb.size
    clear ho hb OL BL
    by_cases hlt : j < C.length
    · have hltI : (j : Int) < (C.length : Int) := by omega
      obtain ⟨ba, off, rfl, -⟩ := P6.out.cells (by omega) HCO.out
      have hrg := rangeAt_below (P6.out.range HCO.out j hlt) BR.out
      have hym : C.getD j dIt ∈ C := by simp [List.getD, List.getElem?_eq_getElem hlt]
      have hyo := HCN.out _ hym
      have hnx : namesF A (C.take (j + 1)) = namesF A (C.take j) ++ (if (Tre.haveOf A (C.getD j dIt).name).len < (C.getD j dIt).len then [(C.getD j dIt).name] else []) := by rw [take_snocI C j hlt, namesF_snoc]
      have hnl : (namesF A (C.take j)).length ≤ 8 := by have := namesF_length A (C.take j); simp at this; omega
      obtain ⟨N', hN'⟩ : ∃ N', namesF A (C.take (j + 1)) = N' := ⟨_, rfl⟩
      rw [hN'] at hnx
      have HN' := Lib.hid hN'
      clear hN'
      generalize namesF A (C.take j) = N at *
      generalize C.getD j dIt = x at *
      have hxn := hyo.2
      have hxb := hyo.1.1
      have hx0 : wr.cell? ⟨ba, off + j * 34 + 0, none⟩ = some (.string x.name) := hrg 0 _ rfl
      rw [Nat.add_zero] at hx0
      have hx1 : wr.cell? ⟨ba, off + j * 34 + 1, none⟩ = some (.int .u64 (x.len : Int)) := hrg 1 _ rfl
      have hxl1 := blt hx1
      have hxl0 := blt hx0
      have A1 := Lib.hid (O6.out.below BR.out)
      clear hrg hym hyo
      obtain ⟨z, hz⟩ : ∃ z, Tre.haveOf A x.name = z := ⟨_, rfl⟩
      have HZO : Hid (ItOk z) := by rw [← hz]; exact haveOf_ok HAO.out _ hxn
      rw [hz] at hnx
      have HNX := Lib.hid hnx
      have HZ := Lib.hid hz
      clear hz hnx
      go_upto_region 8 with (first
        | (go_at_call 11; refine (rhave_any _ A x.name _ A1.out HAO.out hxn).mono ?_; rw [HZ.out]; rintro e w7 ⟨q, rfl, hb7⟩; obtain ⟨hz0, W8, hW8, hr8, hb8⟩ := pre34 w7 z HZO.out; dsimp only at hW8 hz0; have HZ0 := Lib.hid hz0; have R8 := Lib.hid hr8; have hw7 := hb7.size; have hw8 := hr8.lt; have B68 := Lib.hid (hb7.trans (hb8.mono hw7)); have hzc : W8.cell? ⟨w7.heap.size, 1, none⟩ = some (.int .u64 (z.len : Int)) := Row.cell hr8 1; clear hz0 hr8 hb8 hb7)
        | (with_reducible refine store_item_mid rfl (.tmp 9) (.tmp 38) rfl w7.heap.size 0 rfl z rfl HZO.out 35 (itC dIt) HZ0.out (by decide) ?_))
      try rw [hW8]
      clear hW8 HZ0
      have hxc := bcell B68.out hx1 hxl1
      have hxc0 := bcell B68.out hx0 hxl0
      have B8 := Lib.hid (BR.out.trans (B68.out.mono hwr))
      have hzb := HZO.out.1
      have hw68 := B68.out.size
      clear R8 A1 hx0 hx1 hxl1 hxl0
      generalize w7.heap.size = g at *
      by_cases hlen : z.len < x.len
      · have hlenI : (z.len : Int) < (x.len : Int) := by omega
        have HN2 := HNX.out
        rw [if_pos hlen] at HN2
        have HNX2 := Lib.hid HN2
        clear HN2 HNX
        go_region
        have BD : Hid (Below wr.heap.size wr (W8.alloc (.cells #[.string x.name] 9)).drew) := (B68.out.alloc B68.out.size _).drew
        have OD := Lib.hid (own_cel OR.out (Cel.of_below BD.out))
        have hwd := BD.out.size
        go_wp2_with (at_builtin; refine app_one (base := w6.heap.size) (l := strs N) (m := [.string x.name]) Tryd.underlying30 info_str6 rfl rfl (.tmp 48) (.tmp 54) rfl rfl (by unfold Own1; rw [strs_length]; exact OD.out) rfl ((Own1.lit W8 9 [.string x.name]).shows.below (Below.refl _ _).drew) (by intro q hq; simp at hq; subst hq; rfl) (by simp; omega) (by simp; omega) (by omega) ?_; intro v9 w9 ho9 hb9; have O9 := Lib.hid ho9; have B9 := Lib.hid hb9; clear ho9 hb9)
        refine ⟨⟨j + 1, by omega, by go_num, ?_, (BR.out.trans (BD.out.mono hwr)).trans B9.out⟩, by simp [intOf]; omega⟩
        rw [HN'.out, HNX2.out]
        have h9 := O9.out
        unfold Own1 at h9
        unfold OwnS
        rw [strs_append]
        simpa [strs] using h9
      · have hlenI : ¬ (z.len : Int) < (x.len : Int) := by omega
        have HN2 := HNX.out
        rw [if_neg hlen, List.append_nil] at HN2
        have HNX2 := Lib.hid HN2
        clear HN2 HNX
        go_region
        go_wp2_with fail
        exact ⟨⟨j + 1, by omega, by go_num, by rw [HN'.out, HNX2.out]; exact own_cel OR.out (Cel.of_below B68.out.drew), B8.out.drew⟩, by simp [intOf]; omega⟩
    · have hjl : j = C.length := by omega
      subst hjl
      have hNC : namesF A (C.take C.length) = namesF A C := by rw [List.take_length]
      rw [hNC] at OR
      have hnl : (namesF A C).length ≤ 8 := by have := namesF_length A C; omega
      obtain ⟨pa, na, ca, hva⟩ := own_form1 OR.out
      subst hva
      have TAr := Lib.hid (TA6.out.below BR.out (Nat.le_refl _))
      have TCr := Lib.hid (TC6.out.below BR.out (Nat.le_refl _))
      have Or := Lib.hid (O6.out.below BR.out)
      have Pr := Lib.hid (P6.out.below BR.out)
      have Br := Lib.hid (B6.out.trans (BR.out.mono hw6))
      have Gr := Lib.hid (Glob.below HG.out Br.out hz3)
      clear hNC
      go_wp2_with (first
        | (go_at_call 12; refine (missing_any _ _ _ _ _ TA TC A C Gr.out TAr.out IA.out HAO.out TCr.out IC.out HCN.out).mono ?_; rw [Tre.missF_leaves]; rintro e w7 ⟨rfl, hb7⟩; have B7 := Lib.hid (BR.out.trans (hb7.mono hwr)); have hw7 := hb7.size; have O7 := Lib.hid (Or.out.below hb7); have P7 := Lib.hid (Pr.out.below hb7); have S7 := Lib.hid (OR.out.shS.at' hb7 (Nat.le_refl _)); have TA7 := Lib.hid (TAr.out.below hb7 (Nat.le_refl _)); have TC7 := Lib.hid (TCr.out.below hb7 (Nat.le_refl _)); clear hb7)
        | (go_at_call 13; refine (rmissing_any _ _ A C _ O7.out HAO.out P7.out HCN.out (by omega)).mono ?_; rintro e w8 ⟨rfl, hb8⟩; have B8 := Lib.hid (B7.out.trans (hb8.mono B7.out.size)); have hw8 := B8.out.size; have S8 := Lib.hid (S7.out.at' hb8 (Nat.le_refl _)); have TA8 := Lib.hid (TA7.out.below hb8 (Nat.le_refl _)); have TC8 := Lib.hid (TC7.out.below hb8 (Nat.le_refl _)); have G8 := Lib.hid (Glob.below HG.out (B6.out.trans (B8.out.mono hw6)) hz3); clear hb8)
        | (go_at_call 15; refine (behind_any _ _ _ _ _ TA TC A C G8.out TA8.out IA.out HAO.out TC8.out IC.out HCN.out (by omega)).mono ?_; rintro e w9 ⟨v9, rfl, hs9, hb9⟩; have B9 := Lib.hid (B8.out.trans (hb9.mono hw8)); have hw9 := B9.out.size; have S9 := Lib.hid (S8.out.at' hb9 (Nat.le_refl _)); have T9 := Lib.hid hs9; clear hs9 hb9)
        | (go_at_call 14; refine (rsameS_any _ _ (namesF A C) _ T9.out S9.out (by omega)).mono ?_; rintro e wa ⟨rfl, hba⟩; have Ba := Lib.hid (B9.out.trans (hba.mono hw9)); have hwa := Ba.out.size; have Ga := Lib.hid (Glob.below HG.out (B6.out.trans (Ba.out.mono hw6)) hz3); clear hba)
        | (go_at_call 10; refine (lives22_any _ Ga.out).mono ?_; rintro e wb ⟨rfl, hbb⟩; have Bb := Lib.hid (Ba.out.trans (hbb.mono hwa)); clear hbb))
      go_ret
      exact ⟨rfl, B6.out.trans (Bb.out.mono hw6)⟩
end Go.Proofs.YticabllkadpmeaaDoor
