/- The laws of chapter 22: lives; the reference's Same of texts. -/
import Derived.Test.YticabllkadpmeaaDoorDes7
import Derived.Test.YticabllkadpmeaaDoorDes4
--DEV
namespace Go.Proofs.YticabllkadpmeaaDoor
set_option linter.unusedVariables false
set_option linter.unusedSimpArgs false
set_option linter.unnecessarySimpa false
open Go.RowKit
open Tre (It)
set_option maxRecDepth 100000
set_option maxHeartbeats 8000000

theorem rsameS_any (av bv : Value) (ss : List ByteArray) (w : World) (h1 : ShS w av ss) (h2 : ShS w bv ss) (hl : ss.length < 4611686018427387904) :
    Calls Tryd.prog 14 #[av, bv] w fun r w' => r = .returned (.bool true) ∧ Below w.heap.size w w' := by
  unfold ShS at h1 h2
  rw [strs_length] at h1 h2
  obtain ⟨a, cap, rfl, a1, a2, a3, a4⟩ := h1.open
  obtain ⟨b, cap2, rfl, b1, b2, b3, b4⟩ := h2.open
  clear a3 b3 h1 h2
  have HX := Lib.hid (fun j hj => strs_get ss j hj)
  have htl : (strs ss).length = ss.length := strs_length ss
  generalize hL : ss.length = L at *
  clear hL
  generalize strs ss = xs at *
  have HTL := Lib.hid htl
  clear htl
  have hlI : (L : Int) < 4611686018427387904 := by omega
  have hne : ((L : Int) != (L : Int)) = false := by simp
  go_enter Tryd.func14, Tryd.ntmps14
  go_wp2
  go_loopw [5] (fun i wr => ∃ j : Nat, j ≤ L ∧ i = .int .i64 j ∧ ∃ m, wr = w.drewN m) (fun i _ => L - (intOf i).toNat)
  case atStart => exact ⟨0, by omega, rfl, 0, rfl⟩
  case round =>
    obtain ⟨j, hj, rfl, m, rfl⟩ := hrel
    by_cases hlt : j < L
    · obtain ⟨ba, oa, rfl, hca⟩ := a4.cells1 (by rw [HTL.out]; omega)
      obtain ⟨bb, ob, rfl, hcb⟩ := b4.cells1 (by rw [HTL.out]; omega)
      have ka := hca j _ (HX.out j hlt)
      have kb := hcb j _ (HX.out j hlt)
      clear hca hcb
      have hjI : (j : Int) < (L : Int) := by omega
      generalize ss.getD j .empty = t at *
      go_wp2
      go_quiet (fail)
      go_wp2
      go_roundw
      case rel => exact ⟨j + 1, by omega, by go_num, m + nq, by simp⟩
      case measure => simp [intOf]; omega
    · obtain rfl : j = L := by omega
      go_wp2
      go_ret
      exact ⟨rfl, drewN_below w m⟩
theorem lives22_any (w : World) (hg : Glob w) : Calls Tryd.prog 10 #[] w fun e w' => e = .returned (.bool true) ∧ Below w.heap.size w w' := by
  have HG := Lib.hid hg
  have hz3 := hg.1
  obtain ⟨z, hz⟩ : ∃ z, z = sIt := ⟨_, rfl⟩
  have HZ := Lib.hid hz
  have HZO : Hid (ItS z) := by rw [hz]; exact sIt_ok
  have HZK : Hid (ItOk z) := HZO.out.1
  have HAL : Hid (Tre.all [z] = [z]) := rfl
  have HZN : Hid (z.name = ⟨#[115]⟩) := by rw [hz]; rfl
  clear hg hz
  go_enter Tryd.func10, Tryd.ntmps10
  have BL : Hid (Below w.heap.size w (w.alloc (.cells (itC z).toArray 35))) := balloc (Below.refl _ _) _
  have IL := Lib.hid (its_lit w z HZO.out.1)
  have GL := Lib.hid (Glob.below HG.out BL.out hz3)
  have hwl := BL.out.size
  generalize hW1 : w.alloc (.cells (itC z).toArray 35) = W1 at *
  go_upto_region 2 with (first
    | (with_reducible refine build_s z HZ.out rfl rfl ?_)
    | (with_reducible refine build_one rfl (.tmp 6) rfl z HZK.out rfl ?_; rw [hW1]; clear hW1)
    | (go_at_call 8; refine (Build_any _ [z] _ GL.out IL.out (fun x hx => by rw [List.mem_singleton] at hx; subst hx; exact HZO.out) (by simp)).mono ?_; rw [HAL.out]; rintro e w2 ⟨T, rfl, ht, hi, hn, hb⟩; have HT := Lib.hid ht; have HI := Lib.hid hi; have B2 := Lib.hid (BL.out.trans (hb.mono hwl)); have G2 := Lib.hid (Glob.below GL.out hb (by omega)); have hw2 := B2.out.size; clear ht hi hn hb)
    | (go_at_call 23; refine (diff_s _ _ _ T z HZ.out G2.out HT.out HI.out).mono ?_; rintro e w3 ⟨v3, rfl, ho3, hb3⟩; obtain ⟨a3, c3, hv3, -, -, -, -⟩ := ho3.shS.open; rw [strs_length] at hv3; simp only [List.length_cons, List.length_nil, Nat.zero_add] at hv3; subst hv3; have O3 := Lib.hid ho3; have B3 := Lib.hid (B2.out.trans (hb3.mono hw2)); have G3 := Lib.hid (Glob.below G2.out hb3 (by omega)); have hw3 := hb3.size; clear ho3 hb3))
  go_upto_region 3 with (go_at_call 23; refine (diff_nil _ G3.out).mono ?_; rintro e w4 ⟨rfl, hb4⟩; have O4 := Lib.hid (own_cel O3.out (Cel.of_below (hb4.mono (Nat.le_refl _)))); have B4 := Lib.hid (B3.out.trans (hb4.mono (by omega))); have hw4 := B4.out.size; clear hb4)
  have BQ : Hid (Below w4.heap.size w4 (w4.alloc (.cells #[.string ⟨#[115]⟩] 9))) := balloc (Below.refl _ _) _
  have S1 : Hid (ShS (w4.alloc (.cells #[.string ⟨#[115]⟩] 9)) (.slice a3 1 c3) [z.name]) := OwnS.shS (own_cel O4.out (Cel.of_below BQ.out))
  have S2 : Hid (ShS (w4.alloc (.cells #[.string ⟨#[115]⟩] 9)) (.slice (some ⟨w4.heap.size, 0, none⟩) 1 1) [z.name]) := by rw [HZN.out]; exact (Own1.lit w4 9 [.string ⟨#[115]⟩]).shows
  go_wp2_with (go_at_call 14; refine (rsameS_any _ _ [z.name] _ S1.out S2.out (by simp)).mono ?_; rintro e w6 ⟨rfl, hb6⟩; have B6 := Lib.hid (B4.out.trans ((BQ.out.trans (hb6.mono BQ.out.size)).mono hw4)); clear hb6)
  go_ret
  exact ⟨rfl, B6.out⟩
end Go.Proofs.YticabllkadpmeaaDoor
--DEV
namespace Go.Proofs.YticabllkadpmeaaDoor
set_option linter.unusedVariables false
set_option linter.unusedSimpArgs false
set_option linter.unnecessarySimpa false
open Go.RowKit
open Tre (It)
set_option maxRecDepth 100000
set_option maxHeartbeats 8000000

theorem its_take {w : World} {a : Option Addr} {n c : Nat} {L : List It} (h : Its w (.slice a n c) L) (hok : Oks L) (k : Nat) (hk : k ≤ L.length) : Its w (.slice a k c) (L.take k) := by
  obtain ⟨h1, a', c', hv, h2, h3, h4, h5⟩ := h
  simp only [Value.slice.injEq] at hv
  obtain ⟨rfl, rfl, rfl⟩ := hv
  have hl : (L.take k).length = k := by simp; omega
  have hok' : Oks (L.take k) := fun x hx => hok x (List.mem_of_mem_take hx)
  refine ⟨itsC_length hok', a, c, by rw [hl], by rw [hl]; omega, h3, h4, fun x hx j u hu => ?_⟩
  rw [← itsC_take hok k, List.getElem?_take] at hu
  split at hu
  · exact h5 x hx j u hu
  · cases hu
theorem wants_oks {A L : List It} (hA : Oks A) (hL : NmOk L) : Oks (Tre.wantsF A L) := by
  intro y hy
  unfold Tre.wantsF at hy
  obtain ⟨x, hx, he⟩ := List.mem_filterMap.1 hy
  split at he
  · simp only [Option.some.injEq] at he
    subst he
    exact haveOf_ok hA _ (hL x hx).2
  · cases he
theorem DescentWants_walk (v u : Value) (l M : List It) (w : World) (hg : Glob w) (hs : Its w v l) (hok : Oks l) (hsz : l.length ≤ 140737488355328) (hm : Its w u M) (hM : NmOk M) :
    Calls Tryd.prog 3 #[v, u] w fun e w' => e = .returned (.bool true) ∧ Below w.heap.size w w' := by
  obtain ⟨ua, uc, rfl, hm1, hm2, -, hm4⟩ := hm.open
  have HG := Lib.hid hg
  have HS := Lib.hid hs
  have HOK := Lib.hid hok
  have hz3 := hg.1
  have HMT : Hid (∀ k, k ≤ M.length → Its w (.slice ua k uc) (M.take k)) := fun k hk => its_take hm4 hM.oks k hk
  have HMA : Hid (NmOk (M.take 20)) := fun x hx => hM x (List.mem_of_mem_take hx)
  have HMS : Hid (M.length ≤ 20 → M.take 20 = M) := fun h => List.take_of_length_le h
  have HM4 := Lib.hid hm4
  obtain ⟨N, hN⟩ : ∃ N, M.take 20 = N := ⟨_, rfl⟩
  have hNl : N.length ≤ 20 := by rw [← hN]; simp; omega
  have hNe : N.length = min 20 M.length := by rw [← hN]; simp
  rw [hN] at HMA HMS
  obtain ⟨A, hA⟩ : ∃ A, few22 l = A := ⟨_, rfl⟩
  have hAr : Tre.Rise A := by rw [← hA]; exact few22_rise l
  have hAi : ∀ x ∈ A, ItS x := by rw [← hA]; exact few22_its hok
  have hAl : A.length ≤ 8 := by rw [← hA]; exact few22_length l
  have HAI := Lib.hid hAi
  have HAO : Hid (Oks A) := ItS.oks hAi
  have HAA := Lib.hid (all_self hAr)
  have HA := Lib.hid hA
  have HWO : Hid (Oks (Tre.wantsF A N)) := wants_oks HAO.out HMA.out
  have HN20 : Hid (20 < M.length → Its w (.slice ua 20 uc) N) := fun h => by have := HMT.out 20 (by omega); rw [hN] at this; exact this
  have HN0 : Hid (M.length ≤ 20 → Its w (.slice ua M.length uc) N) := fun h => by rw [HMS.out h]; exact HM4.out
  have tok1 : True := trivial
  generalize hML : M.length = m at *
  have hmc : Hid (∃ k, k = N.length ∧ Its w (.slice ua k uc) N) := by
    by_cases h : 20 < m
    · exact ⟨20, by omega, HN20.out h⟩
    · exact ⟨m, by omega, HN0.out (by omega)⟩
  clear hg hs hok hm hM hm4 HMT HMS HM4 hN hA hAr hAi hML
  go_enter Tryd.func3, Tryd.ntmps3
  go_upto_region 2 with (go_at_call 5; refine (few22_any v l _ HS.out HOK.out hsz).mono ?_; rw [HA.out]; rintro e w1 ⟨v1, rfl, ho1, hb1⟩; obtain ⟨a1, c1, hv1, -, -, -, hs1⟩ := ho1.its.open; subst hv1; have O1 := Lib.hid hs1; have B1 := Lib.hid hb1; have hw1 := hb1.size; clear ho1 hb1 hs1)
  by_cases h20 : 20 < m
  · have hI : (20 : Int) < (m : Int) := by omega
    have NK := Lib.hid (HN20.out h20)
    have hnk : N.length ≤ 100000 := by omega
    go_upto_region 4 with fail
    go_wp2_with (first
      | (at_builtin; refine app_items (base := w1.heap.size) rfl (.tmp 12) (.tmp 13) rfl (L := []) rfl (OwnI.lit0 w1) rfl (O1.out.below (balloc (Below.refl _ w1) _)) (by simp; omega) (by simp) ?_; rw [List.nil_append]; intro v3 w3 ho3 hb3; have hb30 : Below w1.heap.size w1 w3 := ((balloc (Below.refl _ w1) _).trans hb3); have O3 := Lib.hid ho3.its; have O13 := Lib.hid (O1.out.below hb30); have B3 := Lib.hid (B1.out.trans (hb30.mono hw1)); have hw3 := B3.out.size; have G3 := Lib.hid (Glob.below HG.out B3.out hz3); clear ho3 hb3 hb30)
      | (go_at_call 8; refine (Build_any v3 A _ G3.out O3.out HAI.out (by omega)).mono ?_; rw [HAA.out]; rintro e w4 ⟨TA, rfl, ht4, hi4, hn4, hb4⟩; have TA4 := Lib.hid ht4; have IA := Lib.hid hi4; have B4 := Lib.hid (B3.out.trans (hb4.mono hw3)); have hw4 := B4.out.size; have O14 := Lib.hid (O13.out.below hb4); have N4 := Lib.hid (NK.out.at' B4.out (Nat.le_refl _)); clear ht4 hi4 hn4 hb4)
      | (at_builtin; refine app_items (base := w4.heap.size) rfl (.tmp 16) (.tmp 17) rfl (L := []) rfl (OwnI.lit0 w4) rfl (N4.out.below (balloc (Below.refl _ w4) _)) (by simp; omega) (by simp) ?_; rw [List.nil_append]; intro v5 w5 ho5 hb5; have hb50 : Below w4.heap.size w4 w5 := ((balloc (Below.refl _ w4) _).trans hb5); have O5 := Lib.hid ho5.its; have O15 := Lib.hid (O14.out.below hb50); have B5 := Lib.hid (B4.out.trans (hb50.mono hw4)); have hw5 := B5.out.size; have G5 := Lib.hid (Glob.below HG.out B5.out hz3); have TA5 := Lib.hid (TA4.out.below hb50 (Nat.le_refl _)); clear ho5 hb5 hb50)
      | (go_at_call 7; refine (wants_any _ _ _ TA A v5 N G5.out TA5.out IA.out HAO.out O5.out HMA.out hnk).mono ?_; rintro e w6 ⟨v6, rfl, hs6, hb6⟩; have S6 := Lib.hid hs6; have B6 := Lib.hid (B5.out.trans (hb6.mono hw5)); have hw6 := B6.out.size; have O16 := Lib.hid (O15.out.below hb6); have N6 := Lib.hid (NK.out.at' B6.out (Nat.le_refl _)); clear hs6 hb6)
      | (go_at_call 9; refine (rwants_any _ _ A N _ O16.out HAO.out N6.out HMA.out hnk).mono ?_; rintro e w7 ⟨v7, rfl, hs7, hb7⟩; have S7 := Lib.hid hs7; have S67 := Lib.hid (S6.out.below hb7); have B7 := Lib.hid (B6.out.trans (hb7.mono hw6)); have hw7 := B7.out.size; clear hs7 hb7)
      | (go_at_call 6; refine (rsame_any _ _ _ _ _ S67.out S7.out HWO.out HWO.out).mono ?_; rintro e w8 ⟨q, rfl, hq, hb8⟩; obtain rfl : q = true := hq.2 rfl; have B8 := Lib.hid (B7.out.trans (hb8.mono hw7)); have hw8 := B8.out.size; have G8 := Lib.hid (Glob.below HG.out B8.out hz3); clear hq hb8)
      | (go_at_call 10; refine (lives22_any _ G8.out).mono ?_; rintro e w9 ⟨rfl, hb9⟩; have B9 := Lib.hid (B8.out.trans (hb9.mono hw8)); clear hb9))
    go_ret
    exact ⟨rfl, B9.out⟩
  · have hI : ¬ (20 : Int) < (m : Int) := by omega
    have NK := Lib.hid (HN0.out (by omega))
    have hnk : N.length ≤ 100000 := by omega
    go_upto_region 4 with fail
    go_wp2_with (first
      | (at_builtin; refine app_items (base := w1.heap.size) rfl (.tmp 12) (.tmp 13) rfl (L := []) rfl (OwnI.lit0 w1) rfl (O1.out.below (balloc (Below.refl _ w1) _)) (by simp; omega) (by simp) ?_; rw [List.nil_append]; intro v3 w3 ho3 hb3; have hb30 : Below w1.heap.size w1 w3 := ((balloc (Below.refl _ w1) _).trans hb3); have O3 := Lib.hid ho3.its; have O13 := Lib.hid (O1.out.below hb30); have B3 := Lib.hid (B1.out.trans (hb30.mono hw1)); have hw3 := B3.out.size; have G3 := Lib.hid (Glob.below HG.out B3.out hz3); clear ho3 hb3 hb30)
      | (go_at_call 8; refine (Build_any v3 A _ G3.out O3.out HAI.out (by omega)).mono ?_; rw [HAA.out]; rintro e w4 ⟨TA, rfl, ht4, hi4, hn4, hb4⟩; have TA4 := Lib.hid ht4; have IA := Lib.hid hi4; have B4 := Lib.hid (B3.out.trans (hb4.mono hw3)); have hw4 := B4.out.size; have O14 := Lib.hid (O13.out.below hb4); have N4 := Lib.hid (NK.out.at' B4.out (Nat.le_refl _)); clear ht4 hi4 hn4 hb4)
      | (at_builtin; refine app_items (base := w4.heap.size) rfl (.tmp 16) (.tmp 17) rfl (L := []) rfl (OwnI.lit0 w4) rfl (N4.out.below (balloc (Below.refl _ w4) _)) (by simp; omega) (by simp) ?_; rw [List.nil_append]; intro v5 w5 ho5 hb5; have hb50 : Below w4.heap.size w4 w5 := ((balloc (Below.refl _ w4) _).trans hb5); have O5 := Lib.hid ho5.its; have O15 := Lib.hid (O14.out.below hb50); have B5 := Lib.hid (B4.out.trans (hb50.mono hw4)); have hw5 := B5.out.size; have G5 := Lib.hid (Glob.below HG.out B5.out hz3); have TA5 := Lib.hid (TA4.out.below hb50 (Nat.le_refl _)); clear ho5 hb5 hb50)
      | (go_at_call 7; refine (wants_any _ _ _ TA A v5 N G5.out TA5.out IA.out HAO.out O5.out HMA.out hnk).mono ?_; rintro e w6 ⟨v6, rfl, hs6, hb6⟩; have S6 := Lib.hid hs6; have B6 := Lib.hid (B5.out.trans (hb6.mono hw5)); have hw6 := B6.out.size; have O16 := Lib.hid (O15.out.below hb6); have N6 := Lib.hid (NK.out.at' B6.out (Nat.le_refl _)); clear hs6 hb6)
      | (go_at_call 9; refine (rwants_any _ _ A N _ O16.out HAO.out N6.out HMA.out hnk).mono ?_; rintro e w7 ⟨v7, rfl, hs7, hb7⟩; have S7 := Lib.hid hs7; have S67 := Lib.hid (S6.out.below hb7); have B7 := Lib.hid (B6.out.trans (hb7.mono hw6)); have hw7 := B7.out.size; clear hs7 hb7)
      | (go_at_call 6; refine (rsame_any _ _ _ _ _ S67.out S7.out HWO.out HWO.out).mono ?_; rintro e w8 ⟨q, rfl, hq, hb8⟩; obtain rfl : q = true := hq.2 rfl; have B8 := Lib.hid (B7.out.trans (hb8.mono hw7)); have hw8 := B8.out.size; have G8 := Lib.hid (Glob.below HG.out B8.out hz3); clear hq hb8)
      | (go_at_call 10; refine (lives22_any _ G8.out).mono ?_; rintro e w9 ⟨rfl, hb9⟩; have B9 := Lib.hid (B8.out.trans (hb9.mono hw8)); clear hb9))
    go_ret
    exact ⟨rfl, B9.out⟩
end Go.Proofs.YticabllkadpmeaaDoor
