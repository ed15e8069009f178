/- The law TreeAny, its walk. (printed by gen/tany.py) -/
import Derived.Test.YtnhkbbladifmmaaDoorLiv
namespace Go.Proofs.YtnhkbbladifmmaaDoor
set_option linter.unusedVariables false
set_option linter.unusedSimpArgs false
set_option linter.unnecessarySimpa false
open Go.RowKit
open Tre (It)
set_option maxRecDepth 100000
set_option maxHeartbeats 8000000

theorem all_its {l : List It} (h : ∀ x ∈ l, ItS x) : ∀ x ∈ Tre.all l, ItS x := by
  have : ∀ (l a : List It), (∀ x ∈ l, ItS x) → (∀ x ∈ a, ItS x) → ∀ x ∈ l.foldl Tre.put a, ItS x := by
    intro l
    induction l with
    | nil => intro a _ ha; exact ha
    | cons x r ih => intro a h ha; exact ih _ (fun y hy => h y (List.mem_cons_of_mem _ hy)) (put_its ha (h x (List.mem_cons_self ..)))
  exact this l [] h (fun y hy => by cases hy)
theorem all_self {A : List It} (h : Tre.Rise A) : Tre.all A = A := Tre.any_order A A h (fun _ h => h) (fun _ h => h)
theorem psTo_good : ∀ P ∈ psTo 3, goodP P = true := by decide
theorem PL.at {w : World} {B : Nat} {a : Option Addr} {n c : Nat} {Ps : List (List Int)} (h : PL w B (.slice a n c) Ps) (j : Nat) (hj : j < Ps.length) : ∃ b o u, a = some ⟨b, o, none⟩ ∧ w.cell? ⟨b, o + j, none⟩ = some u ∧ OwnN w 0 u (Ps.getD j []) := by
  obtain ⟨vs, h1, h2, h3⟩ := h
  have hs : Shows w 1 (.slice a n c) vs.length vs := Shows.of_own h1
  have hn : n = vs.length := by obtain ⟨_, _, _, e, _⟩ := hs; simp only [Value.slice.injEq] at e; exact e.2.1
  subst hn
  obtain ⟨b, o, rfl, hc⟩ := hs.cells1 (by omega)
  exact ⟨b, o, vs.getD j undef, rfl, hc j _ (by simp [List.getD, List.getElem?_eq_getElem (show j < vs.length by omega)]), h3 j (by omega)⟩
theorem TreeAny_walk (v u : Value) (l : List It) (ord : List UInt8) (w : World) (hg : Glob w) (hs : Its w v l) (hok : Oks l) (hsz : l.length ≤ 140737488355328) (ho : Sh w u ord) :
    Calls Tryd.prog 3 #[v, u] w fun e w' => e = .returned (.bool true) ∧ Below w.heap.size w w' := by
  obtain ⟨ua, uc, rfl, ho1, ho2, ho3, ho4⟩ := ho.open
  have HG := Lib.hid hg
  have HS := Lib.hid hs
  have HOK := Lib.hid hok
  have HOR := Lib.hid ho4
  have hz3 := hg.1
  obtain ⟨A, hA⟩ : ∃ A, Tre.all (fewL l) = A := ⟨_, rfl⟩
  have hAr : Tre.Rise A := by rw [← hA]; exact Tre.all_rise _
  have hAi : ∀ x ∈ A, ItS x := by rw [← hA]; exact all_its (fewL_its hok)
  have hAl : A.length ≤ 8 := by rw [← hA]; exact Nat.le_trans (Tre.all_length _) (fewL_length l)
  have HAR := Lib.hid hAr
  have HAI := Lib.hid hAi
  have HAA := Lib.hid (all_self hAr)
  have HA := Lib.hid hA
  have HF1 : Hid (Oks (fewL l)) := ItS.oks (fewL_its hok)
  have HF2 : Hid ((fewL l).length ≤ 1000000) := Nat.le_trans (fewL_length l) (by decide)
  clear hg hs hok ho ho4 hA hAr hAi
  have tok1 : True := trivial
  go_enter Tryd.func3, Tryd.ntmps3
  go_upto_region 3 with (first
    | (go_at_call 9; refine (few_any v l _ HS.out HOK.out hsz).mono ?_; rintro e w1 ⟨v1, rfl, ho1', hb1⟩; have O1 := Lib.hid ho1'.its; have B1 := Lib.hid hb1; have hw1 := hb1.size; clear ho1' hb1)
    | (go_at_call 8; refine (rall_any v1 (fewL l) _ O1.out HF1.out HF2.out).mono ?_; rw [HA.out]; rintro e w2 ⟨v2, rfl, ho2', hb2⟩; have O2 := Lib.hid ho2'.its; have B2 := Lib.hid (B1.out.trans (hb2.mono hw1)); have hw2 := B2.out.size; clear ho2' hb2)
    | (at_builtin; refine app_items (base := w2.heap.size) rfl (.tmp 19) (.tmp 20) rfl (L := []) rfl (OwnI.lit0 w2) rfl (O2.out.below (balloc (Below.refl _ w2) _)) (by simp; omega) (by simp) ?_; rw [List.nil_append]; intro v3 w3 ho3' hb3; have hb30 : Below w2.heap.size w2 w3 := ((balloc (Below.refl _ w2) _).trans hb3); have O3 := Lib.hid ho3'.its; have O23 := Lib.hid (O2.out.below hb30); have B3 := Lib.hid (B2.out.trans (hb30.mono hw2)); have hw3 := B3.out.size; have G3 := Lib.hid (Glob.below HG.out B3.out hz3); clear ho3' hb3 hb30)
    | (go_at_call 10; first | (have tok := tok1; refine (Build_any v3 A _ G3.out O3.out HAI.out (by omega)).mono ?_; rw [HAA.out]; rintro e w4 ⟨TA, rfl, ht4, hi4, hn4, hb4⟩; have TA4 := Lib.hid ht4; have IA := Lib.hid hi4; have B4 := Lib.hid (B3.out.trans (hb4.mono hw3)); have hw4 := B4.out.size; have O24 := Lib.hid (O23.out.below hb4); have G4 := Lib.hid (Glob.below HG.out B4.out hz3); clear tok tok1 ht4 hi4 hn4 hb4) | (refine (Build_any (.slice none 0 0) [] _ G4.out (Its.nil _) (fun x hx => by cases hx) (by decide)).mono ?_; rintro e w5 ⟨TB, rfl, ht5, hi5, hn5, hb5⟩; have TB5 := Lib.hid ht5; have IB := Lib.hid hi5; have NB := Lib.hid hn5; have B5 := Lib.hid hb5; clear ht5 hi5 hn5 hb5)))
  obtain ⟨xa2, xc2, hv2, -, hxc2, -, O25⟩ := O24.out.open
  subst hv2
  have S4 := Lib.hid O25
  have OR4 := Lib.hid (HOR.out.at' B4.out (Nat.le_refl _))
  clear O25 O1 O2 O3 O23 O24 B1 B2 B3 G3 HS HOK HF1 HF2 HOR
  obtain ⟨D, hD⟩ : ∃ D, w4.heap.size = D := ⟨_, rfl⟩
  rw [hD] at B5 TB5 hw4
  simp only [hD]
  have HD := Lib.hid hD
  have hD3 : 3 ≤ D := by omega
  clear hD
  have hnA : (A.length : Int) ≤ 8 := by omega
  have hio : (ord.length : Int) ≤ 9223372036854775807 := by omega
  go_wp2_with fail
  go_loopw [8] (fun iv wr => ∃ (j : Nat) (T : TS) (M : List It), j ≤ ord.length ∧ j ≤ 30 ∧ iv = .int .i64 j ∧ Tr wr D D T ∧ IsT T (Tre.all M) ∧ T.N = j ∧ (∀ x ∈ M, x ∈ A) ∧ Below D w4 wr) (fun iv _ => 30 - (intOf iv).toNat)
  case atStart => exact ⟨0, TB, [], Nat.zero_le _, Nat.zero_le _, rfl, TB5.out, IB.out, NB.out, (fun x hx => by cases hx), B5.out⟩
  case round =>
    clear TB5 IB NB B5
    obtain ⟨j, T, M, hj, hj30, rfl, hT, hI, hN, hM, hb⟩ := hrel
    have T1 := Lib.hid hT
    have I1 := Lib.hid hI
    have N1 := Lib.hid hN
    have M1 := Lib.hid hM
    have B1 := Lib.hid hb
    have G1 := Lib.hid (Glob.below G4.out hb hD3)
    clear hT hI hN hM hb
    by_cases hgo : j < ord.length ∧ j < 30 ∧ 0 < A.length
    · obtain ⟨g1, g2, g3⟩ := hgo
      have g1I : (j : Int) < (ord.length : Int) := by omega
      have g2I : (j : Int) < 30 := by omega
      have g3I : (A.length : Int) > 0 := by omega
      have SR := S4.out.at' B1.out (Nat.le_of_eq HD.out)
      obtain ⟨ba, off, rfl, -⟩ := SR.cells (by omega) (ItS.oks HAI.out)
      obtain ⟨ob, oo, rfl, hoat⟩ := OR4.out.cells (by omega)
      have hoc := hoat j g1
      have hoc2 := bcell B1.out hoc (by rw [← HD.out]; exact blt hoc)
      obtain ⟨c, hc⟩ : ∃ c : UInt8, ord.getD j 0 = c := ⟨_, rfl⟩
      rw [hc] at hoc2
      have hc8 := c.toNat_lt
      obtain ⟨r, hr⟩ : ∃ r, c.toNat % A.length = r := ⟨_, rfl⟩
      have hrl : r < A.length := by rw [← hr]; exact Nat.mod_lt _ g3
      have hrI : ((c.toNat : Int)) % ((A.length : Int)) = (r : Int) := by rw [← hr]; omega
      have hrlI : (r : Int) < (A.length : Int) := by omega
      have hrg := SR.range (ItS.oks HAI.out) r hrl
      have hxm : A.getD r dIt ∈ A := by simp [List.getD, List.getElem?_eq_getElem hrl]
      obtain ⟨x, hx⟩ : ∃ x, A.getD r dIt = x := ⟨_, rfl⟩
      rw [hx] at hrg hxm
      have HRG := Lib.hid hrg
      have HXM := Lib.hid hxm
      have HXS := Lib.hid (HAI.out x hxm)
      have HXO := Lib.hid (HAI.out x hxm).1
      have HNb : Hid (T.N + 1 ≤ 1000000) := by have := N1.out; show _ ≤ _; omega
      clear hrg hxm hx hr hc hoc hoat SR
      go_wp2_with (first
        | (with_reducible refine load_item rfl (.tmp 55) rfl ba _ rfl x HXO.out HRG.out ?_)
        | (go_at_call 11; refine (tPut_any _ D D T (Tre.all M) x G1.out T1.out I1.out HXS.out HNb.out hD3).mono ?_; rintro e w6 ⟨T2, rfl, ht6, hi6, hn6, hb6, -⟩; have T6 := Lib.hid ht6; have I6 := Lib.hid hi6; have N6 := Lib.hid hn6; have B6 := Lib.hid hb6; clear ht6 hi6 hn6 hb6))
      refine ⟨⟨j + 1, T2, M ++ [x], by omega, by omega, by go_num, T6.out, by rw [Tre.all_snoc]; exact I6.out, by rw [N6.out, N1.out], fun y hy => ?_, B1.out.trans B6.out⟩, by simp [intOf]; omega⟩
      rcases List.mem_append.1 hy with h | h
      · exact M1.out y h
      · rw [List.mem_singleton.1 h]; exact HXM.out
    · have NJ : Hid (T.N ≤ 30) := by rw [show T.N = j from N1.out]; exact hj30
      clear N1
      have hex : ¬ j < ord.length ∨ (j < ord.length ∧ ¬ j < 30) ∨ (j < ord.length ∧ j < 30 ∧ A.length = 0) := by omega
      clear hgo
      have hgoal : (¬ (j : Int) < (ord.length : Int)) ∨ ((j : Int) < (ord.length : Int) ∧ ¬ (j : Int) < 30) ∨ ((j : Int) < (ord.length : Int) ∧ (j : Int) < 30 ∧ ¬ (A.length : Int) > 0) := by omega
      clear hex
      rcases hgoal with e1 | ⟨e1, e2⟩ | ⟨e1, e2, e3⟩
      all_goals
        go_wp2_with fail
        clear e1
        try clear e2
        try clear e3
        have hk0 : (A.length : Int) - 1 ≤ 7 := by omega
        go_loopw [9] (fun iv wq => ∃ (i : Nat) (S : TS) (L : List It), i ≤ A.length ∧ iv = .int .i64 ((i : Int) - 1) ∧ Tr wq D D S ∧ IsT S (Tre.all L) ∧ S.N + i ≤ 38 ∧ (∀ x ∈ L, x ∈ A) ∧ (∀ k, i ≤ k → k < A.length → A.getD k dIt ∈ L) ∧ Below D w4 wq) (fun iv _ => (intOf iv + 1).toNat)
        case atStart => exact ⟨A.length, T, M, Nat.le_refl _, rfl, T1.out, I1.out, by have := NJ.out; omega, M1.out, (fun k h1 h2 => by omega), B1.out⟩
        case round =>
          clear T1 I1 NJ M1 B1 G1
          obtain ⟨i, S, L, hi, rfl, hT, hI, hN, hM, hK, hb⟩ := hrel
          have T1 := Lib.hid hT
          have I1 := Lib.hid hI
          have N1 := Lib.hid hN
          have M1 := Lib.hid hM
          have K1 := Lib.hid hK
          have B1 := Lib.hid hb
          have G1 := Lib.hid (Glob.below G4.out hb hD3)
          clear hT hI hN hM hK hb
          cases i with
          | succ k =>
            have hkI : ((k + 1 : Nat) : Int) - 1 = (k : Int) := by omega
            rw [hkI]
            have hkl : k < A.length := by omega
            have hklI : (k : Int) < (A.length : Int) := by omega
            have SR := S4.out.at' B1.out (Nat.le_of_eq HD.out)
            obtain ⟨ba, off, rfl, -⟩ := SR.cells (by omega) (ItS.oks HAI.out)
            have hrg := SR.range (ItS.oks HAI.out) k hkl
            have hxm : A.getD k dIt ∈ A := by simp [List.getD, List.getElem?_eq_getElem hkl]
            obtain ⟨x, hx⟩ : ∃ x, A.getD k dIt = x := ⟨_, rfl⟩
            rw [hx] at hrg hxm
            have HRG := Lib.hid hrg
            have HXM := Lib.hid hxm
            have HX := Lib.hid hx
            have HXS := Lib.hid (HAI.out x hxm)
            have HXO := Lib.hid (HAI.out x hxm).1
            have HNb : Hid (S.N + 1 ≤ 1000000) := by have := N1.out; show _ ≤ _; omega
            clear hrg hxm hx SR hkI
            go_wp2_with (first
              | (with_reducible refine load_item rfl (.tmp 68) rfl ba _ rfl x HXO.out HRG.out ?_)
              | (go_at_call 11; refine (tPut_any _ D D S (Tre.all L) x G1.out T1.out I1.out HXS.out HNb.out hD3).mono ?_; rintro e w6 ⟨T2, rfl, ht6, hi6, hn6, hb6, -⟩; have T6 := Lib.hid ht6; have I6 := Lib.hid hi6; have N6 := Lib.hid hn6; have B6 := Lib.hid hb6; clear ht6 hi6 hn6 hb6))
            refine ⟨⟨k, T2, L ++ [x], by omega, by go_num, T6.out, by rw [Tre.all_snoc]; exact I6.out, by rw [N6.out]; have := N1.out; omega, fun y hy => ?_, fun q h1 h2 => ?_, B1.out.trans B6.out⟩, by simp [intOf]⟩
            · rcases List.mem_append.1 hy with h | h
              · exact M1.out y h
              · rw [List.mem_singleton.1 h]; exact HXM.out
            · rcases Nat.lt_or_ge k q with h | h
              · exact List.mem_append_left _ (K1.out q (by omega) h2)
              · rw [show q = k by omega, HX.out]; exact List.mem_append_right _ (List.mem_singleton.2 rfl)
          | zero =>
            have hAll : Tre.all L = A := Tre.any_order A L HAR.out M1.out (fun x hx => by
              obtain ⟨q, hq, rfl⟩ := List.mem_iff_getElem.1 hx
              have := K1.out q (Nat.zero_le _) hq
              simpa [List.getD, List.getElem?_eq_getElem hq] using this)
            have IB : Hid (IsT S A) := by have := I1.out; rw [hAll] at this; exact this
            have hD4 : Hid (w4.heap.size ≤ D) := Nat.le_of_eq HD.out
            have TA1 := Lib.hid (TA4.out.below B1.out hD4.out)
            clear hAll I1 N1 M1 K1 hi
            have hm1 : ¬ ((0 : Nat) : Int) - 1 ≥ 0 := by omega
            go_upto_region 15 with (go_at_call 12; refine (Paths_any _).mono ?_; rintro e wp ⟨vp, rfl, hp, hbp⟩; have PP := Lib.hid hp; have BP := Lib.hid hbp; have TAP := Lib.hid (TA1.out.below hbp (Nat.le_refl _)); have TBP := Lib.hid (T1.out.below hbp (Nat.le_refl _)); have hwp := hbp.size; have hDw := B1.out.size; have hDr : D ≤ wr.heap.size := (by have := T1.out.row.lt; omega); clear hp hbp)
            have hl21 : (psTo 3).length = 21 := by decide
            obtain ⟨ap, cp, hvp⟩ := PP.out.len
            rw [hl21] at hvp
            subst hvp
            have HL21 := Lib.hid hl21
            clear hl21
            have GP := Lib.hid (Glob.below G1.out BP.out (by omega))
            have BWP := Lib.hid (B4.out.trans ((B1.out.mono hw4).trans (BP.out.mono (by omega))))
            go_wp2_with fail
            go_loopw [11] (fun iv wq => ∃ q : Nat, q ≤ 21 ∧ iv = .int .i64 q ∧ Below wp.heap.size wp wq) (fun iv _ => 21 - (intOf iv).toNat)
            case atStart => exact ⟨0, by omega, rfl, Below.refl _ _⟩
            case round =>
              obtain ⟨q, hq, rfl, hbq⟩ := hrel
              have BQ := Lib.hid hbq
              have hwq := hbq.size
              clear hbq
              by_cases hlt : q < 21
              · have hltI : (q : Int) < 21 := by omega
                obtain ⟨pb, po, pv, rfl, hpc, hpn⟩ := PP.out.at q (by rw [HL21.out]; exact hlt)
                have hpc2 := bcell BQ.out hpc (blt hpc)
                have hgood := psTo_good ((psTo 3).getD q []) (by simp [List.getD, List.getElem?_eq_getElem (show q < (psTo 3).length by rw [HL21.out]; exact hlt)])
                have hns := hpn.ns.below BQ.out
                generalize (psTo 3).getD q [] = P at *
                obtain ⟨s, hs⟩ : ∃ s, Tre.sumAt A P = s := ⟨_, rfl⟩
                have hs32 : s.length = 32 := by rw [← hs]; exact sumAt_length _ _
                have HSA := Lib.hid hs
                have HS32 := Lib.hid hs32
                have HGD := Lib.hid hgood
                have HNS := Lib.hid hns
                have TAQ := Lib.hid (TAP.out.below BQ.out (Nat.le_refl _))
                have TBQ := Lib.hid (TBP.out.below BQ.out (Nat.le_refl _))
                have HEQ : Hid ((s == s) = true) := by show _ = _; simp
                clear hs hs32 hgood hns hpc hpn
                go_upto_region 18 with (first
                  | (go_at_call 13; refine (Sum_good _ _ _ TA A pv P TAQ.out IA.out HNS.out HGD.out).mono ?_; rw [HSA.out]; rintro e w7 ⟨rfl, hb7⟩; obtain ⟨hz7, W8, hW8, hr8, hb8⟩ := boxS w7 s HS32.out; have HZ7 := Lib.hid hz7; have R8 := Lib.hid hr8; have hw7 := hb7.size; have B8 := Lib.hid (hb7.trans (hb8.mono hw7)); clear hz7 hr8 hb7 hb8)
                  | (with_reducible refine store_sum rfl (.tmp 12) (.tmp 85) rfl w7.heap.size rfl s rfl HS32.out 30 Tre0 HZ7.out rfl ?_))
                try rw [hW8]
                clear hW8
                have hpc3 := bcell B8.out hpc2 (blt hpc2)
                have TB8 := Lib.hid (TBQ.out.below B8.out (Nat.le_refl _))
                have NS8 := Lib.hid (HNS.out.below B8.out)
                have hw78 := R8.out.lt
                go_upto_region 19 with (first
                  | (go_at_call 13; refine (Sum_good _ _ _ S A pv P TB8.out IB.out NS8.out HGD.out).mono ?_; rw [HSA.out]; rintro e w9 ⟨rfl, hb9⟩; obtain ⟨hz9, Wa, hWa, hra, hba⟩ := boxS w9 s HS32.out; have HZ9 := Lib.hid hz9; have RA := Lib.hid hra; have hw9 := hb9.size; have BA := Lib.hid (hb9.trans (hba.mono hw9)); clear hz9 hra hb9 hba)
                  | (with_reducible refine store_sum rfl (.tmp 14) (.tmp 94) rfl w9.heap.size rfl s rfl HS32.out 30 Tre0 HZ9.out rfl ?_))
                try rw [hWa]
                clear hWa
                have R8a := Lib.hid (R8.out.keep BA.out)
                have hra1 : Hid (Wa.rangeAt w7.heap.size 0 (bytes s)) := fun k v hv => by rw [Nat.zero_add, R8a.out.cell]; exact hv
                have hra2 : Hid (Wa.rangeAt w9.heap.size 0 (bytes s)) := fun k v hv => by rw [Nat.zero_add, RA.out.cell]; exact hv
                go_wp2_with (first
                  | (with_reducible refine load_sum_mid rfl (.tmp 12) rfl w7.heap.size 0 rfl s HS32.out hra1.out ?_)
                  | (with_reducible refine load_sum_mid rfl (.tmp 14) rfl w9.heap.size 0 rfl s HS32.out hra2.out ?_)
                  | (refine neq_sum rfl (.tmp 96) (.tmp 97) rfl s s rfl rfl HS32.out HS32.out _ HEQ.out ?_))
                exact ⟨⟨q + 1, by omega, by go_num, BQ.out.trans ((B8.out.mono hwq).trans (BA.out.mono (by have := B8.out.size; omega)))⟩, by simp [intOf]; omega⟩
              · have hql : q = 21 := by omega
                subst hql
                have hnI : ¬ ((21 : Nat) : Int) < 21 := by omega
                have GQ := Lib.hid (Glob.below GP.out BQ.out (by omega))
                have BWQ := Lib.hid (BWP.out.trans (BQ.out.mono (by have := BWP.out.size; omega)))
                go_wp2_with (go_at_call 14; refine (lives_any _ GQ.out).mono ?_; rintro e wl ⟨rfl, hbl⟩; have BL := Lib.hid (BWQ.out.trans (hbl.mono (by have := BWQ.out.size; omega))); clear hbl)
                go_ret
                exact ⟨rfl, BL.out⟩
end Go.Proofs.YtnhkbbladifmmaaDoor
