/- Frames: the law FrameBack. -/
import Derived.Test.YtadmjhlcdoghpabFrmP
import Derived.Test.YtadmjhlcdoghpabFrm8
namespace Go.Proofs.Ytadmjhlcdoghpab
set_option linter.unusedVariables false
set_option linter.unusedSimpArgs false
set_option linter.unnecessarySimpa false
open Go.RowKit
set_option maxRecDepth 100000
set_option maxHeartbeats 4000000

theorem Bss.take {w : World} {a : Option Addr} {n cap : Nat} {Ls : List (List UInt8)} (h : Bss w (.slice a n cap) Ls) (j : Nat) (hj : j ≤ Ls.length) : Bss w (.slice a j cap) (Ls.take j) := by
  obtain ⟨xs, ⟨hxl, a', cap', he, h1, h2, h3, h4⟩, hx⟩ := h
  simp only [Value.slice.injEq] at he
  obtain ⟨rfl, rfl, rfl⟩ := he
  have hlt : (Ls.take j).length = j := by rw [List.length_take]; omega
  refine ⟨xs.take j, ⟨by rw [List.length_take, hlt]; omega, _, _, by rw [hlt], by omega, h2, h3, ?_⟩, ?_⟩
  · intro x hx k u hu
    rw [List.getElem?_take] at hu
    split at hu
    · exact h4 x hx k u hu
    · simp at hu
  · intro k hk
    rw [hlt] at hk
    obtain ⟨u, hu, hs⟩ := hx k (by omega)
    refine ⟨u, by rw [List.getElem?_take, if_pos hk]; exact hu, ?_⟩
    rw [show (Ls.take j).getD k [] = Ls.getD k [] by simp [List.getD, List.getElem?_take, hk]]
    exact hs
theorem all_le (Ls : List (List UInt8)) (ht : totB Ls ≤ 20000) : ∀ d ∈ Ls, d.length ≤ 1048576 := by
  intro d hd
  obtain ⟨i, hi, rfl⟩ := List.getElem_of_mem hd
  have := totB_get Ls i hi
  rw [List.getD, List.getElem?_eq_getElem hi] at this
  simp at this; omega
theorem frames_le (Ls : List (List UInt8)) (ht : totB Ls ≤ 20000) (hc : Ls.length ≤ 200) : (frames Ls).length ≤ 30000 := by
  have hlm : ∀ i, i < Ls.length → (Ls.getD i []).length ≤ 1048576 := fun i hi => by have := totB_get Ls i hi; omega
  have hfa := frames_length Ls hlm Ls.length (Nat.le_refl _)
  rw [List.take_length] at hfa
  omega
theorem Scan_of (v : Value) (l : List UInt8) (w : World) (S : List (List UInt8) × Nat × Nat) (hS : scF (l.length + 1) l = S) (h : Sh w v l) (hl : l.length ≤ 1000000000) :
    Calls Try.prog 16 #[v] w fun e w' => ∃ v', e = .returned (.tuple #[v', .int .i64 (S.2.1 : Int), .int .i64 (S.2.2 : Int)]) ∧ Bss w' v' S.1 ∧ Below w.heap.size w w' := by
  subst hS; exact Scan_any v l w h hl
theorem FrameBack_walk (lv : Value) (Ls : List (List UInt8)) (c : Int) (w : World) (hs : Bss w lv Ls) (hn : Ls.length ≤ 10000000000000) (hl : ∀ i, i < Ls.length → (Ls.getD i []).length ≤ 140737488355328) (hc0 : 0 ≤ c) (hc1 : c < 4294967296) :
    Calls Try.prog 5 #[lv, .int .u32 c] w fun e w' => e = .returned (.bool true) ∧ Below w.heap.size w w' := by
  obtain ⟨a, cap, rfl, g1, g2, g3⟩ := hs.open
  have HS := Lib.hid hs
  have HL := Lib.hid hl
  clear hs g3 hl
  go_enter Try.func5, Try.ntmps5
  go_wp2_with fail
  refine (small_any _ Ls _ HS.out hn HL.out).mono ?_
  rintro e w1 ⟨⟨r, rfl, hr⟩, hw1⟩; subst hw1
  cases r with
  | false =>
    go_wp2_with (go_at_call 13; refine (lives05 _).mono ?_; rintro e w2 ⟨rfl, hb2⟩)
    go_ret
    exact ⟨rfl, hb2⟩
  | true =>
    obtain ⟨ht, hcn⟩ := hr rfl
    clear hr
    have hal := all_le Ls ht
    have hfl := frames_le Ls ht hcn
    have HSA := Lib.hid (scF_all Ls hal)
    have HCUT := Lib.hid (scF_cut Ls hal)
    have HT := Lib.hid ht
    have HAL := Lib.hid hal
    clear ht hal
    go_wp2_with fail
    refine (putAll_any _ Ls _ HS.out HT.out hcn).mono ?_; rintro e w2 ⟨v2, rfl, hv2, hb2⟩
    obtain ⟨x2, c2, rfl, k1, k2, -, hv2⟩ := hv2.open
    go_wp2_with fail
    refine (own_any _ (frames Ls) _ hv2 (by omega)).mono ?_; rintro e3 w3 ⟨v3, rfl, ho3, hb3⟩
    have hb03 := bthen hb2 hb3 (Nat.le_refl _)
    go_wp2_with fail
    refine (Scan_of v3 (frames Ls) _ _ HSA.out ho3.sh (by omega)).mono ?_; rintro e4 w4 ⟨v4, rfl, hs4, hb4⟩
    have hb04 := bthen hb03 hb4 (Nat.le_refl _)
    go_wp2_with fail
    refine (Same_any v4 _ Ls _ hs4 (HS.out.below hb04)).mono ?_; rintro e5 w5 ⟨rfl, hb5⟩
    have hb05 := bthen hb04 hb5 (Nat.le_refl _)
    have hb25 := bthen (bthen hb3 hb4 (Nat.le_refl _)) hb5 (Nat.le_refl _)
    have HV2 := Lib.hid (hv2.below hb25)
    clear hs4 ho3 hv2 hb2 hb3 hb4 hb5 hb03 hb04 hb25
    have s5 := hb05.size
    generalize hF : (frames Ls).length = F at *
    have hN : ∃ N : Nat, N ≤ F ∧ c % ((F : Int) + 1) = (N : Int) := ⟨(c % ((F : Int) + 1)).toNat, by have := Int.emod_lt_of_pos c (show (0 : Int) < (F : Int) + 1 by omega); omega, by have := Int.emod_nonneg c (show (F : Int) + 1 ≠ 0 by omega); omega⟩
    obtain ⟨N, hNF, hNe⟩ := hN
    have hex : ∃ (j P E : Nat), j ≤ Ls.length ∧ scF (((frames Ls).take N).length + 1) ((frames Ls).take N) = (Ls.take j, P, E) ∧ ((E = 0 ∧ P = N) ∨ (E = 3 ∧ P < N)) ∧ (j = Ls.length ∨ (j < Ls.length ∧ N < P + (frameB (Ls.getD j [])).length)) := by
      obtain ⟨j, i, hj, hsc, hNi, hji⟩ := HCUT.out N (by omega)
      refine ⟨j, (frames (Ls.take j)).length, if i = 0 then 0 else 3, hj, hsc, ?_, ?_⟩
      · by_cases hi : i = 0
        · rw [if_pos hi]; omega
        · rw [if_neg hi]; omega
      · omega
    obtain ⟨j, P, E, hj, hsc, hPE, hjl⟩ := hex
    have HPE := Lib.hid hPE
    have HJL := Lib.hid hjl
    have HSC := Lib.hid hsc
    have HF := Lib.hid hF
    have hPN : P ≤ N := by omega
    have HNE := Lib.hid hNe
    have hNC : (N : Int) ≤ (c2 : Int) := by omega
    have hw1 := IntWalk.u32_in (N : Int) ⟨by omega, by omega⟩
    have hle := HV2.out.take N (by omega)
    have HTK := Lib.hid hle
    have hln : ((frames Ls).take N).length ≤ 30000 := by rw [List.length_take]; omega
    have HLN := Lib.hid hln
    have hjt : (Ls.take j).length = j := by rw [List.length_take]; omega
    have HJT := Lib.hid hjt
    have HTS := Lib.hid (HS.out.take j hj)
    have hjI : (j : Int) ≤ (Ls.length : Int) := by omega
    have hjC : (j : Int) ≤ (cap : Int) := by omega
    clear hPE hjl hsc hF HCUT hv2 hle hln hjt
    go_wp2_with fail
    rw [HNE.out]
    refine (own_any _ _ _ HTK.out (by have := HLN.out; omega)).mono ?_; rintro e6 w6 ⟨v6, rfl, ho6, hb6⟩
    have hb06 := bthen hb05 hb6 (Nat.le_refl _)
    go_wp2_with fail
    refine (Scan_of v6 _ _ _ HSC.out ho6.sh (by have := HLN.out; omega)).mono ?_; rintro e7 w7 ⟨v7, rfl, hs7, hb7⟩
    have hb07 := bthen hb06 hb7 (Nat.le_refl _)
    obtain ⟨x7, c7, e7, -, -, -⟩ := hs7.open
    rw [HJT.out] at e7
    subst e7
    clear hb6 hb7 ho6 hb05 hb06 hNe hw1
    have s7 := hb07.size
    rcases HJL.out with hje | ⟨hjlt, hnext⟩
    · clear HJL
      have hjE : (j : Int) = (Ls.length : Int) := by omega
      subst hje
      rcases HPE.out with ⟨rfl, rfl⟩ | ⟨rfl, hPlt⟩
      · go_wp2_with (first
          | (go_at_call 17; refine (Same_any _ _ _ _ hs7 (HTS.out.below hb07)).mono ?_; rintro e8 w8 ⟨rfl, hb8⟩; have hb08 := bthen hb07 hb8 (Nat.le_refl _))
          | (go_at_call 13; refine (lives05 _).mono ?_; rintro e9 w9 ⟨rfl, hb9⟩; have hb09 := bthen hb08 hb9 (Nat.le_refl _)))
        go_ret
        exact ⟨rfl, hb09⟩
      · have hPltI : (P : Int) < (N : Int) := by omega
        have hPneI : ((P : Int) == (N : Int)) = false := by rw [beq_eq_false_iff_ne]; omega
        go_wp2_with (first
          | (go_at_call 17; refine (Same_any _ _ _ _ hs7 (HTS.out.below hb07)).mono ?_; rintro e8 w8 ⟨rfl, hb8⟩; have hb08 := bthen hb07 hb8 (Nat.le_refl _))
          | (go_at_call 13; refine (lives05 _).mono ?_; rintro e9 w9 ⟨rfl, hb9⟩; have hb09 := bthen hb08 hb9 (Nat.le_refl _)))
        go_ret
        exact ⟨rfl, hb09⟩
    · obtain ⟨b, off, rfl, -, hat⟩ := HS.out.cells (by omega)
      obtain ⟨u, hu, hsu⟩ := hat j hjlt
      obtain ⟨xu, cu, rfl, -⟩ := hsu.open
      have hsz := sizeF_of (Ls.getD j []) (by have h1 := totB_get Ls j hjlt; have h2 := HT.out; omega)
      have HSZ := Lib.hid hsz
      have hu' := bcell hb07 hu (blt hu)
      have hgtI : (N : Int) < (P : Int) + ((frameB (Ls.getD j [])).length : Int) := by omega
      have hgl : (frameB (Ls.getD j [])).length ≤ 1048600 := by have h0 := totB_get Ls j hjlt; have ht := HT.out; have h1 := frameB_length (Ls.getD j []) (by omega); have h2 := nsize_le (Ls.getD j []).length; omega
      have hjltI : (j : Int) < (Ls.length : Int) := by omega
      have hjneI : (j : Int) ≠ (Ls.length : Int) := by omega
      have HU := Lib.hid hu'
      clear hat hsu hsz hu HJL hnext hu'
      generalize (frameB (Ls.getD j [])).length = G at *
      generalize (Ls.getD j []).length = D at *
      rcases HPE.out with ⟨rfl, rfl⟩ | ⟨rfl, hPlt⟩
      · go_wp2_with (first
          | (go_at_call 17; refine (Same_any _ _ _ _ hs7 (HTS.out.below hb07)).mono ?_; rintro e8 w8 ⟨rfl, hb8⟩; have hb08 := bthen hb07 hb8 (Nat.le_refl _); have hu8 := bcell hb8 HU.out (blt HU.out))
          | (go_at_call 12; refine (Sizef_any (D : Int) _).mono ?_; rw [HSZ.out]; rintro e10 w10 ⟨rfl, rfl⟩)
          | (go_at_call 13; refine (lives05 _).mono ?_; rintro e9 w9 ⟨rfl, hb9⟩; have hb09 := bthen hb08 hb9 (Nat.le_refl _)))
        go_ret
        exact ⟨rfl, hb09⟩
      · have hPltI : (P : Int) < (N : Int) := by omega
        have hPneI : ((P : Int) == (N : Int)) = false := by rw [beq_eq_false_iff_ne]; omega
        go_wp2_with (first
          | (go_at_call 17; refine (Same_any _ _ _ _ hs7 (HTS.out.below hb07)).mono ?_; rintro e8 w8 ⟨rfl, hb8⟩; have hb08 := bthen hb07 hb8 (Nat.le_refl _); have hu8 := bcell hb8 HU.out (blt HU.out))
          | (go_at_call 12; refine (Sizef_any (D : Int) _).mono ?_; rw [HSZ.out]; rintro e10 w10 ⟨rfl, rfl⟩)
          | (go_at_call 13; refine (lives05 _).mono ?_; rintro e9 w9 ⟨rfl, hb9⟩; have hb09 := bthen hb08 hb9 (Nat.le_refl _)))
        go_ret
        exact ⟨rfl, hb09⟩
end Go.Proofs.Ytadmjhlcdoghpab
