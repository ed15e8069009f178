/- Frames: the law FrameSpoilt. -/
import Derived.Test.YtadmjhlcdoghpabFrm11
namespace Go.Proofs.Ytadmjhlcdoghpab
set_option linter.unusedVariables false
set_option linter.unusedSimpArgs false
set_option linter.unnecessarySimpa false
open Go.RowKit
set_option maxRecDepth 100000
set_option maxHeartbeats 4000000

theorem FrameSpoilt_walk (lv : Value) (Ls : List (List UInt8)) (wh : Int) (x y : Int) (w : World) (hs : Bss w lv Ls) (hn : Ls.length ≤ 10000000000000) (hl : ∀ i, i < Ls.length → (Ls.getD i []).length ≤ 140737488355328)
    (hw0 : 0 ≤ wh) (hw1 : wh < 256) (hx0 : 0 ≤ x) (hx1 : x < 4294967296) (hy0 : 0 ≤ y) (hy1 : y < 4294967296) :
    Calls Try.prog 6 #[lv, .int .u8 wh, .agg #[.int .u32 x, .int .u32 y]] w fun e w' => e = .returned (.bool true) ∧ Below w.heap.size w w' := by
  obtain ⟨a, cap, rfl, g1, g2, g3⟩ := hs.open
  have HS := Lib.hid hs
  have HL := Lib.hid hl
  clear hs g3 hl
  go_enter Try.func6, Try.ntmps6
  go_wp2_with fail
  have hR := Row.new w 41 [.int .u32 x, .int .u32 y]
  have hq0 := Row.cell hR 0
  have hq1 := Row.cell hR 1
  have hbA : Below w.heap.size w (w.alloc (.cells [.int .u32 x, .int .u32 y].toArray 41)) := balloc (Below.refl _ _) _
  clear hR
  simp only [List.getElem?_cons_zero, List.getElem?_cons_succ] at hq0 hq1
  rw [show ([Value.int .u32 x, Value.int .u32 y] : List Value).toArray = #[.int .u32 x, .int .u32 y] from rfl] at hq0 hq1 hbA
  generalize w.alloc (.cells #[.int .u32 x, .int .u32 y] 41) = wA at *
  have sA := hbA.size
  go_quiet (fail)
  have hbB : Below w.heap.size w (wA.drewN nq) := hbA.trans ((drewN_below wA nq).mono sA)
  clear hq0 hq1 hbA sA
  generalize wA.drewN nq = wB at *
  go_wp2_with fail
  refine (small_any _ Ls _ (HS.out.below hbB) hn HL.out).mono ?_
  rintro e w1 ⟨⟨r, rfl, hr⟩, hw1⟩; subst hw1
  cases r with
  | false =>
    go_wp2_with (go_at_call 13; refine (lives05 _).mono ?_; rintro e w2 ⟨rfl, hb2⟩)
    go_ret
    exact ⟨rfl, bthen hbB hb2 (Nat.le_refl _)⟩
  | true =>
    obtain ⟨ht, hcn⟩ := hr rfl
    clear hr
    by_cases hL0 : Ls.length = 0
    · have hL0I : (Ls.length : Int) = 0 := by omega
      rw [hL0]
      go_wp2_with (go_at_call 13; refine (lives05 _).mono ?_; rintro e w2 ⟨rfl, hb2⟩)
      go_ret
      exact ⟨rfl, bthen hbB hb2 (Nat.le_refl _)⟩
    · have hal := all_le Ls ht
      have hfl := frames_le Ls ht hcn
      have HT := Lib.hid ht
      have HAL := Lib.hid hal
      have HFL := Lib.hid hfl
      clear ht hal hfl
      have hLpos : 0 < (Ls.length : Int) := by omega
      have hLb : ((Ls.length : Int) == 0) = false := by rw [beq_eq_false_iff_ne]; omega
      obtain ⟨K, hK, hKe⟩ : ∃ K : Nat, K < Ls.length ∧ wh % (Ls.length : Int) = (K : Int) := ⟨(wh % (Ls.length : Int)).toNat, by have := Int.emod_lt_of_pos wh hLpos; have := Int.emod_nonneg wh (show (Ls.length : Int) ≠ 0 by omega); omega, by have := Int.emod_nonneg wh (show (Ls.length : Int) ≠ 0 by omega); omega⟩
      have hKc : (K : Int) ≤ (cap : Int) := by omega
      have hKI : (K : Int) < (Ls.length : Int) := by omega
      have hTK := HS.out.take K (by omega)
      have htk : totB (Ls.take K) ≤ 20000 := Nat.le_trans (totB_le Ls K) HT.out
      have hck : (Ls.take K).length ≤ 200 := by rw [List.length_take]; omega
      have HTK := Lib.hid hTK
      have HTT := Lib.hid htk
      have HCK := Lib.hid hck
      obtain ⟨b, off, rfl, -, hat⟩ := HS.out.cells (by omega)
      obtain ⟨u, hu, hsu⟩ := hat K hK
      obtain ⟨xu, cu, rfl, -⟩ := hsu.open
      have hu' := bcell hbB hu (blt hu)
      have HU := Lib.hid hu'
      have hdl : (Ls.getD K []).length ≤ 20000 := by have h1 := totB_get Ls K hK; have h2 := HT.out; omega
      obtain ⟨SP, s0, X0, hSP, hX0, hSL, hSG, hSS, hSB, hSO, hSM⟩ := spl_pack Ls HT.out K hK
      have hfk := frames_le (Ls.take K) htk hck
      clear hTK htk hck hat hsu hu hu'
      go_wp2_with fail
      refine (putAll_any _ (Ls.take K) _ (HTK.out.below hbB) HTT.out HCK.out).mono ?_; rintro e2 w2 ⟨v2, rfl, hv2, hb2⟩
      have hb02 := bthen hbB hb2 (Nat.le_refl _)
      obtain ⟨x2, c2, rfl, -⟩ := hv2.open
      go_wp2_with fail
      refine (putAll_any _ Ls _ (HS.out.below hb02) HT.out hcn).mono ?_; rintro e3 w3 ⟨v3, rfl, hv3, hb3⟩
      have hb03 := bthen hb02 hb3 (Nat.le_refl _)
      have hb13 := bthen hb2 hb3 (Nat.le_refl _)
      have hu3 := bcell hb13 HU.out (blt HU.out)
      rw [hSP] at hv3 hSL hSM hSO
      have hM30 : (SP X0).length ≤ 30000 := by rw [← hSP]; exact HFL.out
      have hns1 : 1 ≤ nsize (Ls.getD K []).length := by unfold nsize; split <;> (try split) <;> (try split) <;> omega
      have hns := nsize_le (Ls.getD K []).length
      obtain ⟨x3, c3, rfl, k1, k2, -, hv3⟩ := hv3.open
      have HSP := Lib.hid hSP
      clear hSP
      generalize hP : (frames (Ls.take K)).length = P at *
      have HP := Lib.hid hP
      clear hP
      generalize hD : (Ls.getD K []).length = D at *
      have HD := Lib.hid hD
      clear hD
      generalize hN : nsize D = N at *
      have HN := Lib.hid hN
      clear hN
      generalize hM : (SP X0).length = M at *
      have HM := Lib.hid hM
      have HV3 := Lib.hid hv3
      have HX0 := Lib.hid hX0
      have HSL := Lib.hid hSL
      have HSG := Lib.hid hSG
      have HSS := Lib.hid hSS
      have HSB := Lib.hid hSB
      have HSO := Lib.hid hSO
      clear hM hv3 hX0 hSL hSG hSS hSB hSO
      have hbigI : ¬ (M : Int) < (P : Int) + (D : Int) + 5 := by omega
      go_wp2_with (go_at_call 11; refine (refSize_any (D : Int) (by omega) _).mono ?_; rw [Int.toNat_natCast, HN.out]; rintro e4 w4 ⟨rfl, rfl⟩)
      obtain ⟨T, hT, hT2⟩ : ∃ T : Nat, 8 * ((D : Int) + 4) = (T : Int) ∧ T = 8 * (D + 4) := ⟨8 * (D + 4), by omega, rfl⟩
      obtain ⟨F, hF, hFe⟩ : ∃ F : Nat, F < T ∧ x.tmod (T : Int) = (F : Int) := ⟨(x.tmod (T : Int)).toNat, by rw [Int.tmod_eq_emod_of_nonneg hx0]; have := Int.emod_lt_of_pos x (show (0 : Int) < (T : Int) by omega); have := Int.emod_nonneg x (show (T : Int) ≠ 0 by omega); omega, by rw [Int.tmod_eq_emod_of_nonneg hx0]; have := Int.emod_nonneg x (show (T : Int) ≠ 0 by omega); omega⟩
      have hwT := IntWalk.u32_in (8 * ((D : Int) + 4)) ⟨by omega, by omega⟩
      have hT0 : ¬ 8 * ((D : Int) + 4) = 0 := by omega
      have hF32 := IntWalk.i64_in (F : Int) ⟨by omega, by omega⟩
      rw [← hT] at hFe
      have HTT2 := Lib.hid hT
      clear hT
      refine wp_region_any (by kernel_rfl) ?_
      try (change wpAny _ _ _ _ _ _ _ (World.drew _))
      refine wpAny_take (i := 0) (v := ?_) (by simp only [List.getElem?_toArray, List.getElem?_cons_zero, List.getElem?_cons_succ] <;> rfl) (by kernel_rfl) (by kernel_rfl) (by kernel_rfl) (by intro _ _ _ h; exact h) (Or.inl ⟨by rfl, ?_⟩) ?_
      rotate_left
      · intro w; go_simp; try with_reducible rfl
      try simp only [Act.put, List.setIfInBounds_toArray, List.set_cons_zero, List.set_cons_succ, Array.replicate]
      refine wpAny_take (i := 2) (v := ?_) (by simp only [List.getElem?_toArray, List.getElem?_cons_zero, List.getElem?_cons_succ] <;> rfl) (by kernel_rfl) (by kernel_rfl) (by kernel_rfl) (by intro _ _ _ h; exact h) (Or.inl ⟨by rfl, ?_⟩) ?_
      rotate_left
      · intro w; go_simp; try with_reducible rfl
      try simp only [Act.put, List.setIfInBounds_toArray, List.set_cons_zero, List.set_cons_succ, Array.replicate]
      refine wpAny_take (i := 3) (v := ?_) (by simp only [List.getElem?_toArray, List.getElem?_cons_zero, List.getElem?_cons_succ] <;> rfl) (by kernel_rfl) (by kernel_rfl) (by kernel_rfl) (by intro _ _ _ h; exact h) (Or.inl ⟨by rfl, ?_⟩) ?_
      rotate_left
      · intro w; go_simp; try with_reducible rfl
      try simp only [Act.put, List.setIfInBounds_toArray, List.set_cons_zero, List.set_cons_succ, Array.replicate]
      refine wpAny_take (i := 4) (v := ?_) (by simp only [List.getElem?_toArray, List.getElem?_cons_zero, List.getElem?_cons_succ] <;> rfl) (by kernel_rfl) (by kernel_rfl) (by kernel_rfl) (by intro _ _ _ h; exact h) (Or.inl ⟨by rfl, ?_⟩) ?_
      rotate_left
      · intro w; go_simp; try with_reducible rfl
      try simp only [Act.put, List.setIfInBounds_toArray, List.set_cons_zero, List.set_cons_succ, Array.replicate]
      refine wpAny_take (i := 5) (v := ?_) (by simp only [List.getElem?_toArray, List.getElem?_cons_zero, List.getElem?_cons_succ] <;> rfl) (by kernel_rfl) (by kernel_rfl) (by kernel_rfl) (by intro _ _ _ h; exact h) (Or.inl ⟨by rfl, ?_⟩) ?_
      rotate_left
      · intro w; go_simp; try with_reducible rfl
      try simp only [Act.put, List.setIfInBounds_toArray, List.set_cons_zero, List.set_cons_succ, Array.replicate]
      refine wpAny_take (i := 6) (v := ?_) (by simp only [List.getElem?_toArray, List.getElem?_cons_zero, List.getElem?_cons_succ] <;> rfl) (by kernel_rfl) (by kernel_rfl) (by kernel_rfl) (by intro _ _ _ h; exact h) (Or.inl ⟨by rfl, ?_⟩) ?_
      rotate_left
      · intro w; go_simp; try with_reducible rfl
      try simp only [Act.put, List.setIfInBounds_toArray, List.set_cons_zero, List.set_cons_succ, Array.replicate]
      refine wpAny_ready (rs := [1]) (by kernel_rfl) (by simp) ?_
      refine AllReady.cons (by simp only [List.getElem?_toArray, List.getElem?_cons_zero, List.getElem?_cons_succ] <;> rfl) (fun K hK => ?_) ?_
      · go_simp; go_at_call 9; refine (own_any _ _ _ (HV3.out.below (Below.refl _ _).drew) (by have := HM.out; omega)).mono ?_; rintro e5 w5 ⟨v5, rfl, ho5, hb5⟩; try go_simp
        refine hK _ _ ?_
        clear hK K
        try simp only [Act.put, List.setIfInBounds_toArray, List.set_cons_zero, List.set_cons_succ, Array.replicate]
        refine wpAny_take (i := 7) (v := ?_) (by simp only [List.getElem?_toArray, List.getElem?_cons_zero, List.getElem?_cons_succ] <;> rfl) (by kernel_rfl) (by kernel_rfl) (by kernel_rfl) (by intro _ _ _ h; exact h) (Or.inl ⟨by rfl, ?_⟩) ?_
        rotate_left
        · intro w; go_simp; try with_reducible rfl
        try simp only [Act.put, List.setIfInBounds_toArray, List.set_cons_zero, List.set_cons_succ, Array.replicate]
        refine wpAny_take (i := 8) (v := ?_) (by simp only [List.getElem?_toArray, List.getElem?_cons_zero, List.getElem?_cons_succ] <;> rfl) (by kernel_rfl) (by kernel_rfl) (by kernel_rfl) (by intro _ _ _ h; exact h) (Or.inl ⟨by rfl, ?_⟩) ?_
        rotate_left
        · intro w; go_simp; try with_reducible rfl
        try simp only [Act.put, List.setIfInBounds_toArray, List.set_cons_zero, List.set_cons_succ, Array.replicate]
        refine wpAny_take (i := 9) (v := ?_) (by simp only [List.getElem?_toArray, List.getElem?_cons_zero, List.getElem?_cons_succ] <;> rfl) (by kernel_rfl) (by kernel_rfl) (by kernel_rfl) (by intro _ _ _ h; exact h) (Or.inl ⟨by rfl, ?_⟩) ?_
        rotate_left
        · intro w; go_simp; try with_reducible rfl
        try simp only [Act.put, List.setIfInBounds_toArray, List.set_cons_zero, List.set_cons_succ, Array.replicate]
        refine wpAny_done (by kernel_rfl) ?_ _
        clear hwT hT0 hF32 hFe hbigI hKe hLpos hLb hu3 hb2 hb3 hb13 hL0
        have s3 : w.heap.size ≤ w3.drew.heap.size := hb03.size
        have hb05 : Below w.heap.size w w5 := bthen (hb03.trans ((Below.refl w3.heap.size w3).drew.mono hb03.size)) hb5 (Nat.le_refl _)
        have ho5' := ho5.mono s3
        obtain ⟨g, c5, rfl, hg0, -, -⟩ := ownRow_of ho5' (by rw [HM.out]; omega)
        rw [HM.out] at ho5' ⊢
        have HO5 := Lib.hid ho5'
        have HB5 := Lib.hid hb05
        clear ho5 ho5' hb05 hb5 hb03 hb02 hbB s3
        go_wp2_with fail
        go_loopw [17, 19] (fun av iv wr => ∃ (i u : Nat) (X : List UInt8) (bb : Bool), i ≤ 32 ∧ F + i ≤ T ∧ iv = .int .i64 (i : Int) ∧ av = .bool bb ∧ (bb = true ↔ u ≠ 0) ∧ (u = 0 → X = X0) ∧ Burst s0 X0 F i u X ∧ Own wr w.heap.size 5 (.slice (some ⟨g, 0, none⟩) M c5) (SP X) ∧ Below w.heap.size w wr) (fun _ iv _ => 32 - (intOf iv).toNat)
        case atStart => exact ⟨0, 0, X0, false, by omega, by omega, rfl, rfl, by simp, fun _ => rfl, Burst.start _ _ _, HO5.out, HB5.out⟩
        case round =>
          obtain ⟨i, u, X, bb, hi, hFi, rfl, rfl, hbb, hX, hB, hO, hb⟩ := hrel
          by_cases hgo : i < 32 ∧ F + i < T
          · obtain ⟨hi2, hFi2⟩ := hgo
            have hiI : (i : Int) < 32 := by omega
            have hFiI : (F : Int) + (i : Int) < 8 * ((D : Int) + 4) := by omega
            have hXl := hB.1
            have hp : (F + i) / 8 < X.length := by rw [hXl, HX0.out]; omega
            have hOl := HSL.out X hXl
            have hcell := ownByte (by rw [hOl]; exact hO) (P + N + (F + i) / 8) (by rw [hOl]; have := HX0.out; omega)
            rw [HSG.out X _ hp] at hcell
            have hfro := ownNotFrozen (by rw [hOl]; exact hO) (P + N + (F + i) / 8)
            have hbyte := (X.getD ((F + i) / 8) 0).toNat_lt
            by_cases hbit : ((y / 2 ^ i).tmod 2 == 1) = true
            · go_wp2_with fail
              rw [div128 _ (by omega)]
              have hfl := flip_u8 (X.getD ((F + i) / 8) 0) ((F + i) % 8) (by omega)
              have hval : Value.int .u8 (bits .xor .u8 ((X[(F + i) / 8]?.getD 0).toNat : Int) ((2 ^ (7 - (F + i) % 8) : Nat) : Int)) = Value.int .u8 ((X.getD ((F + i) / 8) 0 ^^^ UInt8.ofNat (2 ^ (7 - (F + i) % 8))).toNat : Int) := by rw [hfl]; rfl
              rw [hval]
              have hst := ownStored (by rw [hOl]; exact hO) (P + N + (F + i) / 8) (X.getD ((F + i) / 8) 0 ^^^ UInt8.ofNat (2 ^ (7 - (F + i) % 8)))
              rw [HSS.out X _ _ hp, hOl] at hst
              refine ⟨⟨i + 1, 2 * u + 1, _, true, by omega, by omega, by go_num, rfl, by simp, fun h => by omega, hB.yes hi2 ((F + i) / 8) ((F + i) % 8) (by omega) (by omega) (by rw [← hXl]; exact hp) _ (pow_u8 _), hst, bset hb hg0 _⟩, by simp [intOf]; omega⟩
            · have hbit' : ((y / 2 ^ i).tmod 2 == 1) = false := by simpa using hbit
              clear hbit
              go_wp2_with fail
              refine ⟨⟨i + 1, 2 * u, X, bb, by omega, by omega, by go_num, rfl, by rw [hbb]; omega, fun h => hX (by omega), hB.no hi2, hO, hb⟩, by simp [intOf]; omega⟩
          · have hex : ¬ (i : Int) < 32 ∨ ((i : Int) < 32 ∧ ¬ (F : Int) + (i : Int) < 8 * ((D : Int) + 4)) := by omega
            have hXl := hB.1
            have hOl := HSL.out X hXl
            have hBi := HSB.out F i u X hi hB
            have HBI := Lib.hid hBi
            have HHX := Lib.hid hX
            have HBB := Lib.hid hbb
            have HO := Lib.hid hO
            have HB := Lib.hid hb
            clear hB hBi hX hbb hO hb
            rcases hex with hex | ⟨hex1, hex⟩
            all_goals
              go_wp2_with fail
              cases bb with
              | false =>
                have hu0 : u = 0 := by
                  have := HBB.out
                  by_cases hu : u = 0
                  · exact hu
                  · exact absurd (this.mpr hu) (by decide)
                obtain rfl : X = X0 := HHX.out hu0
                have hsc : scF ((SP X).length + 1) (SP X) = (Ls, M, 0) := by rw [hOl]; exact HSO.out
                refine (Scan_of _ _ _ _ hsc HO.out.sh (by rw [hOl]; omega)).mono ?_; rintro e7 w7 ⟨v7, rfl, hs7, hb7⟩
                have hb07 := bthen HB.out hb7 (Nat.le_refl _)
                go_wp2_with (first
                  | (go_at_call 17; refine (Same_any _ _ _ _ hs7 (HS.out.below hb07)).mono ?_; rintro e8 w8 ⟨rfl, hb8⟩; have hb08 := bthen hb07 hb8 (Nat.le_refl _))
                  | (go_at_call 13; refine (lives05 _).mono ?_; rintro e9 w9 ⟨rfl, hb9⟩; have hb09 := bthen hb08 hb9 (Nat.le_refl _)))
                go_ret
                exact ⟨rfl, hb09⟩
              | true =>
                have hu0 : u ≠ 0 := HBB.out.mp rfl
                refine (Scan_of _ _ _ _ (HBI.out hu0) HO.out.sh (by rw [hOl]; omega)).mono ?_; rintro e7 w7 ⟨v7, rfl, hs7, hb7⟩
                have hb07 := bthen HB.out hb7 (Nat.le_refl _)
                go_wp2_with (first
                  | (go_at_call 17; refine (Same_any _ _ _ _ hs7 (HTK.out.below hb07)).mono ?_; rintro e8 w8 ⟨rfl, hb8⟩; have hb08 := bthen hb07 hb8 (Nat.le_refl _))
                  | (go_at_call 13; refine (lives05 _).mono ?_; rintro e9 w9 ⟨rfl, hb9⟩; have hb09 := bthen hb08 hb9 (Nat.le_refl _)))
                go_ret
                exact ⟨rfl, hb09⟩
      exact AllReady.nil
end Go.Proofs.Ytadmjhlcdoghpab
