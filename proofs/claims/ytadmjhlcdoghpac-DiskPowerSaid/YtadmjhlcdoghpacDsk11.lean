/- The disk: the law DiskPower. (printed by gen/dsk11.py) -/
import Derived.Test.YtadmjhlcdoghpacDsk10
namespace Go.Proofs.Ytadmjhlcdoghpac
set_option linter.unusedVariables false
set_option linter.unusedSimpArgs false
set_option linter.unnecessarySimpa false
open Go.RowKit
set_option maxRecDepth 100000
set_option maxHeartbeats 4000000

/-- What a counted call does to the power. -/
theorem power_write (S : PD) (n : Int) (b : List UInt8) : ((S.dead = true ∨ S.left = 0) → (S.write n b).1 = S.kill) ∧ (¬ (S.dead = true ∨ S.left = 0) → (S.write n b).1.left = leftC S.left ∧ (S.write n b).1.dead = S.dead) := by
  unfold PD.write
  refine ⟨fun h => by rw [if_pos h], fun h => ?_⟩
  rw [if_neg h]
  by_cases h2 : n < 0 ∨ 1 < n
  · rw [if_pos h2]; exact ⟨rfl, rfl⟩
  · rw [if_neg h2]
    by_cases h3 : S.lim - S.tot < (b.length : Int)
    · rw [if_pos h3]; exact ⟨rfl, rfl⟩
    · rw [if_neg h3]
      by_cases h4 : n = 0
      · rw [if_pos h4]; exact ⟨rfl, rfl⟩
      · rw [if_neg h4]; exact ⟨rfl, rfl⟩
theorem power_replace (S : PD) (n : Int) (b : List UInt8) : ((S.dead = true ∨ S.left = 0) → (S.replace n b).1 = S.kill) ∧ (¬ (S.dead = true ∨ S.left = 0) → (S.replace n b).1.left = leftC S.left ∧ (S.replace n b).1.dead = S.dead) := by
  unfold PD.replace
  refine ⟨fun h => by rw [if_pos h], fun h => ?_⟩
  rw [if_neg h]
  by_cases h2 : n < 0 ∨ 1 < n
  · rw [if_pos h2]; exact ⟨rfl, rfl⟩
  · rw [if_neg h2]
    by_cases h3 : S.lim - (S.tot - ((if n = 0 then S.n0 else S.n1).length : Int)) < (b.length : Int)
    · rw [if_pos h3]; exact ⟨rfl, rfl⟩
    · rw [if_neg h3]
      by_cases h4 : n = 0
      · rw [if_pos h4]; exact ⟨rfl, rfl⟩
      · rw [if_neg h4]; exact ⟨rfl, rfl⟩
theorem power_sync (S : PD) (n : Int) : ((S.dead = true ∨ S.left = 0) → (S.sync n).1 = S.kill) ∧ (¬ (S.dead = true ∨ S.left = 0) → (S.sync n).1.left = leftC S.left ∧ (S.sync n).1.dead = S.dead) := by
  unfold PD.sync
  refine ⟨fun h => by rw [if_pos h], fun h => ?_⟩
  rw [if_neg h]
  by_cases h2 : n < 0 ∨ 1 < n
  · rw [if_pos h2]; exact ⟨rfl, rfl⟩
  · rw [if_neg h2]
    by_cases h4 : n = 0
    · rw [if_pos h4]; exact ⟨rfl, rfl⟩
    · rw [if_neg h4]; exact ⟨rfl, rfl⟩
theorem power_act (S : PD) (a : AD) (h0 : 0 ≤ a.K) (h2 : a.K ≤ 2) : ((S.dead = true ∨ S.left = 0) → S.act a = S.kill) ∧ (¬ (S.dead = true ∨ S.left = 0) → (S.act a).left = leftC S.left ∧ (S.act a).dead = S.dead) := by
  unfold PD.act
  by_cases k0 : a.K = 0
  · rw [if_pos k0]; exact power_write S _ _
  · rw [if_neg k0]
    by_cases k1 : a.K = 1
    · rw [if_pos k1]; exact power_replace S _ _
    · rw [if_neg k1, if_pos (by omega)]; exact power_sync S _
/-- The power goes with the call behind n. -/
def Pow (S : PD) (n c : Nat) : Prop := S.dead = decide (n < c) ∧ (c ≤ n → S.left = (n : Int) - c)
theorem Pow.act {S : PD} {n c : Nat} (h : Pow S n c) (a : AD) (h0 : 0 ≤ a.K) (h2 : a.K ≤ 2) : Pow (S.act a) n (c + 1) ∧ ((S.act a).dead = true → (S.act a).tot = S.tot) := by
  obtain ⟨hd, hl⟩ := h
  obtain ⟨p1, p2⟩ := power_act S a h0 h2
  by_cases hb : S.dead = true ∨ S.left = 0
  · rw [p1 hb]
    refine ⟨⟨?_, fun hc => ?_⟩, fun _ => rfl⟩
    · show true = decide (n < c + 1)
      rcases hb with hb | hb
      · rw [hb] at hd
        have := of_decide_eq_true hd.symm
        exact (decide_eq_true (by omega)).symm
      · by_cases hcn : c ≤ n
        · have := hl hcn; exact (decide_eq_true (by omega)).symm
        · exact (decide_eq_true (by omega)).symm
    · exfalso
      rcases hb with hb | hb
      · rw [hb] at hd
        have := of_decide_eq_true hd.symm
        omega
      · have := hl (by omega); omega
  · obtain ⟨q1, q2⟩ := p2 hb
    have hdf : S.dead = false := by cases h : S.dead; rfl; exact absurd (.inl h) hb
    have hcn : c ≤ n := by
      rw [hdf] at hd
      have := of_decide_eq_false hd.symm
      omega
    have hln := hl hcn
    have hne : S.left ≠ 0 := fun h => hb (.inr h)
    refine ⟨⟨?_, fun hc => ?_⟩, fun h => ?_⟩
    · rw [q2, hdf]; exact (decide_eq_false (by omega)).symm
    · rw [q1]; unfold leftC; rw [if_pos (by omega)]; omega
    · rw [q2, hdf] at h; simp at h
theorem DiskPower_walk (n0 : Int) (lv : Value) (As : List AD) (w : World) (hL0 : 0 ≤ n0) (hL1 : n0 < 256) (hA : Acts w lv As) (hn : As.length ≤ 10000000000000) (hB : ∀ i, i < As.length → (As.getD i dAD).B.length ≤ 140737488355328) (hI : ∀ i, i < As.length → isInt (As.getD i dAD).K ∧ isInt (As.getD i dAD).F ∧ isInt (As.getD i dAD).N) :
    Calls Try.prog 7 #[.int .u8 n0, lv] w fun e w' => e = .returned (.bool true) ∧ Below w.heap.size w w' := by
  obtain ⟨n, rfl⟩ : ∃ n : Nat, n0 = (n : Int) := ⟨n0.toNat, by omega⟩
  obtain ⟨xa, ka, rfl, hka, -⟩ := hA.open
  have HA := Lib.hid hA
  have HBB := Lib.hid hB
  have HI := Lib.hid hI
  clear hA hB hI
  go_enter Try.func7, Try.ntmps7
  go_wp2_with fail
  refine (New_any 1048576 _).mono ?_; rintro e w1 ⟨rfl, hd1, hb1, hs1⟩
  have hd1 : Dsk w1 w.heap.size ⟨[], [], false, [], [], false, 1048576, -1, false⟩ := hd1
  go_wp2_with fail
  refine (refNew_any 1048576 _).mono ?_; rintro e w2 ⟨rfl, hr2, hb2, hs2⟩
  have hr2 : Rdk w2 w1.heap.size ⟨[], [], [], [], [], [], false, false, 1048576, 0, false, false⟩ := hr2
  have hd2 := hd1.below hb2
  have hb02 := bthen hb1 hb2 (Nat.le_refl _)
  have hpq' : w.heap.size ≠ w1.heap.size := by omega
  have hpp : w.heap.size ≤ w.heap.size := Nat.le_refl _
  have hg0q : w.heap.size ≤ w1.heap.size := by omega
  obtain ⟨p, hp⟩ : ∃ p, w.heap.size = p := ⟨_, rfl⟩
  obtain ⟨q, hq⟩ : ∃ q, w1.heap.size = q := ⟨_, rfl⟩
  obtain ⟨g0, hg⟩ : ∃ g0, w.heap.size = g0 := ⟨_, rfl⟩
  have HG := Lib.hid hg
  have hd2' : Dsk w2 p ⟨[], [], false, [], [], false, 1048576, -1, false⟩ := by rw [← hp]; exact hd2
  have hr2' : Rdk w2 q ⟨[], [], [], [], [], [], false, false, 1048576, 0, false, false⟩ := by rw [← hq]; exact hr2
  have hb2' : Below g0 w w2 := by rw [← hg]; exact hb02
  have hpq : p ≠ q := by omega
  have hpp' : g0 ≤ p := by omega
  have hqq' : g0 ≤ q := by omega
  rw [hp, hq]
  clear hd1 hr2 hd2 hb1 hb2 hb02 hs1 hs2 hpq' hpp hg0q hg hp hq
  go_wp2_with fail
  refine (Arm_dsk p (n : Int) _ _ hd2').mono ?_; rw [if_neg (show ¬ (n : Int) < 0 by omega)]; rintro e w3 ⟨rfl, hd3, hu3⟩
  have hr3 := hr2'.upd hd2' (Ne.symm hpq) hu3
  have hb3 := ub hb2' hu3 hpp' (by rw [HG.out]; exact Nat.le_refl _)
  go_wp2_with fail
  refine (refArm_any q (n : Int) _ _ hr3).mono ?_; rw [if_neg (show ¬ (n : Int) < 0 by omega)]; rintro e w4 ⟨rfl, hr4, hu4⟩
  have hd4 := hd3.upd hr3 hpq hu4
  have hb4 := ub hb3 hu4 hqq' (by rw [HG.out]; exact Nat.le_refl _)
  have HD4 := Lib.hid hd4
  have HR4 := Lib.hid hr4
  have HB4 := Lib.hid hb4
  clear hd2' hr2' hb2' hd3 hu3 hr3 hb3 hr4 hu4 hd4 hb4
  go_wp2_with fail
  go_loopw [7, 8] (fun cv iv wr => ∃ (j c : Nat) (S : PD) (R : RD), j ≤ As.length ∧ iv = .int .i64 (j : Int) ∧ cv = .int .i64 (c : Int) ∧ j ≤ 60 ∧ c ≤ j ∧ Pow S n c ∧ Dsk wr p S ∧ Rdk wr q R ∧ Sim S R ∧ Bd R 16777216 ∧ R.lim = 1048576 ∧ S.tot ≤ 1048576 ∧ (-(j : Int) ≤ R.left ∧ R.left ≤ 9223372036854775807) ∧ Below g0 w wr) (fun _ iv _ => As.length - (intOf iv).toNat)
  case atStart => exact ⟨0, 0, _, _, by omega, rfl, rfl, by omega, by omega, ⟨by simp, by simp⟩, HD4.out, HR4.out, ⟨rfl, rfl, rfl, rfl, rfl, rfl, rfl, rfl, .inl ⟨rfl, rfl, by simp⟩⟩, ⟨by simp, by simp, by simp [RD.all], by simp [RD.all], by simp, by simp⟩, rfl, by simp [PD.tot], by simp; omega, HB4.out⟩
  case round =>
    obtain ⟨j, c, S, R, hj, rfl, rfl, hj60, hcj, hpw, hd, hr, hsim, hbd, hlim, htot, hleft, hb⟩ := hrel
    have HD := Lib.hid hd
    have HR := Lib.hid hr
    have HB := Lib.hid hb
    have HSIM := Lib.hid hsim
    have HLM := Lib.hid hlim
    have HBD := Lib.hid hbd
    have HPW := Lib.hid hpw
    clear hd hr hb hsim hlim hbd hpw
    have hcase : (j < As.length ∧ j < 60) ∨ j = As.length ∨ (j < As.length ∧ ¬ j < 60) := by omega
    rcases hcase with ⟨hjl, hj6⟩ | rfl | ⟨hjl, hj6⟩
    · obtain ⟨b, off, rfl, ov, c0, c1, c2, c3, hsu⟩ := HA.out.at hjl
      have hbl : b < g0 := by rw [← HG.out]; exact blt c0
      have c0' := bcell HB.out c0 hbl
      have c1' := bcell HB.out c1 hbl
      have c2' := bcell HB.out c2 hbl
      have c3' := bcell HB.out c3 hbl
      have hbb := HBB.out j hjl
      have hii := HI.out j hjl
      have HSU := Lib.hid hsu
      clear c0 c1 c2 c3 hsu
      generalize As.getD j dAD = A at *
      obtain ⟨K, F, N, B⟩ := A
      simp only at c0' c1' c2' c3' hbb hii HSU
      obtain ⟨xo, ko, rfl, -⟩ := HSU.out.open
      have hjI : (j : Int) < (As.length : Int) := by omega
      have hj6I : (j : Int) < 60 := by omega
      by_cases hK5 : K < 0 ∨ 2 < K
      · rcases hK5 with hK | hK
        · go_wp2_with fail
          exact ⟨⟨j + 1, c, S, R, by omega, by go_num, rfl, by omega, by omega, HPW.out, HD.out.below (balloc (Below.refl _ _) _), HR.out.below (balloc (Below.refl _ _) _), HSIM.out, HBD.out, HLM.out, htot, by omega, HB.out.alloc (by have := HB.out.size; have := HG.out; omega) _⟩, by simp [intOf]; omega⟩
        · have hK0 : ¬ K < 0 := by omega
          go_wp2_with fail
          exact ⟨⟨j + 1, c, S, R, by omega, by go_num, rfl, by omega, by omega, HPW.out, HD.out.below (balloc (Below.refl _ _) _), HR.out.below (balloc (Below.refl _ _) _), HSIM.out, HBD.out, HLM.out, htot, by omega, HB.out.alloc (by have := HB.out.size; have := HG.out; omega) _⟩, by simp [intOf]; omega⟩
      · have hKa : ¬ K < 0 := fun h => hK5 (.inl h)
        have hKb : ¬ 2 < K := fun h => hK5 (.inr h)
        clear hK5
        have hlS : S.lim = 1048576 := by rw [HSIM.out.lim]; exact HLM.out
        have hta : (S.act ⟨K, F, N, B⟩).tot ≤ 1048576 := by rw [← hlS]; exact tot_act S _ (by rw [hlS]; exact htot)
        have hla := left_act R ⟨K, F, N, B⟩ (j : Int) hleft (by omega) hii.2.2.2
        have hsa := HSIM.out.act ⟨K, F, N, B⟩
        have hba := HBD.out.act (by rw [HLM.out]; decide) ⟨K, F, N, B⟩
        have hma := lim_act R ⟨K, F, N, B⟩
        rw [HLM.out] at hma
        have hlm : 0 ≤ R.lim ∧ R.lim ≤ 1000000000000 := by rw [HLM.out]; decide
        have hszS : (S.act ⟨K, F, N, B⟩).n0.length + (S.act ⟨K, F, N, B⟩).n1.length ≤ 100000000000 := by unfold PD.tot at hta; omega
        have hszS0 : S.n0.length + S.n1.length ≤ 100000000000 := by have h0 := htot; unfold PD.tot at h0; omega
        obtain ⟨hpa, hpt⟩ := HPW.out.act ⟨K, F, N, B⟩ (by show 0 ≤ K; omega) (by show K ≤ 2; omega)
        have HSA := Lib.hid hsa
        have HBA := Lib.hid hba
        have HMA := Lib.hid hma
        have HTA := Lib.hid hta
        have HLA := Lib.hid hla
        have HSZ := Lib.hid hszS
        have HSZ0 := Lib.hid hszS0
        have HLL := Lib.hid hlm
        have HPA := Lib.hid hpa
        have HPT := Lib.hid hpt
        have HTT := Lib.hid htot
        clear hsa hba hma hta hla hszS hszS0 hlS hlm hpa hpt htot
        go_wp2_with fail
        obtain ⟨T0, hT0⟩ : ∃ T0, S.tot = T0 := ⟨_, rfl⟩
        have hdW := HD.out.below (balloc (Below.refl wr.heap.size wr) (.cells #[.int .i64 K, .int .i64 F, .int .i64 N, .slice xo B.length ko] 25))
        refine (Size_any p S _ hdW HSZ0.out).mono ?_; rw [hT0]; rintro e w3 ⟨rfl, hb3⟩
        have hT0H := Lib.hid hT0
        clear hT0
        have hbW := bstep (balloc (Below.refl wr.heap.size wr) (.cells #[.int .i64 K, .int .i64 F, .int .i64 N, .slice xo B.length ko] 25)) hb3
        have hRW := (Row.new wr 25 [.int .i64 K, .int .i64 F, .int .i64 N, .slice xo B.length ko]).keep hb3
        have y0 := Row.cell hRW 0
        have y1 := Row.cell hRW 1
        have y2 := Row.cell hRW 2
        have y3 := Row.cell hRW 3
        simp only [List.getElem?_cons_zero, List.getElem?_cons_succ] at y0 y1 y2 y3
        have hd3 := HD.out.below hbW
        have hr3 := HR.out.below hbW
        have hb03 := HB.out.trans (hbW.mono (by have := HB.out.size; have := HG.out; omega))
        have HD3 := Lib.hid hd3
        have HR3 := Lib.hid hr3
        have HB3 := Lib.hid hb03
        clear hd3 hr3 hb03 hbW hRW hdW hb3 c0' c1' c2' c3'
        go_wp2_with fail
        refine (does_any p q S R K F N B _ g0 16777216 _ HD3.out HR3.out hpq HSIM.out hpp' hqq' (by have := HB3.out.size; have := HG.out; omega) (fun w' h => HSU.out.at' (HB3.out.trans h) (by rw [HG.out]; exact Nat.le_refl _)) hbb HBD.out (by omega) HLL.out (by omega) (by omega)).mono ?_; rintro e w4 ⟨rfl, hd4, hr4, hb4⟩
        obtain ⟨S', hS'⟩ : ∃ S', S.act ⟨K, F, N, B⟩ = S' := ⟨_, rfl⟩
        rw [hS'] at hd4 HSA HTA HSZ HPA HPT
        clear hS'
        have HD4 := Lib.hid hd4
        have HR4 := Lib.hid hr4
        have hb04 := HB3.out.trans hb4
        have HB4 := Lib.hid hb04
        clear hd4 hr4 hb4 hb04 y0 y1 y2 y3
        have hpd := HPA.out.1
        cases hdd : S'.dead with
        | true =>
          have hc1 : n < c + 1 := by rw [hdd] at hpd; exact of_decide_eq_true hpd.symm
          have hcI : (n : Int) < (c : Int) + 1 := by omega
          have htt : S'.tot = T0 := by rw [HPT.out hdd]; exact hT0H.out
          have HTE := Lib.hid htt
          clear hpd htt
          go_wp2_with fail
          refine (Dead_dsk p S' _ HD4.out).mono ?_; rw [hdd]; rintro e w5 ⟨rfl, rfl⟩
          go_wp2_with fail
          refine (Dead_dsk p S' _ HD4.out).mono ?_; rw [hdd]; rintro e w5 ⟨rfl, rfl⟩
          go_wp2_with (go_at_call 18; refine (Size_any p S' _ HD4.out HSZ.out).mono ?_; rw [HTE.out]; rintro e w6 ⟨rfl, hb6⟩)
          exact ⟨⟨j + 1, c + 1, S', _, by omega, by go_num, by go_num, by omega, by omega, HPA.out, HD4.out.below hb6, HR4.out.below hb6, HSA.out, HBA.out, HMA.out, HTA.out, by have := HLA.out; omega, HB4.out.trans (hb6.mono (by have := HB4.out.size; have := HG.out; omega))⟩, by simp [intOf]; omega⟩
        | false =>
          have hc1 : ¬ n < c + 1 := by rw [hdd] at hpd; exact of_decide_eq_false hpd.symm
          have hcI : ¬ (n : Int) < (c : Int) + 1 := by omega
          clear hpd
          go_wp2_with fail
          refine (Dead_dsk p S' _ HD4.out).mono ?_; rw [hdd]; rintro e w5 ⟨rfl, rfl⟩
          go_wp2_with fail
          refine (Dead_dsk p S' _ HD4.out).mono ?_; rw [hdd]; rintro e w5 ⟨rfl, rfl⟩
          go_wp2_with fail
          exact ⟨⟨j + 1, c + 1, S', _, by omega, by go_num, by go_num, by omega, by omega, HPA.out, HD4.out, HR4.out, HSA.out, HBA.out, HMA.out, HTA.out, by have := HLA.out; omega, HB4.out⟩, by simp [intOf]; omega⟩
    · go_wp2_with fail
      have h9 := HB.out
      have hdE := HPW.out.1
      cases hdd : S.dead with
      | true =>
        have e0 : S.read 0 = ([], 140) := by unfold PD.read; exact if_pos hdd
        refine (Read_of p 0 S [] 140 e0 _ HD.out (by have h0 := htot; unfold PD.tot at h0; omega)).mono ?_; rintro e w5 ⟨v5, rfl, ho5, hb5⟩
        have hd5 := HD.out.below hb5
        go_wp2_with (first
          | (go_at_call 19; refine (Dead_dsk p S _ hd5).mono ?_; rw [hdd]; rintro e w6 ⟨rfl, rfl⟩)
          | (go_at_call 14; refine (lives14 _).mono ?_; rintro e w9 ⟨rfl, hb9⟩))
        go_ret
        rw [← HG.out] at h9
        exact ⟨rfl, bthen (bthen h9 hb5 (Nat.le_refl _)) hb9 (Nat.le_refl _)⟩
      | false =>
        have e0 : S.read 0 = (S.n0, 0) := by unfold PD.read; rw [if_neg (by rw [hdd]; simp), if_neg (by decide)]; rfl
        refine (Read_of p 0 S _ 0 e0 _ HD.out (by have h0 := htot; unfold PD.tot at h0; omega)).mono ?_; rintro e w5 ⟨v5, rfl, ho5, hb5⟩
        have hd5 := HD.out.below hb5
        go_wp2_with (first
          | (go_at_call 19; refine (Dead_dsk p S _ hd5).mono ?_; rw [hdd]; rintro e w6 ⟨rfl, rfl⟩)
          | (go_at_call 14; refine (lives14 _).mono ?_; rintro e w9 ⟨rfl, hb9⟩))
        go_ret
        rw [← HG.out] at h9
        exact ⟨rfl, bthen (bthen h9 hb5 (Nat.le_refl _)) hb9 (Nat.le_refl _)⟩
    · have hjI : (j : Int) < (As.length : Int) := by omega
      have hj6I : ¬ (j : Int) < 60 := by omega
      go_wp2_with fail
      have h9 := HB.out
      have hdE := HPW.out.1
      cases hdd : S.dead with
      | true =>
        have e0 : S.read 0 = ([], 140) := by unfold PD.read; exact if_pos hdd
        refine (Read_of p 0 S [] 140 e0 _ HD.out (by have h0 := htot; unfold PD.tot at h0; omega)).mono ?_; rintro e w5 ⟨v5, rfl, ho5, hb5⟩
        have hd5 := HD.out.below hb5
        go_wp2_with (first
          | (go_at_call 19; refine (Dead_dsk p S _ hd5).mono ?_; rw [hdd]; rintro e w6 ⟨rfl, rfl⟩)
          | (go_at_call 14; refine (lives14 _).mono ?_; rintro e w9 ⟨rfl, hb9⟩))
        go_ret
        rw [← HG.out] at h9
        exact ⟨rfl, bthen (bthen h9 hb5 (Nat.le_refl _)) hb9 (Nat.le_refl _)⟩
      | false =>
        have e0 : S.read 0 = (S.n0, 0) := by unfold PD.read; rw [if_neg (by rw [hdd]; simp), if_neg (by decide)]; rfl
        refine (Read_of p 0 S _ 0 e0 _ HD.out (by have h0 := htot; unfold PD.tot at h0; omega)).mono ?_; rintro e w5 ⟨v5, rfl, ho5, hb5⟩
        have hd5 := HD.out.below hb5
        go_wp2_with (first
          | (go_at_call 19; refine (Dead_dsk p S _ hd5).mono ?_; rw [hdd]; rintro e w6 ⟨rfl, rfl⟩)
          | (go_at_call 14; refine (lives14 _).mono ?_; rintro e w9 ⟨rfl, hb9⟩))
        go_ret
        rw [← HG.out] at h9
        exact ⟨rfl, bthen (bthen h9 hb5 (Nat.le_refl _)) hb9 (Nat.le_refl _)⟩
end Go.Proofs.Ytadmjhlcdoghpac
