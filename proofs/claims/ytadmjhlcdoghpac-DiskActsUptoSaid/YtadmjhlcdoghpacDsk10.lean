/- The disk: the laws DiskLimit, DiskPower. (printed by gen/dsk10.py) -/
import Derived.Test.YtadmjhlcdoghpacDsk9
import Derived.Test.YtadmjhlcdoghpacOpenActs
namespace Go.Proofs.Ytadmjhlcdoghpac
set_option linter.unusedVariables false
set_option linter.unusedSimpArgs false
set_option linter.unnecessarySimpa false
open Go.RowKit
set_option maxRecDepth 100000
set_option maxHeartbeats 4000000

theorem Acts.open {w : World} {v : Value} {As : List AD} (h : Acts w v As) : ∃ a cap, v = .slice a As.length cap ∧ As.length ≤ cap ∧ cap ≤ 9223372036854775807 := by
  obtain ⟨a, cap, h1, h2, h3, _⟩ := h
  exact ⟨a, cap, h1, h2, h3⟩
theorem Acts.at {w : World} {a : Option Addr} {n cap : Nat} {As : List AD} (h : Acts w (.slice a n cap) As) {i : Nat} (hi : i < As.length) : ∃ b off, a = some ⟨b, off, none⟩ ∧ ActAt w b (off + i * 4) (As.getD i dAD) := by
  obtain ⟨a', cap', he, _, _, hat⟩ := h
  simp only [Value.slice.injEq] at he
  obtain ⟨rfl, -, rfl⟩ := he
  exact hat i hi
theorem tot_kill (S : PD) : S.kill.tot = S.tot := rfl
theorem tot_tick (S : PD) : S.tick.tot = S.tot := rfl
theorem tot_write (S : PD) (n : Int) (b : List UInt8) (h : S.tot ≤ S.lim) : (S.write n b).1.tot ≤ S.lim := by
  unfold PD.write
  by_cases h1 : S.dead = true ∨ S.left = 0
  · rw [if_pos h1]; exact h
  · rw [if_neg h1]
    by_cases h2 : n < 0 ∨ 1 < n
    · rw [if_pos h2]; exact h
    · rw [if_neg h2]
      by_cases h3 : S.lim - S.tot < (b.length : Int)
      · rw [if_pos h3]; exact h
      · rw [if_neg h3]
        unfold PD.tot at h3
        by_cases h4 : n = 0
        · rw [if_pos h4]
          show (((S.n0 ++ b).length + S.n1.length : Nat) : Int) ≤ S.lim
          rw [List.length_append]; omega
        · rw [if_neg h4]
          show ((S.n0.length + (S.n1 ++ b).length : Nat) : Int) ≤ S.lim
          rw [List.length_append]; omega
theorem tot_replace (S : PD) (n : Int) (b : List UInt8) (h : S.tot ≤ S.lim) : (S.replace n b).1.tot ≤ S.lim := by
  unfold PD.replace
  by_cases h1 : S.dead = true ∨ S.left = 0
  · rw [if_pos h1]; exact h
  · rw [if_neg h1]
    by_cases h2 : n < 0 ∨ 1 < n
    · rw [if_pos h2]; exact h
    · rw [if_neg h2]
      by_cases h3 : S.lim - (S.tot - ((if n = 0 then S.n0 else S.n1).length : Int)) < (b.length : Int)
      · rw [if_pos h3]; exact h
      · rw [if_neg h3]
        unfold PD.tot at h3
        by_cases h4 : n = 0
        · rw [if_pos h4] at h3 ⊢
          show ((b.length + S.n1.length : Nat) : Int) ≤ S.lim
          omega
        · rw [if_neg h4] at h3 ⊢
          show ((S.n0.length + b.length : Nat) : Int) ≤ S.lim
          omega
theorem tot_sync (S : PD) (n : Int) : (S.sync n).1.tot = S.tot := by
  unfold PD.sync
  by_cases h1 : S.dead = true ∨ S.left = 0
  · rw [if_pos h1]; rfl
  · rw [if_neg h1]
    by_cases h2 : n < 0 ∨ 1 < n
    · rw [if_pos h2]; rfl
    · rw [if_neg h2]
      by_cases h4 : n = 0
      · rw [if_pos h4]; rfl
      · rw [if_neg h4]; rfl
theorem tot_act (S : PD) (a : AD) (h : S.tot ≤ S.lim) : (S.act a).tot ≤ S.lim := by
  unfold PD.act
  by_cases h0 : a.K = 0
  · rw [if_pos h0]; exact tot_write S _ _ h
  · rw [if_neg h0]
    by_cases h1 : a.K = 1
    · rw [if_pos h1]; exact tot_replace S _ _ h
    · rw [if_neg h1]
      by_cases h2 : a.K = 2
      · rw [if_pos h2, tot_sync]; exact h
      · rw [if_neg h2]
        by_cases h4 : a.K = 4
        · rw [if_pos h4]; exact h
        · rw [if_neg h4]; exact h
theorem limS_of {S : PD} {R : RD} (h : Sim S R) (a : AD) : (S.act a).lim = S.lim := by
  rw [(h.act a).lim, lim_act, ← h.lim]
theorem DiskLimit_walk (L : Int) (lv : Value) (As : List AD) (w : World) (hL0 : 0 ≤ L) (hL1 : L < 65536) (hA : Acts w lv As) (hn : As.length ≤ 10000000000000) (hB : ∀ i, i < As.length → (As.getD i dAD).B.length ≤ 140737488355328) (hI : ∀ i, i < As.length → isInt (As.getD i dAD).K ∧ isInt (As.getD i dAD).F ∧ isInt (As.getD i dAD).N) :
    Calls Try.prog 5 #[.int .u16 L, lv] w fun e w' => e = .returned (.bool true) ∧ Below w.heap.size w w' := by
  obtain ⟨xa, ka, rfl, hka, -⟩ := hA.open
  have HA := Lib.hid hA
  have HBB := Lib.hid hB
  have HI := Lib.hid hI
  clear hA hB hI
  have hw1 := IntWalk.i64_in L ⟨by omega, by omega⟩
  go_enter Try.func5, Try.ntmps5
  go_wp2_with fail
  refine (New_any L _).mono ?_; rw [if_neg (show ¬ L < 0 by omega), if_neg (show ¬ 16777216 < L by omega)]; rintro e w1 ⟨rfl, hd1, hb1, hs1⟩
  go_wp2_with fail
  refine (refNew_any L _).mono ?_; rw [if_neg (show ¬ L < 0 by omega), if_neg (show ¬ 16777216 < L by omega)]; rintro e w2 ⟨rfl, hr2, hb2, hs2⟩
  have hd2 := hd1.below hb2
  have hb02 := bthen hb1 hb2 (Nat.le_refl _)
  have HD2 := Lib.hid hd2
  have HR2 := Lib.hid hr2
  have HB2 := Lib.hid hb02
  have hpq : w.heap.size ≠ w1.heap.size := by omega
  have hg0p : w.heap.size ≤ w.heap.size := Nat.le_refl _
  have hg0q : w.heap.size ≤ w1.heap.size := by omega
  clear hd1 hr2 hd2 hb1 hb2 hb02 hs1 hs2 hw1
  generalize hg : w.heap.size = g0 at *
  have HG := Lib.hid hg
  generalize hq : w1.heap.size = q at *
  clear hq
  obtain ⟨p, hp⟩ : ∃ p, g0 = p := ⟨g0, rfl⟩
  have HD3 : Hid (Dsk w2 p ⟨[], [], false, [], [], false, L, -1, false⟩) := by rw [← hp]; exact HD2
  have hpp : g0 ≤ p := by omega
  have hpq' : p ≠ q := by omega
  go_wp2_with fail
  try rw [hp]
  clear hp
  clear HD2
  go_loopw [7] (fun iv wr => ∃ (j : Nat) (S : PD) (R : RD), j ≤ As.length ∧ iv = .int .i64 (j : Int) ∧ j ≤ 60 ∧ Dsk wr p S ∧ Rdk wr q R ∧ Sim S R ∧ Bd R 16777216 ∧ R.lim = L ∧ S.tot ≤ L ∧ (-(j : Int) ≤ R.left ∧ R.left ≤ 9223372036854775807) ∧ Below g0 w wr) (fun iv _ => As.length - (intOf iv).toNat)
  case atStart => exact ⟨0, _, _, by omega, rfl, by omega, HD3.out, HR2.out, Sim.new L, ⟨by simp, by simp, by simp [RD.all], by simp [RD.all], by simp, by simp⟩, rfl, by simp [PD.tot]; omega, by simp, HB2.out⟩
  case round =>
    obtain ⟨j, S, R, hj, rfl, hj60, hd, hr, hsim, hbd, hlim, htot, hleft, hb⟩ := hrel
    have HD := Lib.hid hd
    have HR := Lib.hid hr
    have HB := Lib.hid hb
    have HSIM := Lib.hid hsim
    have HLM := Lib.hid hlim
    have HBD := Lib.hid hbd
    clear hd hr hb hsim hlim hbd
    have hcase : (j < As.length ∧ j < 60) ∨ j = As.length ∨ (j < As.length ∧ ¬ j < 60) := by omega
    rcases hcase with ⟨hjl, hj6⟩ | rfl | ⟨hjl, hj6⟩
    · obtain ⟨b, off, rfl, ov, c0, c1, c2, c3, hsu⟩ := HA.out.at hjl
      have hbl : b < g0 := by rw [← HG.out]; exact blt c0
      have c0' := bcell HB.out c0 hbl
      have c1' := bcell HB.out c1 hbl
      have c2' := bcell HB.out c2 hbl
      have c3' := bcell HB.out c3 hbl
      have hbb := HBB.out j hjl
      have hii := HI.out j hjl
      have HSU := Lib.hid hsu
      clear c0 c1 c2 c3 hsu
      generalize As.getD j dAD = A at *
      obtain ⟨K, F, N, B⟩ := A
      simp only at c0' c1' c2' c3' hbb hii HSU
      obtain ⟨xo, ko, rfl, -⟩ := HSU.out.open
      have hjI : (j : Int) < (As.length : Int) := by omega
      have hj6I : (j : Int) < 60 := by omega
      by_cases hK5 : K = 5
      · subst hK5
        go_wp2_with fail
        exact ⟨⟨j + 1, S, R, by omega, by go_num, by omega, HD.out, HR.out, HSIM.out, HBD.out, HLM.out, htot, by omega, HB.out⟩, by simp [intOf]; omega⟩
      · have hK5b : (K == 5) = false := by rw [beq_eq_false_iff_ne]; exact hK5
        have hlS : S.lim = L := by rw [HSIM.out.lim]; exact HLM.out
        have hta : (S.act ⟨K, F, N, B⟩).tot ≤ L := by rw [← hlS]; exact tot_act S _ (by rw [hlS]; exact htot)
        have hla := left_act R ⟨K, F, N, B⟩ (j : Int) hleft (by omega) hii.2.2.2
        have hsa := HSIM.out.act ⟨K, F, N, B⟩
        have hba := HBD.out.act (by rw [HLM.out]; omega) ⟨K, F, N, B⟩
        have hma := lim_act R ⟨K, F, N, B⟩
        rw [HLM.out] at hma
        have hlm : 0 ≤ R.lim ∧ R.lim ≤ 1000000000000 := by rw [HLM.out]; omega
        have hszS : (S.act ⟨K, F, N, B⟩).n0.length + (S.act ⟨K, F, N, B⟩).n1.length ≤ 100000000000 := by unfold PD.tot at hta; omega
        have HSA := Lib.hid hsa
        have HBA := Lib.hid hba
        have HMA := Lib.hid hma
        have HTA := Lib.hid hta
        have HLA := Lib.hid hla
        have HSZ := Lib.hid hszS
        have HLL := Lib.hid hlm
        clear hsa hba hma hta hla hszS hlS hlm
        go_wp2_with (go_at_call 17; refine (does_any p q S R K F N B _ g0 16777216 _ HD.out HR.out hpq' HSIM.out hpp hg0q (by have := HB.out.size; omega) (fun w' h => HSU.out.at' (HB.out.trans h) (by omega)) hbb HBD.out (by omega) HLL.out (by omega) hK5).mono ?_; rintro e w3 ⟨rfl, hd3, hr3, hb3⟩)
        have HD3' := Lib.hid hd3
        have HR3' := Lib.hid hr3
        have HB3 := Lib.hid (HB.out.trans hb3)
        clear hd3 hr3 hb3
        refine (Size_any p _ _ HD3'.out HSZ.out).mono ?_
        obtain ⟨TT, hTT⟩ : ∃ TT, (S.act ⟨K, F, N, B⟩).tot = TT := ⟨_, rfl⟩
        rw [hTT]
        rintro e w4 ⟨rfl, hb4⟩
        have htI : ¬ L < TT := by have := HTA.out; omega
        clear hTT
        go_wp2_with fail
        exact ⟨⟨j + 1, _, _, by omega, by go_num, by omega, HD3'.out.below hb4, HR3'.out.below hb4, HSA.out, HBA.out, HMA.out, HTA.out, by have := HLA.out; omega, HB3.out.trans (hb4.mono (by have := HB3.out.size; omega))⟩, by simp [intOf]; omega⟩
    · go_wp2_with (go_at_call 14; refine (lives14 _).mono ?_; rintro e w9 ⟨rfl, hb9⟩)
      go_ret
      have h9 := HB.out
      rw [← HG.out] at h9
      exact ⟨rfl, bthen h9 hb9 (Nat.le_refl _)⟩
    · have hjI : (j : Int) < (As.length : Int) := by omega
      have hj6I : ¬ (j : Int) < 60 := by omega
      go_wp2_with (go_at_call 14; refine (lives14 _).mono ?_; rintro e w9 ⟨rfl, hb9⟩)
      go_ret
      have h9 := HB.out
      rw [← HG.out] at h9
      exact ⟨rfl, bthen h9 hb9 (Nat.le_refl _)⟩
end Go.Proofs.Ytadmjhlcdoghpac
