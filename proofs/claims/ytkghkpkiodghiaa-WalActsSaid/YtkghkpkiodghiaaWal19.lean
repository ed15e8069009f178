/- The law WalActs. (printed by gen/wal19.py) -/
import Derived.Test.YtkghkpkiodghiaaWal18
import Derived.Test.YtkghkpkiodghiaaWal6
import Derived.Test.YtkghkpkiodghiaaOpen
import Derived.Test.YtkghkpkiodghiaaArr
namespace Go.Proofs.Ytkghkpkiodghiaa
set_option linter.unusedVariables false
set_option linter.unusedSimpArgs false
set_option linter.unnecessarySimpa false
open Go.RowKit
set_option maxRecDepth 100000
set_option maxHeartbeats 8000000

theorem Pr.keep {w w' : World} {h p q X B0 : Nat} {S : PD} {R : RD} (k : Pr w h p q S R X B0) (hb : Below w.heap.size w w') : Pr w' h p q S R X B0 := by
 obtain ⟨wv, vv, h1, h2, h3, h4⟩ := k
 exact ⟨wv, vv, h1.keep hb, h2.keepB hb, h3.keepB hb, h4.keep hb⟩
theorem Wi.first (L : Int) (hL : 0 ≤ L ∧ L ≤ 16777216) : Wi ⟨[], [], [], [], [], [], false, false, L, 0, false, false⟩ 16777216 0 :=
 ⟨⟨by simp, by simp, by simp [RD.all], by simp [RD.all], by simp, by simp⟩, hL, by simp⟩
theorem WalActs_walk (n0 : Int) (lv : Value) (As : List WD) (w : World) (hA : ActsW w lv As) (hn : As.length ≤ 10000000000000) (hB : ∀ i, i < As.length → (As.getD i dWD).B.length ≤ 140737488355328) (hI : ∀ i, i < As.length → isIn (As.getD i dWD).K ∧ isIn (As.getD i dWD).N) :
  Calls Try.prog 4 #[.int .i64 n0, lv] w fun e w' => e = .returned (.bool true) ∧ Below w.heap.size w w' := by
 obtain ⟨xa, ka, rfl, hka, -⟩ := hA.open
 have HA := Lib.hid hA
 have HBB := Lib.hid hB
 have HI := Lib.hid hI
 clear hA hB hI
 obtain ⟨L, hL⟩ : ∃ L : Int, (if n0 < 0 then 0 else if 16777216 < n0 then 16777216 else n0) = L := ⟨_, rfl⟩
 have hLb : 0 ≤ L ∧ L ≤ 16777216 := by rw [← hL]; split; omega; split <;> omega
 have HL := Lib.hid hL
 clear hL
 go_enter Try.func4, Try.ntmps4
 go_wp2_with fail
 refine (New_any n0 _).mono ?_; rw [HL.out]; rintro e w1 ⟨rfl, hd1, hb1, hs1⟩
 go_wp2_with fail
 refine (refNew_any n0 _).mono ?_; rw [HL.out]; rintro e w2 ⟨rfl, hr2, hb2, hs2⟩
 have hd2 := hd1.keepB hb2
 have hb02 := bthen hb1 hb2 (Nat.le_refl _)
 obtain ⟨p, hp⟩ : ∃ p, w.heap.size = p := ⟨_, rfl⟩
 obtain ⟨q, hq⟩ : ∃ q, w1.heap.size = q := ⟨_, rfl⟩
 obtain ⟨h, hh⟩ : ∃ h, w2.heap.size = h := ⟨_, rfl⟩
 obtain ⟨g0, hg⟩ : ∃ g0, w.heap.size = g0 := ⟨_, rfl⟩
 have HG := Lib.hid hg
 have hpq : p ≠ q := by omega
 have hhp : h ≠ p := by omega
 have hhq : h ≠ q := by omega
 have hB0 : g0 ≤ h ∧ g0 ≤ p ∧ g0 ≤ q := by omega
 have hb02' : Below g0 w w2 := by rw [← hg]; exact hb02
 rw [hp] at hd2
 rw [hq] at hr2
 rw [hp, hq]
 have hba := balloc (Below.refl w2.heap.size w2) (.cells #[.pointer (some ⟨p, 0, none⟩), .pointer (some ⟨q, 0, none⟩), .pointer none, .pointer none] 50)
 have hnr := Row.new w2 50 [.pointer (some ⟨p, 0, none⟩), .pointer (some ⟨q, 0, none⟩), .pointer none, .pointer none]
 rw [hh] at hnr
 have HR3 := Lib.hid hnr
 have HD3 := Lib.hid (hd2.keepB hba)
 have HQ3 := Lib.hid (hr2.keepB hba)
 have HB3 := Lib.hid (hb02'.trans (hba.mono (by omega)))
 have hs3 := hba.size
 have c0 := Row.cell HR3.out 0
 simp only [List.getElem?_cons_succ, List.getElem?_cons_zero] at c0
 clear hd1 hr2 hd2 hb1 hb2 hb02 hb02' hs1 hba hnr HL
 have HSI := Lib.hid (Sim.new L)
 have HWF := Lib.hid (Wi.first L hLb)
 have HNF := Lib.hid (Nxi.new L 0)
 generalize PD.mk [] [] false [] [] false L (-1) false = S0 at *
 generalize RD.mk [] [] [] [] [] [] false false L 0 false false = R0 at *
 go_wp2_with fail
 refine (opens_any h p q S0 R0 16777216 0 g0 none none _ HR3.out HD3.out HQ3.out HSI.out hpq hhp hhq HWF.out (by omega) (by omega) hB0 (by omega)).mono ?_
 rintro e w4 ⟨rfl, wv', vv', hr4, hd4, hR4, hl4, hb4⟩
 have HR4 := Lib.hid hr4
 have HD4 := Lib.hid hd4
 have HQ4 := Lib.hid hR4
 have HL4 := Lib.hid hl4
 have HBB4 := Lib.hid hb4
 clear hr4 hd4 hR4 hl4 hb4
 have hg4 : g0 ≤ w4.heap.size := by have := HBB4.out.size; have := hs3; omega
 have hk := HNF.out.kept HWF.out.bd.a0
 rw [← HSI.out.n0, ← HSI.out.n1] at hk
 have HP4 := Lib.hid (show Pr w4 h p q _ _ 50000000 g0 from ⟨_, _, HR4.out, HD4.out, HQ4.out, HL4.out.more (by omega)⟩)
 have HS4 := Lib.hid HSI.out.wopen.2
 have HW4 := Lib.hid HWF.out.ropen
 have HN4 := Lib.hid ((HNF.out.more (show 0 ≤ 50000000 by omega)).ropen)
 have HB4 := Lib.hid (HB3.out.trans HBB4.out)
 generalize S0.wopen.1 = S4 at *
 generalize R0.ropen.1 = R4 at *
 clear HR4 HD4 HQ4 HL4 HBB4 hk HR3 HD3 HQ3 HB3 c0 hs3 hs2 hp hq hh hg HSI HWF HNF
 go_wp2_with fail
 go_loopw [6] (fun iv wr => ∃ (j : Nat) (S : PD) (R : RD), j ≤ As.length ∧ iv = .int .i64 (j : Int) ∧ j ≤ 60 ∧ Pr wr h p q S R (50000000 * (j + 1)) g0 ∧ Sim S R ∧ Wi R (16777216 + 3000 * j) (10 * ((j : Int) + 1)) ∧ Nxi R (50000000 * (j + 1)) ∧ Below g0 w wr) (fun iv _ => As.length - (intOf iv).toNat)
 case atStart => exact ⟨0, S4, R4, by omega, rfl, by omega, HP4.out, HS4.out, HW4.out.more (by omega) (by omega), HN4.out, HB4.out⟩
 case round =>
  obtain ⟨j, S, R, hj, rfl, hj60, hpr, hsim, hwi, hnx, hbel⟩ := hrel
  have HPR := Lib.hid hpr
  have HSIM := Lib.hid hsim
  have HWI := Lib.hid hwi
  have HNX := Lib.hid hnx
  have HB := Lib.hid hbel
  have hgr : g0 ≤ wr.heap.size := by have := HB.out.size; have := HG.out; omega
  clear hpr hsim hwi hnx hbel HP4 HS4 HW4 HN4 HB4
  have hcase : (j < As.length ∧ j < 60) ∨ j = As.length ∨ (j < As.length ∧ ¬ j < 60) := by omega
  rcases hcase with ⟨hjl, hj6⟩ | rfl | ⟨hjl, hj6⟩
  ·obtain ⟨b, off, rfl, ov, c0, c1, c2, hsu⟩ := HA.out.at hjl
   have hbl : b < g0 := by rw [← HG.out]; exact blt c0
   have c0' := bcell HB.out c0 hbl
   have c1' := bcell HB.out c1 hbl
   have c2' := bcell HB.out c2 hbl
   have hbb := HBB.out j hjl
   have hii := HI.out j hjl
   have HS0 := Lib.hid hsu
   clear c0 c1 c2 hsu
   generalize As.getD j dWD = A at *
   obtain ⟨K, N, B⟩ := A
   simp only at c0' c1' c2' hbb HS0 hii
   obtain ⟨xo, ko, rfl, -⟩ := HS0.out.open
   have hjI : (j : Int) < (As.length : Int) := by omega
   have hj6I : (j : Int) < 60 := by omega
   have hsh : ∀ w', Below g0 wr w' → Sh w' (.slice xo B.length ko) B := fun w' hb => HS0.out.at' (HB.out.trans hb) (by rw [HG.out]; exact Nat.le_refl _)
   have HSH := Lib.hid hsh
   clear hsh
   go_wp2_with (go_at_call 15; (refine (does_any K N xo ko B h p q S R (16777216 + 3000 * j) (10 * ((j : Int) + 1)) (50000000 * (j + 1)) g0 _ HPR.out HSIM.out HWI.out HNX.out hpq hhp hhq (by omega) (by omega) (by omega) (by omega) hB0 hgr HSH.out hbb hii.2.2).mono ?_; rintro e w5 ⟨rfl, S', R', hp5, hs5, hw5, hn5, hb5⟩))
   have HP5 := Lib.hid hp5
   have HS5 := Lib.hid hs5
   have HW5 := Lib.hid (hw5.more (show 16777216 + 3000 * j + 3000 ≤ 16777216 + 3000 * (j + 1) by omega) (show 10 * ((j : Int) + 1) + 10 ≤ 10 * (((j + 1 : Nat) : Int) + 1) by omega))
   have HN5 := Lib.hid hn5
   have HB5 := Lib.hid (HB.out.trans hb5)
   have hg5 : g0 ≤ w5.heap.size := by have := hb5.size; omega
   clear hp5 hs5 hw5 hn5 hb5 c0' c1' c2' HPR HSIM HWI HNX HB HSH HS0
   go_loopw [7] (fun iv ws => ∃ (i : Nat), i ≤ 2 ∧ iv = .int .i64 (i : Int) ∧ Pr ws h p q S' R' (50000000 * (j + 1) + 50000000) g0 ∧ Below g0 w ws) (fun iv _ => 2 - (intOf iv).toNat)
   case atStart => exact ⟨0, by omega, rfl, HP5.out, HB5.out⟩
   case round =>
    obtain ⟨i, hi, rfl, hpr, hbel⟩ := hrel
    clear HP5 HB5
    have HPR := Lib.hid hpr
    have HB := Lib.hid hbel
    have hgs : g0 ≤ wr.heap.size := by have := HB.out.size; have := HG.out; omega
    clear hpr hbel
    by_cases hi2 : i < 2
    ·have hiI : (i : Int) < 2 := by omega
     obtain ⟨wv, vv, hr, hd, hR, hlg⟩ := HPR.out
     have H := Lib.hid hr
     have D := Lib.hid hd
     have Q := Lib.hid hR
     have c0 := Row.cell (H.out) 0; have c1 := Row.cell (H.out) 1; have c2 := Row.cell (H.out) 2; have c3 := Row.cell (H.out) 3; simp only [List.getElem?_cons_succ, List.getElem?_cons_zero] at c0 c1 c2 c3
     clear hr hd hR hlg
     rcases hrd : S'.read (i : Int) with ⟨l, er⟩
     have hrr : R'.read (i : Int) = (l, er) := by rw [← HS5.out.read, hrd]
     have HRD := Lib.hid hrd
     have HRR := Lib.hid hrr
     have hsz : S'.n0.length + S'.n1.length ≤ 100000000000 := by rw [HS5.out.n0, HS5.out.n1]; have := HW5.out.bd.a0; have := HW5.out.bd.a1; omega
     have hsr : R'.sz ≤ 140737488355328 := by have := (HW5.out.k (by omega) (by omega)).s; omega
     clear hrd hrr
     go_wp2_with (first
      | (go_at_call 17; (refine (refRead_of q i R' l er HRR.out _ Q6.out hsr).mono ?_; rintro e w7 ⟨v7, rfl, ho7, hb7⟩; have hc1 := conv_run (O6.out.sh.below hb7); have hc2 := conv_run ho7.sh; have B7 := Lib.hid (B6.out.trans (hb7.mono hg6)); have K7 := Lib.hid (bstep K6.out hb7); clear hb7 ho7))
      | (go_at_call 16; (refine (Read_of p i S' l er HRD.out _ D.out hsz).mono ?_; rintro e w6 ⟨v6, rfl, ho6, hb6⟩; have Q6 := Lib.hid (Q.out.keepB hb6); have O6 := Lib.hid ho6; have K6 := Lib.hid hb6; have B6 := Lib.hid (HB.out.trans (hb6.mono hgs)); have hg6 : g0 ≤ w6.heap.size := (by have := hb6.size; omega); have d0 := Row.cell (H.out.keep hb6) 0; have d1 := Row.cell (H.out.keep hb6) 1; have d2 := Row.cell (H.out.keep hb6) 2; have d3 := Row.cell (H.out.keep hb6) 3; simp only [List.getElem?_cons_succ, List.getElem?_cons_zero] at d0 d1 d2 d3; clear hb6 ho6)))
     exact ⟨⟨i + 1, by omega, by go_num, HPR.out.keep K7.out, B7.out⟩, by simp [intOf]; omega⟩
    ·obtain rfl : i = 2 := by omega
     go_wp2_with fail
     exact ⟨⟨j + 1, S', R', by omega, by go_num, by omega, HPR.out, HS5.out, HW5.out, HN5.out, HB.out⟩, by simp [intOf]; omega⟩
  ·go_wp2_with (go_at_call 12; refine (lives15 _).mono ?_; rintro e w9 ⟨rfl, hb9⟩)
   go_ret
   have h9 := HB.out
   rw [← HG.out] at h9
   exact ⟨rfl, bthen h9 hb9 (Nat.le_refl _)⟩
  ·have hjI : (j : Int) < (As.length : Int) := by omega
   have hj6I : ¬ (j : Int) < 60 := by omega
   go_wp2_with (go_at_call 12; refine (lives15 _).mono ?_; rintro e w9 ⟨rfl, hb9⟩)
   go_ret
   have h9 := HB.out
   rw [← HG.out] at h9
   exact ⟨rfl, bthen h9 hb9 (Nat.le_refl _)⟩
end Go.Proofs.Ytkghkpkiodghiaa
