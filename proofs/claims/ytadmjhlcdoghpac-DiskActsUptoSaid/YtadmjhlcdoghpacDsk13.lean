/- The disk: 'does' with crashes, the law DiskActs. (printed by gen/dsk13.py) -/
import Derived.Test.YtadmjhlcdoghpacDsk12p
import Derived.Test.YtadmjhlcdoghpacDsk10
namespace Go.Proofs.Ytadmjhlcdoghpac
set_option linter.unusedVariables false
set_option linter.unusedSimpArgs false
set_option linter.unnecessarySimpa false
open Go.RowKit
set_option maxRecDepth 100000
set_option maxHeartbeats 16000000

def PD.act5 (S : PD) (a : AD) : PD := if a.K = 5 then S.crash a.N a.B else S.act a
def RD.act5 (R : RD) (a : AD) : RD := if a.K = 5 then R.crash a.N a.B else R.act a
theorem Sim.act5 {S : PD} {R : RD} (h : Sim S R) (a : AD) : Sim (S.act5 a) (R.act5 a) := by
  unfold PD.act5 RD.act5
  by_cases hk : a.K = 5
  · rw [if_pos hk, if_pos hk]; exact h.crash _ _
  · rw [if_neg hk, if_neg hk]; exact h.act a
theorem Bd.act5 {R : RD} {TT : Nat} (h : Bd R TT) (hT : R.lim ≤ (TT : Int)) (a : AD) : Bd (R.act5 a) (TT + a.B.length) := by
  unfold RD.act5
  by_cases hk : a.K = 5
  · rw [if_pos hk]; exact h.crash _ _
  · rw [if_neg hk]
    have := h.act hT a
    exact ⟨Nat.le_trans this.f0 (by omega), Nat.le_trans this.f1 (by omega), Nat.le_trans this.a0 (by omega), Nat.le_trans this.a1 (by omega), Nat.le_trans this.o0 (by omega), Nat.le_trans this.o1 (by omega)⟩
theorem lim_act5 (R : RD) (a : AD) : (R.act5 a).lim = R.lim := by
  unfold RD.act5
  by_cases hk : a.K = 5
  · rw [if_pos hk]; exact lim_crash _ _ _
  · rw [if_neg hk]; exact lim_act _ _
theorem left_act5 (R : RD) (a : AD) (L : Int) (h : -L ≤ R.left ∧ R.left ≤ 9223372036854775807) (hL : 0 ≤ L) (hN : a.N ≤ 9223372036854775807) : -(L + 1) ≤ (R.act5 a).left ∧ (R.act5 a).left ≤ 9223372036854775807 := by
  unfold RD.act5
  by_cases hk : a.K = 5
  · rw [if_pos hk, left_crash]; omega
  · rw [if_neg hk]; exact left_act R a L h hL hN
theorem does_5 (p q : Nat) (S : PD) (R : RD) (K F N : Int) (B : List UInt8) (ov : Value) (B0 TT : Nat) (w : World) (hS : Dsk w p S) (hR : Rdk w q R) (hpq : p ≠ q) (hsim : Sim S R) (hp : B0 ≤ p) (hq : B0 ≤ q) (hB0 : B0 ≤ w.heap.size) (hsh : ∀ w', Below B0 w w' → Sh w' ov B) (hbl : B.length ≤ 140737488355328) (hbd : Bd R TT) (hTT : TT ≤ 1000000000) (hlim : 0 ≤ R.lim ∧ R.lim ≤ 1000000000000) (hleft : -1000000000000 ≤ R.left ∧ R.left ≤ 9223372036854775807) (hK : K = 5) (hTT2 : TT + B.length ≤ 1000000000) :
    Calls Try.prog 17 #[.pointer (some ⟨p, 0, none⟩), .pointer (some ⟨q, 0, none⟩), .agg #[.int .i64 K, .int .i64 F, .int .i64 N, ov]] w fun e w' => e = .returned (.bool true) ∧ Dsk w' p (S.act5 ⟨K, F, N, B⟩) ∧ Rdk w' q (R.act5 ⟨K, F, N, B⟩) ∧ Below B0 w w' := by
  subst hK
  obtain ⟨xo, ko, rfl, -⟩ := (hsh w (Below.refl _ _)).open
  have hsz := hbd.sz
  have hSlim := hsim.lim
  have hSleft : S.left ≤ 9223372036854775807 := by rcases hsim.left with ⟨_, h, _⟩ | ⟨_, h⟩ <;> omega
  have hStot : S.n0.length + S.n1.length ≤ 100000000000 := by rw [hsim.n0, hsim.n1]; have := hbd.a0; have := hbd.a1; omega
  have hltp := hS.lt
  have hltq := hR.lt
  have HS := Lib.hid hS
  have HR := Lib.hid hR
  have HSH := Lib.hid hsh
  clear hS hR hsh
  have hSf : S.f0.length + S.n0.length + S.f1.length + S.n1.length ≤ 100000000000 := by rw [hsim.f0, hsim.f1, hsim.n0, hsim.n1]; have := hbd.a0; have := hbd.a1; have := hbd.f0; have := hbd.f1; omega
  obtain ⟨S1, hS1⟩ : ∃ S1, S.crash N B = S1 := ⟨_, rfl⟩
  obtain ⟨R1, hR1⟩ : ∃ R1, R.crash N B = R1 := ⟨_, rfl⟩
  have eS : S.act5 ⟨5, F, N, B⟩ = S1 := hS1
  have eR : R.act5 ⟨5, F, N, B⟩ = R1 := hR1
  rw [eS, eR]
  have HS1E := Lib.hid hS1
  have HR1E := Lib.hid hR1
  clear eS eR hsim hS1 hR1
  go_enter Try.func17, Try.ntmps17
  go_upto_region 1 with fail
  have hRA := Row.new w 25 [.int .i64 5, .int .i64 F, .int .i64 N, .slice xo B.length ko]
  have hbA : Below w.heap.size w (w.alloc (.cells [.int .i64 5, .int .i64 F, .int .i64 N, .slice xo B.length ko].toArray 25)) := balloc (Below.refl _ _) _
  rw [show ([.int .i64 5, .int .i64 F, .int .i64 N, .slice xo B.length ko] : List Value).toArray = #[.int .i64 5, .int .i64 F, .int .i64 N, .slice xo B.length ko] from rfl] at hRA hbA
  have hSA := HS.out.below hbA
  have hRdA := HR.out.below hbA
  generalize w.alloc (.cells #[.int .i64 5, .int .i64 F, .int .i64 N, .slice xo B.length ko] 25) = wA at *
  generalize hg : w.heap.size = g at *
  have hA1 := Row.cell hRA 1
  have hA2 := Row.cell hRA 2
  have hA3 := Row.cell hRA 3
  have hA0 := Row.cell hRA 0
  simp only [List.getElem?_cons_zero, List.getElem?_cons_succ] at hA0 hA1 hA2 hA3
  have hgA : g < wA.heap.size := hRA.lt
  have hbB : Below B0 w wA := hbA.mono hB0
  have hka := bkeep (balloc (Below.refl wA.heap.size wA) (.cells #[] 5)) hA3
  go_wp2_with (at_builtin; refine app_own_w Try.underlying23 info_byte (by with_unfolding_all rfl) (.tmp 12) (.tmp 14) rfl rfl (Row.new wA _ []) rfl (HSH.out _ (hbB.trans ((balloc (Below.refl _ _) _).mono (by omega)))) (by omega) ?_; intro v1 w1 ho1 hb1; have hb1' : Below wA.heap.size wA w1 := bstep (balloc (Below.refl _ _) _) hb1; have hK0 := bkeep hb1' hA0; have hK1 := bkeep hb1' hA1; have hK2 := bkeep hb1' hA2)
  have HS1 := Lib.hid (hSA.below hb1')
  have HR1 := Lib.hid (hRdA.below hb1')
  have HA1 := Lib.hid (hRA.keep hb1')
  have HB1 := Lib.hid (hbB.trans (hb1'.mono (by omega)))
  have HO1 := Lib.hid ho1
  have hg1 : g < w1.heap.size := HA1.out.lt
  clear hSA hRdA hRA hbA hbB hb1 hb1' ho1 hA0 hA1 hA2 hA3 hka
  refine (Crash_of p N _ B S S1 HS1E.out _ HS1.out (dsk_sb HS1.out HO1.out) hSf (by intro _; omega)).mono ?_; rintro e w4 ⟨rfl, hd4, hu4⟩
  have hA4 := hu4.row HA1.out (by omega)
  have hN4 := Row.cell hA4 2
  have hB4 := Row.cell hA4 3
  simp only [List.getElem?_cons_zero, List.getElem?_cons_succ] at hN4 hB4
  have hb4 := ub HB1.out hu4 hp (by omega)
  have hr4 := HR1.out.upd HS1.out (Ne.symm hpq) hu4
  go_wp2_with fail
  refine (refCrash_any q N _ B R TT _ hr4 (fun w' hu => HSH.out w' (ub hb4 hu hq (by omega))) hbd (by omega)).mono ?_; rw [HR1E.out]; rintro e w5 ⟨rfl, hr5, hu5⟩
  go_wp2_with fail
  go_ret
  exact ⟨rfl, hd4.upd hr4 hpq hu5, hr5, ub hb4 hu5 hq (by omega)⟩
theorem does5_any (p q : Nat) (S : PD) (R : RD) (K F N : Int) (B : List UInt8) (ov : Value) (B0 TT : Nat) (w : World) (hS : Dsk w p S) (hR : Rdk w q R) (hpq : p ≠ q) (hsim : Sim S R) (hp : B0 ≤ p) (hq : B0 ≤ q) (hB0 : B0 ≤ w.heap.size) (hsh : ∀ w', Below B0 w w' → Sh w' ov B) (hbl : B.length ≤ 140737488355328) (hbd : Bd R TT) (hTT : TT ≤ 1000000000) (hlim : 0 ≤ R.lim ∧ R.lim ≤ 1000000000000) (hleft : -1000000000000 ≤ R.left ∧ R.left ≤ 9223372036854775807) (hTT2 : TT + B.length ≤ 1000000000) :
    Calls Try.prog 17 #[.pointer (some ⟨p, 0, none⟩), .pointer (some ⟨q, 0, none⟩), .agg #[.int .i64 K, .int .i64 F, .int .i64 N, ov]] w fun e w' => e = .returned (.bool true) ∧ Dsk w' p (S.act5 ⟨K, F, N, B⟩) ∧ Rdk w' q (R.act5 ⟨K, F, N, B⟩) ∧ Below B0 w w' := by
  by_cases hK : K = 5
  · exact does_5 p q S R K F N B ov B0 TT w hS hR hpq hsim hp hq hB0 hsh hbl hbd hTT hlim hleft hK hTT2
  · have eS : S.act5 ⟨K, F, N, B⟩ = S.act ⟨K, F, N, B⟩ := if_neg hK
    have eR : R.act5 ⟨K, F, N, B⟩ = R.act ⟨K, F, N, B⟩ := if_neg hK
    rw [eS, eR]
    exact does_any p q S R K F N B ov B0 TT w hS hR hpq hsim hp hq hB0 hsh hbl hbd hTT hlim hleft hK
theorem Rdk.deadc {w : World} {q : Nat} {R : RD} (h : Rdk w q R) : w.cell? ⟨q, 11, none⟩ = some (.bool R.dead) := by
  obtain ⟨xf0, kf0, xf1, kf1, xm0, km0, xm1, km1, xo0, ko0, xo1, ko1, hR, -⟩ := h
  rw [Row.cell hR 11]; rfl
/-- A call that reads. -/
theorem reads_any (p q : Nat) (S : PD) (R : RD) (F : Int) (B0 TT : Nat) (w : World) (hS : Dsk w p S) (hR : Rdk w q R) (hpq : p ≠ q) (hsim : Sim S R) (hp : B0 ≤ p) (hq : B0 ≤ q) (hB0 : B0 ≤ w.heap.size) (hbd : Bd R TT) (hTT : TT ≤ 1000000000) (hlim : 0 ≤ R.lim ∧ R.lim ≤ 1000000000000) (hleft : -1000000000000 ≤ R.left ∧ R.left ≤ 9223372036854775807) :
    Calls Try.prog 17 #[.pointer (some ⟨p, 0, none⟩), .pointer (some ⟨q, 0, none⟩), .agg #[.int .i64 3, .int .i64 F, .int .i64 0, .slice none 0 0]] w fun e w' => e = .returned (.bool true) ∧ Dsk w' p S ∧ Rdk w' q R ∧ Below B0 w w' :=
  does_any p q S R 3 F 0 [] (.slice none 0 0) B0 TT w hS hR hpq hsim hp hq hB0 (fun w' _ => Sh.nil _) (by simp) hbd hTT hlim hleft (by decide)
theorem DiskActs_walk (n0 : Int) (lv : Value) (As : List AD) (w : World) (hA : Acts w lv As) (hn : As.length ≤ 1048576) (hB : ∀ i, i < As.length → (As.getD i dAD).B.length ≤ 1048576) (hI : ∀ i, i < As.length → isInt (As.getD i dAD).K ∧ isInt (As.getD i dAD).F ∧ isInt (As.getD i dAD).N) :
    Calls Try.prog 6 #[.int .i64 n0, lv] w fun e w' => e = .returned (.bool true) ∧ Below w.heap.size w w' := by
  obtain ⟨xa, ka, rfl, hka, -⟩ := hA.open
  have HA := Lib.hid hA
  have HBB := Lib.hid hB
  have HI := Lib.hid hI
  clear hA hB hI
  obtain ⟨L, hL⟩ : ∃ L : Int, (if n0 < 0 then 0 else if 16777216 < n0 then 16777216 else n0) = L := ⟨_, rfl⟩
  have hLb : 0 ≤ L ∧ L ≤ 16777216 := by rw [← hL]; split; omega; split <;> omega
  have HL := Lib.hid hL
  clear hL
  go_enter Try.func6, Try.ntmps6
  go_wp2_with fail
  refine (New_any n0 _).mono ?_; rw [HL.out]; rintro e w1 ⟨rfl, hd1, hb1, hs1⟩
  go_wp2_with fail
  refine (refNew_any n0 _).mono ?_; rw [HL.out]; rintro e w2 ⟨rfl, hr2, hb2, hs2⟩
  have hd2 := hd1.below hb2
  have hb02 := bthen hb1 hb2 (Nat.le_refl _)
  obtain ⟨p, hp⟩ : ∃ p, w.heap.size = p := ⟨_, rfl⟩
  obtain ⟨q, hq⟩ : ∃ q, w1.heap.size = q := ⟨_, rfl⟩
  obtain ⟨g0, hg⟩ : ∃ g0, w.heap.size = g0 := ⟨_, rfl⟩
  have HG := Lib.hid hg
  have hpq : p ≠ q := by omega
  have hpp : g0 ≤ p := by omega
  have hqq : g0 ≤ q := by omega
  have hd2' : Dsk w2 p ⟨[], [], false, [], [], false, L, -1, false⟩ := by rw [← hp]; exact hd2
  have hr2' : Rdk w2 q ⟨[], [], [], [], [], [], false, false, L, 0, false, false⟩ := by rw [← hq]; exact hr2
  have hb2' : Below g0 w w2 := by rw [← hg]; exact hb02
  rw [hp, hq]
  have HD2 := Lib.hid hd2'
  have HR2 := Lib.hid hr2'
  have HB2 := Lib.hid hb2'
  clear hd1 hr2 hd2 hb1 hb2 hb02 hs1 hs2 hg hp hq hd2' hr2' hb2' HL
  go_wp2_with fail
  go_loopw [7] (fun iv wr => ∃ (j : Nat) (S : PD) (R : RD), j ≤ As.length ∧ iv = .int .i64 (j : Int) ∧ j ≤ 100 ∧ Dsk wr p S ∧ Rdk wr q R ∧ Sim S R ∧ Bd R (16777216 + j * 1048576) ∧ R.lim = L ∧ (-(j : Int) ≤ R.left ∧ R.left ≤ 9223372036854775807) ∧ Below g0 w wr) (fun iv _ => As.length - (intOf iv).toNat)
  case atStart => exact ⟨0, _, _, by omega, rfl, by omega, HD2.out, HR2.out, Sim.new L, ⟨by simp, by simp, by simp [RD.all], by simp [RD.all], by simp, by simp⟩, rfl, by simp, HB2.out⟩
  case round =>
    obtain ⟨j, S, R, hj, rfl, hj60, hd, hr, hsim, hbd, hlim, hleft, hb⟩ := hrel
    have HD := Lib.hid hd
    have HR := Lib.hid hr
    have HB := Lib.hid hb
    have HSIM := Lib.hid hsim
    have HLM := Lib.hid hlim
    clear hd hr hb hsim hlim
    have hcase : (j < As.length ∧ j < 100) ∨ j = As.length ∨ (j < As.length ∧ ¬ j < 100) := by omega
    rcases hcase with ⟨hjl, hj6⟩ | rfl | ⟨hjl, hj6⟩
    · obtain ⟨TT, hTTe⟩ : ∃ TT, 16777216 + j * 1048576 = TT := ⟨_, rfl⟩
      rw [hTTe] at hbd
      have HBD := Lib.hid hbd
      obtain ⟨b, off, rfl, ov, c0, c1, c2, c3, hsu⟩ := HA.out.at hjl
      have hbl : b < g0 := by rw [← HG.out]; exact blt c0
      have c0' := bcell HB.out c0 hbl
      have c1' := bcell HB.out c1 hbl
      have c2' := bcell HB.out c2 hbl
      have c3' := bcell HB.out c3 hbl
      have hbm := HBB.out j hjl
      have hii := HI.out j hjl
      have HSU := Lib.hid hsu
      clear c0 c1 c2 c3 hsu
      generalize As.getD j dAD = A0 at *
      obtain ⟨kk, F, N, B⟩ := A0
      simp only at c0' c1' c2' c3' hbm hii HSU
      obtain ⟨xo, ko, rfl, -⟩ := HSU.out.open
      have hbb : B.length ≤ 140737488355328 := by omega
      have hTT : TT ≤ 1000000000 := by omega
      have hTT2 : TT + B.length ≤ 1000000000 := by omega
      have hlf : -1000000000000 ≤ R.left ∧ R.left ≤ 9223372036854775807 := by omega
      have HLL := Lib.hid (show 0 ≤ R.lim ∧ R.lim ≤ 1000000000000 by rw [HLM.out]; omega)
      have hjI : (j : Int) < (As.length : Int) := by omega
      have hj6I : (j : Int) < 100 := by omega
      obtain ⟨S', hS'⟩ : ∃ S', S.act5 ⟨kk, F, N, B⟩ = S' := ⟨_, rfl⟩
      obtain ⟨R', hR'⟩ : ∃ R', R.act5 ⟨kk, F, N, B⟩ = R' := ⟨_, rfl⟩
      have hsa : Sim S' R' := by rw [← hS', ← hR']; exact HSIM.out.act5 _
      obtain ⟨TT2, hTT2e⟩ : ∃ TT2, 16777216 + (j + 1) * 1048576 = TT2 := ⟨_, rfl⟩
      have hTTb : TT2 ≤ 1000000000 := by omega
      have hba : Bd R' TT2 := by
        rw [← hR']
        have := HBD.out.act5 (by rw [HLM.out]; omega) ⟨kk, F, N, B⟩
        have hle : TT + B.length ≤ TT2 := by omega
        exact ⟨Nat.le_trans this.f0 hle, Nat.le_trans this.f1 hle, Nat.le_trans this.a0 hle, Nat.le_trans this.a1 hle, Nat.le_trans this.o0 hle, Nat.le_trans this.o1 hle⟩
      have hlm2 : R'.lim = L := by rw [← hR', lim_act5]; exact HLM.out
      have hln : -((j + 1 : Nat) : Int) ≤ R'.left ∧ R'.left ≤ 9223372036854775807 := by
        rw [← hR']
        have := left_act5 R ⟨kk, F, N, B⟩ (j : Int) hleft (by omega) hii.2.2.2
        omega
      have hszR := hba.sz
      obtain ⟨A, hA⟩ : ∃ A, (R'.all 0).length + (R'.all 1).length = A := ⟨_, rfl⟩
      have htot : S'.tot = (A : Int) := by rw [hsa.tot, hA]
      have hszS : S'.n0.length + S'.n1.length ≤ 100000000000 := by rw [hsa.n0, hsa.n1, hA]; have h1 := hba.a0; have h2 := hba.a1; omega
      have hdd : S'.dead = R'.dead := hsa.dead
      have HSA := Lib.hid hsa
      have HBA := Lib.hid hba
      have HLM2 := Lib.hid hlm2
      have HLN := Lib.hid hln
      have HLF := Lib.hid (show -1000000000000 ≤ R'.left ∧ R'.left ≤ 9223372036854775807 by omega)
      have HLA := Lib.hid (show 0 ≤ R'.lim ∧ R'.lim ≤ 1000000000000 by rw [hlm2]; omega)
      have HSZ := Lib.hid hszS
      have HSZR := Lib.hid (show R'.sz ≤ 140737488355328 by omega)
      clear hsa hba hlm2 hln hszR hszS hbd
      go_upto_region 7 with fail
      refine wp_region_any (by kernel_rfl) ?_
      try (change wpAny _ _ _ _ _ _ _ (World.drew _))
      refine wpAny_take (i := 0) (v := ?_) (by simp only [List.getElem?_toArray, List.getElem?_cons_zero, List.getElem?_cons_succ] <;> rfl) (by kernel_rfl) (by kernel_rfl) (by kernel_rfl) (by intro _ _ _ h; exact h) (Or.inl ⟨by rfl, ?_⟩) ?_
      rotate_left
      · intro w; go_simp; try with_reducible rfl
      try simp only [Act.put, List.setIfInBounds_toArray, List.set_cons_zero, List.set_cons_succ, Array.replicate]
      refine wpAny_take (i := 1) (v := ?_) (by simp only [List.getElem?_toArray, List.getElem?_cons_zero, List.getElem?_cons_succ] <;> rfl) (by kernel_rfl) (by kernel_rfl) (by kernel_rfl) (by intro _ _ _ h; exact h) (Or.inl ⟨by rfl, ?_⟩) ?_
      rotate_left
      · intro w; go_simp; try with_reducible rfl
      try simp only [Act.put, List.setIfInBounds_toArray, List.set_cons_zero, List.set_cons_succ, Array.replicate]
      refine wpAny_take (i := 2) (v := ?_) (by simp only [List.getElem?_toArray, List.getElem?_cons_zero, List.getElem?_cons_succ] <;> rfl) (by kernel_rfl) (by kernel_rfl) (by kernel_rfl) (by intro _ _ _ h; exact h) (Or.inl ⟨by rfl, ?_⟩) ?_
      rotate_left
      · intro w; go_simp; try with_reducible rfl
      try simp only [Act.put, List.setIfInBounds_toArray, List.set_cons_zero, List.set_cons_succ, Array.replicate]
      refine wpAny_take (i := 3) (v := ?_) (by simp only [List.getElem?_toArray, List.getElem?_cons_zero, List.getElem?_cons_succ] <;> rfl) (by kernel_rfl) (by kernel_rfl) (by kernel_rfl) (by intro _ _ _ h; exact h) (Or.inl ⟨by rfl, ?_⟩) ?_
      rotate_left
      · intro w; go_simp; try with_reducible rfl
      try simp only [Act.put, List.setIfInBounds_toArray, List.set_cons_zero, List.set_cons_succ, Array.replicate]
      refine wpAny_take (i := 4) (v := ?_) (by simp only [List.getElem?_toArray, List.getElem?_cons_zero, List.getElem?_cons_succ] <;> rfl) (by kernel_rfl) (by kernel_rfl) (by kernel_rfl) (by intro _ _ _ h; exact h) (Or.inl ⟨by rfl, ?_⟩) ?_
      rotate_left
      · intro w; go_simp; try with_reducible rfl
      try simp only [Act.put, List.setIfInBounds_toArray, List.set_cons_zero, List.set_cons_succ, Array.replicate]
      refine wpAny_ready (rs := [5]) (by kernel_rfl) (by simp) ?_
      refine AllReady.cons (by simp only [List.getElem?_toArray, List.getElem?_cons_zero, List.getElem?_cons_succ] <;> rfl) (fun K hK => ?_) ?_
      · go_simp
        refine hK _ _ ?_
        clear hK K
        try simp only [Act.put, List.setIfInBounds_toArray, List.set_cons_zero, List.set_cons_succ, Array.replicate]
        refine wpAny_ready (rs := [6]) (by kernel_rfl) (by simp) ?_
        refine AllReady.cons (by simp only [List.getElem?_toArray, List.getElem?_cons_zero, List.getElem?_cons_succ] <;> rfl) (fun K hK => ?_) ?_
        · go_simp; go_at_call 17; have hdx := HD.out.below (Below.refl wr.heap.size wr).drew; have hrx := HR.out.below (Below.refl wr.heap.size wr).drew; refine (does5_any p q S R kk F N B _ g0 TT _ hdx hrx hpq HSIM.out hpp hqq (by have := HB.out.size; have := HG.out; simp; omega) (fun w' h => HSU.out.at' ((HB.out.drew).trans h) (by rw [HG.out]; exact Nat.le_refl _)) hbb HBD.out hTT HLL.out hlf hTT2).mono ?_; rw [hS', hR']; rintro e w3 ⟨rfl, hd3, hr3, hb3⟩; have hdc := hr3.deadc; try go_simp
          refine hK _ _ ?_
          clear hK K
          try simp only [Act.put, List.setIfInBounds_toArray, List.set_cons_zero, List.set_cons_succ, Array.replicate]
          refine wpAny_take (i := 7) (v := ?_) (by simp only [List.getElem?_toArray, List.getElem?_cons_zero, List.getElem?_cons_succ] <;> rfl) (by kernel_rfl) (by kernel_rfl) (by kernel_rfl) (by intro _ _ _ h; exact h) (Or.inl ⟨by rfl, ?_⟩) ?_
          rotate_left
          · intro w; go_simp; try with_reducible rfl
          try simp only [Act.put, List.setIfInBounds_toArray, List.set_cons_zero, List.set_cons_succ, Array.replicate]
          refine wpAny_take (i := 8) (v := ?_) (by simp only [List.getElem?_toArray, List.getElem?_cons_zero, List.getElem?_cons_succ] <;> rfl) (by kernel_rfl) (by kernel_rfl) (by kernel_rfl) (by intro _ _ _ h; exact h) (Or.inl ⟨by rfl, ?_⟩) ?_
          rotate_left
          · intro w; go_simp; try with_reducible rfl
          try simp only [Act.put, List.setIfInBounds_toArray, List.set_cons_zero, List.set_cons_succ, Array.replicate]
          refine wpAny_take (i := 9) (v := ?_) (by simp only [List.getElem?_toArray, List.getElem?_cons_zero, List.getElem?_cons_succ] <;> rfl) (by kernel_rfl) (by kernel_rfl) (by kernel_rfl) (by intro _ _ _ h; exact h) (Or.inl ⟨by rfl, ?_⟩) ?_
          rotate_left
          · intro w; go_simp; try with_reducible rfl
          try simp only [Act.put, List.setIfInBounds_toArray, List.set_cons_zero, List.set_cons_succ, Array.replicate]
          refine wpAny_take (i := 11) (v := ?_) (by simp only [List.getElem?_toArray, List.getElem?_cons_zero, List.getElem?_cons_succ] <;> rfl) (by kernel_rfl) (by kernel_rfl) (by kernel_rfl) (by intro _ _ _ h; exact h) (Or.inl ⟨by rfl, ?_⟩) ?_
          rotate_left
          · intro w; go_simp; try with_reducible rfl
          try simp only [Act.put, List.setIfInBounds_toArray, List.set_cons_zero, List.set_cons_succ, Array.replicate]
          refine wpAny_take (i := 12) (v := ?_) (by simp only [List.getElem?_toArray, List.getElem?_cons_zero, List.getElem?_cons_succ] <;> rfl) (by kernel_rfl) (by kernel_rfl) (by kernel_rfl) (by intro _ _ _ h; exact h) (Or.inl ⟨by rfl, ?_⟩) ?_
          rotate_left
          · intro w; go_simp; try with_reducible rfl
          try simp only [Act.put, List.setIfInBounds_toArray, List.set_cons_zero, List.set_cons_succ, Array.replicate]
          refine wpAny_take (i := 13) (v := ?_) (by simp only [List.getElem?_toArray, List.getElem?_cons_zero, List.getElem?_cons_succ] <;> rfl) (by kernel_rfl) (by kernel_rfl) (by kernel_rfl) (by intro _ _ _ h; exact h) (Or.inl ⟨by rfl, ?_⟩) ?_
          rotate_left
          · intro w; go_simp; try with_reducible rfl
          try simp only [Act.put, List.setIfInBounds_toArray, List.set_cons_zero, List.set_cons_succ, Array.replicate]
          refine wpAny_ready (rs := [10, 14]) (by kernel_rfl) (by simp) ?_
          refine AllReady.cons (by simp only [List.getElem?_toArray, List.getElem?_cons_zero, List.getElem?_cons_succ] <;> rfl) (fun K hK => ?_) ?_
          · go_simp; go_at_call 19; refine (Dead_dsk p S' _ hd3).mono ?_; rw [hdd]; rintro e w4 ⟨he4, hw4⟩; subst he4; subst hw4; try go_simp
            refine hK _ _ ?_
            clear hK K
            try simp only [Act.put, List.setIfInBounds_toArray, List.set_cons_zero, List.set_cons_succ, Array.replicate]
            refine wpAny_ready (rs := [14]) (by kernel_rfl) (by simp) ?_
            refine AllReady.cons (by simp only [List.getElem?_toArray, List.getElem?_cons_zero, List.getElem?_cons_succ] <;> rfl) (fun K hK => ?_) ?_
            · go_simp
              refine hK _ _ ?_
              clear hK K
              try simp only [Act.put, List.setIfInBounds_toArray, List.set_cons_zero, List.set_cons_succ, Array.replicate]
              refine wpAny_take (i := 15) (v := ?_) (by simp only [List.getElem?_toArray, List.getElem?_cons_zero, List.getElem?_cons_succ] <;> rfl) (by kernel_rfl) (by kernel_rfl) (by kernel_rfl) (by intro _ _ _ h; exact h) (Or.inl ⟨by rfl, ?_⟩) ?_
              rotate_left
              · intro w; go_simp; try with_reducible rfl
              try simp only [Act.put, List.setIfInBounds_toArray, List.set_cons_zero, List.set_cons_succ, Array.replicate]
              refine wpAny_take (i := 16) (v := ?_) (by simp only [List.getElem?_toArray, List.getElem?_cons_zero, List.getElem?_cons_succ] <;> rfl) (by kernel_rfl) (by kernel_rfl) (by kernel_rfl) (by intro _ _ _ h; exact h) (Or.inl ⟨by rfl, ?_⟩) ?_
              rotate_left
              · intro w; go_simp; try with_reducible rfl
              try simp only [Act.put, List.setIfInBounds_toArray, List.set_cons_zero, List.set_cons_succ, Array.replicate]
              refine wpAny_take (i := 17) (v := ?_) (by simp only [List.getElem?_toArray, List.getElem?_cons_zero, List.getElem?_cons_succ] <;> rfl) (by kernel_rfl) (by kernel_rfl) (by kernel_rfl) (by intro _ _ _ h; exact h) (Or.inl ⟨by rfl, ?_⟩) ?_
              rotate_left
              · intro w; go_simp; try with_reducible rfl
              try simp only [Act.put, List.setIfInBounds_toArray, List.set_cons_zero, List.set_cons_succ, Array.replicate]
              refine wpAny_take (i := 18) (v := ?_) (by simp only [List.getElem?_toArray, List.getElem?_cons_zero, List.getElem?_cons_succ] <;> rfl) (by kernel_rfl) (by kernel_rfl) (by kernel_rfl) (by intro _ _ _ h; exact h) (Or.inl ⟨by rfl, ?_⟩) ?_
              rotate_left
              · intro w; go_simp; try with_reducible rfl
              try simp only [Act.put, List.setIfInBounds_toArray, List.set_cons_zero, List.set_cons_succ, Array.replicate]
              refine wpAny_take (i := 20) (v := ?_) (by simp only [List.getElem?_toArray, List.getElem?_cons_zero, List.getElem?_cons_succ] <;> rfl) (by kernel_rfl) (by kernel_rfl) (by kernel_rfl) (by intro _ _ _ h; exact h) (Or.inl ⟨by rfl, ?_⟩) ?_
              rotate_left
              · intro w; go_simp; try with_reducible rfl
              try simp only [Act.put, List.setIfInBounds_toArray, List.set_cons_zero, List.set_cons_succ, Array.replicate]
              refine wpAny_ready (rs := [19]) (by kernel_rfl) (by simp) ?_
              refine AllReady.cons (by simp only [List.getElem?_toArray, List.getElem?_cons_zero, List.getElem?_cons_succ] <;> rfl) (fun K hK => ?_) ?_
              · go_simp; go_at_call 18; refine (Size_any p S' _ hd3 HSZ.out).mono ?_; rw [htot]; rintro e w5 ⟨rfl, hb5⟩; have hr5 := hr3.below hb5; try go_simp
                refine hK _ _ ?_
                clear hK K
                try simp only [Act.put, List.setIfInBounds_toArray, List.set_cons_zero, List.set_cons_succ, Array.replicate]
                refine wpAny_ready (rs := [21]) (by kernel_rfl) (by simp) ?_
                refine AllReady.cons (by simp only [List.getElem?_toArray, List.getElem?_cons_zero, List.getElem?_cons_succ] <;> rfl) (fun K hK => ?_) ?_
                · go_simp; go_at_call 20; refine (refSize_of q R' A hA _ hr5 HSZR.out).mono ?_; rintro e w6 ⟨rfl, hb6⟩; have hb56 := bthen hb5 hb6 (Nat.le_refl _); have hd6 := hd3.below hb56; have hr6 := hr3.below hb56; have hbw6 := (HB.out.drew).trans (hb3.trans (hb56.mono (by have h1 := (HB.out.drew).trans hb3; have := h1.size; have := HG.out; omega))); try go_simp
                  refine hK _ _ ?_
                  clear hK K
                  try simp only [Act.put, List.setIfInBounds_toArray, List.set_cons_zero, List.set_cons_succ, Array.replicate]
                  refine wpAny_take (i := 22) (v := ?_) (by simp only [List.getElem?_toArray, List.getElem?_cons_zero, List.getElem?_cons_succ] <;> rfl) (by kernel_rfl) (by kernel_rfl) (by kernel_rfl) (by intro _ _ _ h; exact h) (Or.inl ⟨by rfl, ?_⟩) ?_
                  rotate_left
                  · intro w; go_simp; try with_reducible rfl
                  try simp only [Act.put, List.setIfInBounds_toArray, List.set_cons_zero, List.set_cons_succ, Array.replicate]
                  refine wpAny_take (i := 23) (v := ?_) (by simp only [List.getElem?_toArray, List.getElem?_cons_zero, List.getElem?_cons_succ] <;> rfl) (by kernel_rfl) (by kernel_rfl) (by kernel_rfl) (by intro _ _ _ h; exact h) (Or.inl ⟨by rfl, ?_⟩) ?_
                  rotate_left
                  · intro w; go_simp; try with_reducible rfl
                  try simp only [Act.put, List.setIfInBounds_toArray, List.set_cons_zero, List.set_cons_succ, Array.replicate]
                  refine wpAny_take (i := 24) (v := ?_) (by simp only [List.getElem?_toArray, List.getElem?_cons_zero, List.getElem?_cons_succ] <;> rfl) (by kernel_rfl) (by kernel_rfl) (by kernel_rfl) (by intro _ _ _ h; exact h) (Or.inl ⟨by rfl, ?_⟩) ?_
                  rotate_left
                  · intro w; go_simp; try with_reducible rfl
                  try simp only [Act.put, List.setIfInBounds_toArray, List.set_cons_zero, List.set_cons_succ, Array.replicate]
                  refine wpAny_take (i := 25) (v := ?_) (by simp only [List.getElem?_toArray, List.getElem?_cons_zero, List.getElem?_cons_succ] <;> rfl) (by kernel_rfl) (by kernel_rfl) (by kernel_rfl) (by intro _ _ _ h; exact h) (Or.inl ⟨by rfl, ?_⟩) ?_
                  rotate_left
                  · intro w; go_simp; try with_reducible rfl
                  try simp only [Act.put, List.setIfInBounds_toArray, List.set_cons_zero, List.set_cons_succ, Array.replicate]
                  refine wpAny_take (i := 26) (v := ?_) (by simp only [List.getElem?_toArray, List.getElem?_cons_zero, List.getElem?_cons_succ] <;> rfl) (by kernel_rfl) (by kernel_rfl) (by kernel_rfl) (by intro _ _ _ h; exact h) (Or.inl ⟨by rfl, ?_⟩) ?_
                  rotate_left
                  · intro w; go_simp; try with_reducible rfl
                  try simp only [Act.put, List.setIfInBounds_toArray, List.set_cons_zero, List.set_cons_succ, Array.replicate]
                  refine wpAny_take (i := 27) (v := ?_) (by simp only [List.getElem?_toArray, List.getElem?_cons_zero, List.getElem?_cons_succ] <;> rfl) (by kernel_rfl) (by kernel_rfl) (by kernel_rfl) (by intro _ _ _ h; exact h) (Or.inl ⟨by rfl, ?_⟩) ?_
                  rotate_left
                  · intro w; go_simp; try with_reducible rfl
                  try simp only [Act.put, List.setIfInBounds_toArray, List.set_cons_zero, List.set_cons_succ, Array.replicate]
                  refine wpAny_ready (rs := [28]) (by kernel_rfl) (by simp) ?_
                  refine AllReady.cons (by simp only [List.getElem?_toArray, List.getElem?_cons_zero, List.getElem?_cons_succ] <;> rfl) (fun K hK => ?_) ?_
                  · go_simp; go_at_call 17; refine (reads_any p q S' R' 0 g0 TT2 _ hd6 hr6 hpq HSA.out hpp hqq (by have := hbw6.size; have := HG.out; omega) HBA.out hTTb HLA.out HLF.out).mono ?_; rintro e w7 ⟨rfl, hd7, hr7, hb7⟩; have hbw7 := hbw6.trans hb7; try go_simp
                    refine hK _ _ ?_
                    clear hK K
                    try simp only [Act.put, List.setIfInBounds_toArray, List.set_cons_zero, List.set_cons_succ, Array.replicate]
                    refine wpAny_take (i := 29) (v := ?_) (by simp only [List.getElem?_toArray, List.getElem?_cons_zero, List.getElem?_cons_succ] <;> rfl) (by kernel_rfl) (by kernel_rfl) (by kernel_rfl) (by intro _ _ _ h; exact h) (Or.inl ⟨by rfl, ?_⟩) ?_
                    rotate_left
                    · intro w; go_simp; try with_reducible rfl
                    try simp only [Act.put, List.setIfInBounds_toArray, List.set_cons_zero, List.set_cons_succ, Array.replicate]
                    refine wpAny_take (i := 30) (v := ?_) (by simp only [List.getElem?_toArray, List.getElem?_cons_zero, List.getElem?_cons_succ] <;> rfl) (by kernel_rfl) (by kernel_rfl) (by kernel_rfl) (by intro _ _ _ h; exact h) (Or.inl ⟨by rfl, ?_⟩) ?_
                    rotate_left
                    · intro w; go_simp; try with_reducible rfl
                    try simp only [Act.put, List.setIfInBounds_toArray, List.set_cons_zero, List.set_cons_succ, Array.replicate]
                    refine wpAny_take (i := 31) (v := ?_) (by simp only [List.getElem?_toArray, List.getElem?_cons_zero, List.getElem?_cons_succ] <;> rfl) (by kernel_rfl) (by kernel_rfl) (by kernel_rfl) (by intro _ _ _ h; exact h) (Or.inl ⟨by rfl, ?_⟩) ?_
                    rotate_left
                    · intro w; go_simp; try with_reducible rfl
                    try simp only [Act.put, List.setIfInBounds_toArray, List.set_cons_zero, List.set_cons_succ, Array.replicate]
                    refine wpAny_take (i := 32) (v := ?_) (by simp only [List.getElem?_toArray, List.getElem?_cons_zero, List.getElem?_cons_succ] <;> rfl) (by kernel_rfl) (by kernel_rfl) (by kernel_rfl) (by intro _ _ _ h; exact h) (Or.inl ⟨by rfl, ?_⟩) ?_
                    rotate_left
                    · intro w; go_simp; try with_reducible rfl
                    try simp only [Act.put, List.setIfInBounds_toArray, List.set_cons_zero, List.set_cons_succ, Array.replicate]
                    refine wpAny_take (i := 33) (v := ?_) (by simp only [List.getElem?_toArray, List.getElem?_cons_zero, List.getElem?_cons_succ] <;> rfl) (by kernel_rfl) (by kernel_rfl) (by kernel_rfl) (by intro _ _ _ h; exact h) (Or.inl ⟨by rfl, ?_⟩) ?_
                    rotate_left
                    · intro w; go_simp; try with_reducible rfl
                    try simp only [Act.put, List.setIfInBounds_toArray, List.set_cons_zero, List.set_cons_succ, Array.replicate]
                    refine wpAny_take (i := 34) (v := ?_) (by simp only [List.getElem?_toArray, List.getElem?_cons_zero, List.getElem?_cons_succ] <;> rfl) (by kernel_rfl) (by kernel_rfl) (by kernel_rfl) (by intro _ _ _ h; exact h) (Or.inl ⟨by rfl, ?_⟩) ?_
                    rotate_left
                    · intro w; go_simp; try with_reducible rfl
                    try simp only [Act.put, List.setIfInBounds_toArray, List.set_cons_zero, List.set_cons_succ, Array.replicate]
                    refine wpAny_ready (rs := [35]) (by kernel_rfl) (by simp) ?_
                    refine AllReady.cons (by simp only [List.getElem?_toArray, List.getElem?_cons_zero, List.getElem?_cons_succ] <;> rfl) (fun K hK => ?_) ?_
                    · go_simp; go_at_call 17; refine (reads_any p q S' R' 1 g0 TT2 _ hd7 hr7 hpq HSA.out hpp hqq (by have := hbw7.size; have := HG.out; omega) HBA.out hTTb HLA.out HLF.out).mono ?_; rintro e w8 ⟨rfl, hd8, hr8, hb8⟩; have hbw8 := hbw7.trans hb8; try go_simp
                      refine hK _ _ ?_
                      clear hK K
                      try simp only [Act.put, List.setIfInBounds_toArray, List.set_cons_zero, List.set_cons_succ, Array.replicate]
                      refine wpAny_take (i := 36) (v := ?_) (by simp only [List.getElem?_toArray, List.getElem?_cons_zero, List.getElem?_cons_succ] <;> rfl) (by kernel_rfl) (by kernel_rfl) (by kernel_rfl) (by intro _ _ _ h; exact h) (Or.inl ⟨by rfl, ?_⟩) ?_
                      rotate_left
                      · intro w; go_simp; try with_reducible rfl
                      try simp only [Act.put, List.setIfInBounds_toArray, List.set_cons_zero, List.set_cons_succ, Array.replicate]
                      refine wpAny_take (i := 37) (v := ?_) (by simp only [List.getElem?_toArray, List.getElem?_cons_zero, List.getElem?_cons_succ] <;> rfl) (by kernel_rfl) (by kernel_rfl) (by kernel_rfl) (by intro _ _ _ h; exact h) (Or.inl ⟨by rfl, ?_⟩) ?_
                      rotate_left
                      · intro w; go_simp; try with_reducible rfl
                      try simp only [Act.put, List.setIfInBounds_toArray, List.set_cons_zero, List.set_cons_succ, Array.replicate]
                      refine wpAny_done (by kernel_rfl) ?_ _
                      go_wp2_with fail
                      exact ⟨⟨j + 1, S', R', by omega, by go_num, by omega, hd8, hr8, HSA.out, by rw [hTT2e]; exact HBA.out, HLM2.out, HLN.out, hbw8⟩, by simp [intOf]; omega⟩
                    exact AllReady.nil
                  exact AllReady.nil
                exact AllReady.nil
              exact AllReady.nil
            exact AllReady.nil
          refine AllReady.cons (by simp only [List.getElem?_toArray, List.getElem?_cons_zero, List.getElem?_cons_succ] <;> rfl) (fun K hK => ?_) ?_
          · go_simp
            refine hK _ _ ?_
            clear hK K
            try simp only [Act.put, List.setIfInBounds_toArray, List.set_cons_zero, List.set_cons_succ, Array.replicate]
            refine wpAny_ready (rs := [10]) (by kernel_rfl) (by simp) ?_
            refine AllReady.cons (by simp only [List.getElem?_toArray, List.getElem?_cons_zero, List.getElem?_cons_succ] <;> rfl) (fun K hK => ?_) ?_
            · go_simp; go_at_call 19; refine (Dead_dsk p S' _ hd3).mono ?_; rw [hdd]; rintro e w4 ⟨he4, hw4⟩; subst he4; subst hw4; try go_simp
              refine hK _ _ ?_
              clear hK K
              try simp only [Act.put, List.setIfInBounds_toArray, List.set_cons_zero, List.set_cons_succ, Array.replicate]
              refine wpAny_take (i := 15) (v := ?_) (by simp only [List.getElem?_toArray, List.getElem?_cons_zero, List.getElem?_cons_succ] <;> rfl) (by kernel_rfl) (by kernel_rfl) (by kernel_rfl) (by intro _ _ _ h; exact h) (Or.inl ⟨by rfl, ?_⟩) ?_
              rotate_left
              · intro w; go_simp; try with_reducible rfl
              try simp only [Act.put, List.setIfInBounds_toArray, List.set_cons_zero, List.set_cons_succ, Array.replicate]
              refine wpAny_take (i := 16) (v := ?_) (by simp only [List.getElem?_toArray, List.getElem?_cons_zero, List.getElem?_cons_succ] <;> rfl) (by kernel_rfl) (by kernel_rfl) (by kernel_rfl) (by intro _ _ _ h; exact h) (Or.inl ⟨by rfl, ?_⟩) ?_
              rotate_left
              · intro w; go_simp; try with_reducible rfl
              try simp only [Act.put, List.setIfInBounds_toArray, List.set_cons_zero, List.set_cons_succ, Array.replicate]
              refine wpAny_take (i := 17) (v := ?_) (by simp only [List.getElem?_toArray, List.getElem?_cons_zero, List.getElem?_cons_succ] <;> rfl) (by kernel_rfl) (by kernel_rfl) (by kernel_rfl) (by intro _ _ _ h; exact h) (Or.inl ⟨by rfl, ?_⟩) ?_
              rotate_left
              · intro w; go_simp; try with_reducible rfl
              try simp only [Act.put, List.setIfInBounds_toArray, List.set_cons_zero, List.set_cons_succ, Array.replicate]
              refine wpAny_take (i := 18) (v := ?_) (by simp only [List.getElem?_toArray, List.getElem?_cons_zero, List.getElem?_cons_succ] <;> rfl) (by kernel_rfl) (by kernel_rfl) (by kernel_rfl) (by intro _ _ _ h; exact h) (Or.inl ⟨by rfl, ?_⟩) ?_
              rotate_left
              · intro w; go_simp; try with_reducible rfl
              try simp only [Act.put, List.setIfInBounds_toArray, List.set_cons_zero, List.set_cons_succ, Array.replicate]
              refine wpAny_take (i := 20) (v := ?_) (by simp only [List.getElem?_toArray, List.getElem?_cons_zero, List.getElem?_cons_succ] <;> rfl) (by kernel_rfl) (by kernel_rfl) (by kernel_rfl) (by intro _ _ _ h; exact h) (Or.inl ⟨by rfl, ?_⟩) ?_
              rotate_left
              · intro w; go_simp; try with_reducible rfl
              try simp only [Act.put, List.setIfInBounds_toArray, List.set_cons_zero, List.set_cons_succ, Array.replicate]
              refine wpAny_ready (rs := [19]) (by kernel_rfl) (by simp) ?_
              refine AllReady.cons (by simp only [List.getElem?_toArray, List.getElem?_cons_zero, List.getElem?_cons_succ] <;> rfl) (fun K hK => ?_) ?_
              · go_simp; go_at_call 18; refine (Size_any p S' _ hd3 HSZ.out).mono ?_; rw [htot]; rintro e w5 ⟨rfl, hb5⟩; have hr5 := hr3.below hb5; try go_simp
                refine hK _ _ ?_
                clear hK K
                try simp only [Act.put, List.setIfInBounds_toArray, List.set_cons_zero, List.set_cons_succ, Array.replicate]
                refine wpAny_ready (rs := [21]) (by kernel_rfl) (by simp) ?_
                refine AllReady.cons (by simp only [List.getElem?_toArray, List.getElem?_cons_zero, List.getElem?_cons_succ] <;> rfl) (fun K hK => ?_) ?_
                · go_simp; go_at_call 20; refine (refSize_of q R' A hA _ hr5 HSZR.out).mono ?_; rintro e w6 ⟨rfl, hb6⟩; have hb56 := bthen hb5 hb6 (Nat.le_refl _); have hd6 := hd3.below hb56; have hr6 := hr3.below hb56; have hbw6 := (HB.out.drew).trans (hb3.trans (hb56.mono (by have h1 := (HB.out.drew).trans hb3; have := h1.size; have := HG.out; omega))); try go_simp
                  refine hK _ _ ?_
                  clear hK K
                  try simp only [Act.put, List.setIfInBounds_toArray, List.set_cons_zero, List.set_cons_succ, Array.replicate]
                  refine wpAny_take (i := 22) (v := ?_) (by simp only [List.getElem?_toArray, List.getElem?_cons_zero, List.getElem?_cons_succ] <;> rfl) (by kernel_rfl) (by kernel_rfl) (by kernel_rfl) (by intro _ _ _ h; exact h) (Or.inl ⟨by rfl, ?_⟩) ?_
                  rotate_left
                  · intro w; go_simp; try with_reducible rfl
                  try simp only [Act.put, List.setIfInBounds_toArray, List.set_cons_zero, List.set_cons_succ, Array.replicate]
                  refine wpAny_take (i := 23) (v := ?_) (by simp only [List.getElem?_toArray, List.getElem?_cons_zero, List.getElem?_cons_succ] <;> rfl) (by kernel_rfl) (by kernel_rfl) (by kernel_rfl) (by intro _ _ _ h; exact h) (Or.inl ⟨by rfl, ?_⟩) ?_
                  rotate_left
                  · intro w; go_simp; try with_reducible rfl
                  try simp only [Act.put, List.setIfInBounds_toArray, List.set_cons_zero, List.set_cons_succ, Array.replicate]
                  refine wpAny_take (i := 24) (v := ?_) (by simp only [List.getElem?_toArray, List.getElem?_cons_zero, List.getElem?_cons_succ] <;> rfl) (by kernel_rfl) (by kernel_rfl) (by kernel_rfl) (by intro _ _ _ h; exact h) (Or.inl ⟨by rfl, ?_⟩) ?_
                  rotate_left
                  · intro w; go_simp; try with_reducible rfl
                  try simp only [Act.put, List.setIfInBounds_toArray, List.set_cons_zero, List.set_cons_succ, Array.replicate]
                  refine wpAny_take (i := 25) (v := ?_) (by simp only [List.getElem?_toArray, List.getElem?_cons_zero, List.getElem?_cons_succ] <;> rfl) (by kernel_rfl) (by kernel_rfl) (by kernel_rfl) (by intro _ _ _ h; exact h) (Or.inl ⟨by rfl, ?_⟩) ?_
                  rotate_left
                  · intro w; go_simp; try with_reducible rfl
                  try simp only [Act.put, List.setIfInBounds_toArray, List.set_cons_zero, List.set_cons_succ, Array.replicate]
                  refine wpAny_take (i := 26) (v := ?_) (by simp only [List.getElem?_toArray, List.getElem?_cons_zero, List.getElem?_cons_succ] <;> rfl) (by kernel_rfl) (by kernel_rfl) (by kernel_rfl) (by intro _ _ _ h; exact h) (Or.inl ⟨by rfl, ?_⟩) ?_
                  rotate_left
                  · intro w; go_simp; try with_reducible rfl
                  try simp only [Act.put, List.setIfInBounds_toArray, List.set_cons_zero, List.set_cons_succ, Array.replicate]
                  refine wpAny_take (i := 27) (v := ?_) (by simp only [List.getElem?_toArray, List.getElem?_cons_zero, List.getElem?_cons_succ] <;> rfl) (by kernel_rfl) (by kernel_rfl) (by kernel_rfl) (by intro _ _ _ h; exact h) (Or.inl ⟨by rfl, ?_⟩) ?_
                  rotate_left
                  · intro w; go_simp; try with_reducible rfl
                  try simp only [Act.put, List.setIfInBounds_toArray, List.set_cons_zero, List.set_cons_succ, Array.replicate]
                  refine wpAny_ready (rs := [28]) (by kernel_rfl) (by simp) ?_
                  refine AllReady.cons (by simp only [List.getElem?_toArray, List.getElem?_cons_zero, List.getElem?_cons_succ] <;> rfl) (fun K hK => ?_) ?_
                  · go_simp; go_at_call 17; refine (reads_any p q S' R' 0 g0 TT2 _ hd6 hr6 hpq HSA.out hpp hqq (by have := hbw6.size; have := HG.out; omega) HBA.out hTTb HLA.out HLF.out).mono ?_; rintro e w7 ⟨rfl, hd7, hr7, hb7⟩; have hbw7 := hbw6.trans hb7; try go_simp
                    refine hK _ _ ?_
                    clear hK K
                    try simp only [Act.put, List.setIfInBounds_toArray, List.set_cons_zero, List.set_cons_succ, Array.replicate]
                    refine wpAny_take (i := 29) (v := ?_) (by simp only [List.getElem?_toArray, List.getElem?_cons_zero, List.getElem?_cons_succ] <;> rfl) (by kernel_rfl) (by kernel_rfl) (by kernel_rfl) (by intro _ _ _ h; exact h) (Or.inl ⟨by rfl, ?_⟩) ?_
                    rotate_left
                    · intro w; go_simp; try with_reducible rfl
                    try simp only [Act.put, List.setIfInBounds_toArray, List.set_cons_zero, List.set_cons_succ, Array.replicate]
                    refine wpAny_take (i := 30) (v := ?_) (by simp only [List.getElem?_toArray, List.getElem?_cons_zero, List.getElem?_cons_succ] <;> rfl) (by kernel_rfl) (by kernel_rfl) (by kernel_rfl) (by intro _ _ _ h; exact h) (Or.inl ⟨by rfl, ?_⟩) ?_
                    rotate_left
                    · intro w; go_simp; try with_reducible rfl
                    try simp only [Act.put, List.setIfInBounds_toArray, List.set_cons_zero, List.set_cons_succ, Array.replicate]
                    refine wpAny_take (i := 31) (v := ?_) (by simp only [List.getElem?_toArray, List.getElem?_cons_zero, List.getElem?_cons_succ] <;> rfl) (by kernel_rfl) (by kernel_rfl) (by kernel_rfl) (by intro _ _ _ h; exact h) (Or.inl ⟨by rfl, ?_⟩) ?_
                    rotate_left
                    · intro w; go_simp; try with_reducible rfl
                    try simp only [Act.put, List.setIfInBounds_toArray, List.set_cons_zero, List.set_cons_succ, Array.replicate]
                    refine wpAny_take (i := 32) (v := ?_) (by simp only [List.getElem?_toArray, List.getElem?_cons_zero, List.getElem?_cons_succ] <;> rfl) (by kernel_rfl) (by kernel_rfl) (by kernel_rfl) (by intro _ _ _ h; exact h) (Or.inl ⟨by rfl, ?_⟩) ?_
                    rotate_left
                    · intro w; go_simp; try with_reducible rfl
                    try simp only [Act.put, List.setIfInBounds_toArray, List.set_cons_zero, List.set_cons_succ, Array.replicate]
                    refine wpAny_take (i := 33) (v := ?_) (by simp only [List.getElem?_toArray, List.getElem?_cons_zero, List.getElem?_cons_succ] <;> rfl) (by kernel_rfl) (by kernel_rfl) (by kernel_rfl) (by intro _ _ _ h; exact h) (Or.inl ⟨by rfl, ?_⟩) ?_
                    rotate_left
                    · intro w; go_simp; try with_reducible rfl
                    try simp only [Act.put, List.setIfInBounds_toArray, List.set_cons_zero, List.set_cons_succ, Array.replicate]
                    refine wpAny_take (i := 34) (v := ?_) (by simp only [List.getElem?_toArray, List.getElem?_cons_zero, List.getElem?_cons_succ] <;> rfl) (by kernel_rfl) (by kernel_rfl) (by kernel_rfl) (by intro _ _ _ h; exact h) (Or.inl ⟨by rfl, ?_⟩) ?_
                    rotate_left
                    · intro w; go_simp; try with_reducible rfl
                    try simp only [Act.put, List.setIfInBounds_toArray, List.set_cons_zero, List.set_cons_succ, Array.replicate]
                    refine wpAny_ready (rs := [35]) (by kernel_rfl) (by simp) ?_
                    refine AllReady.cons (by simp only [List.getElem?_toArray, List.getElem?_cons_zero, List.getElem?_cons_succ] <;> rfl) (fun K hK => ?_) ?_
                    · go_simp; go_at_call 17; refine (reads_any p q S' R' 1 g0 TT2 _ hd7 hr7 hpq HSA.out hpp hqq (by have := hbw7.size; have := HG.out; omega) HBA.out hTTb HLA.out HLF.out).mono ?_; rintro e w8 ⟨rfl, hd8, hr8, hb8⟩; have hbw8 := hbw7.trans hb8; try go_simp
                      refine hK _ _ ?_
                      clear hK K
                      try simp only [Act.put, List.setIfInBounds_toArray, List.set_cons_zero, List.set_cons_succ, Array.replicate]
                      refine wpAny_take (i := 36) (v := ?_) (by simp only [List.getElem?_toArray, List.getElem?_cons_zero, List.getElem?_cons_succ] <;> rfl) (by kernel_rfl) (by kernel_rfl) (by kernel_rfl) (by intro _ _ _ h; exact h) (Or.inl ⟨by rfl, ?_⟩) ?_
                      rotate_left
                      · intro w; go_simp; try with_reducible rfl
                      try simp only [Act.put, List.setIfInBounds_toArray, List.set_cons_zero, List.set_cons_succ, Array.replicate]
                      refine wpAny_take (i := 37) (v := ?_) (by simp only [List.getElem?_toArray, List.getElem?_cons_zero, List.getElem?_cons_succ] <;> rfl) (by kernel_rfl) (by kernel_rfl) (by kernel_rfl) (by intro _ _ _ h; exact h) (Or.inl ⟨by rfl, ?_⟩) ?_
                      rotate_left
                      · intro w; go_simp; try with_reducible rfl
                      try simp only [Act.put, List.setIfInBounds_toArray, List.set_cons_zero, List.set_cons_succ, Array.replicate]
                      refine wpAny_done (by kernel_rfl) ?_ _
                      go_wp2_with fail
                      exact ⟨⟨j + 1, S', R', by omega, by go_num, by omega, hd8, hr8, HSA.out, by rw [hTT2e]; exact HBA.out, HLM2.out, HLN.out, hbw8⟩, by simp [intOf]; omega⟩
                    exact AllReady.nil
                  exact AllReady.nil
                exact AllReady.nil
              exact AllReady.nil
            exact AllReady.nil
          exact AllReady.nil
        exact AllReady.nil
      exact AllReady.nil
    · go_wp2_with (go_at_call 14; refine (lives14 _).mono ?_; rintro e w9 ⟨rfl, hb9⟩)
      go_ret
      have h9 := HB.out
      rw [← HG.out] at h9
      exact ⟨rfl, bthen h9 hb9 (Nat.le_refl _)⟩
    · have hjI : (j : Int) < (As.length : Int) := by omega
      have hj6I : ¬ (j : Int) < 100 := by omega
      go_wp2_with (go_at_call 14; refine (lives14 _).mono ?_; rintro e w9 ⟨rfl, hb9⟩)
      go_ret
      have h9 := HB.out
      rw [← HG.out] at h9
      exact ⟨rfl, bthen h9 hb9 (Nat.le_refl _)⟩
end Go.Proofs.Ytadmjhlcdoghpac
