/- The laws' opens. (printed by gen/wal17.py) -/
import Derived.Test.YtkghkpkiodghiaaTk
import Derived.Test.YtkghkpkiodghiaaWalN
namespace Go.Proofs.Ytkghkpkiodghiaa
set_option linter.unusedVariables false
set_option linter.unusedSimpArgs false
set_option linter.unnecessarySimpa false
open Go.RowKit
set_option maxRecDepth 100000
set_option maxHeartbeats 8000000

/-- The two logs: both are none, or both have one next number. -/
def Logs (w : World) (p q : Nat) (wv vv : Value) (x B0 : Nat) : Prop := (wv = .pointer none ∧ vv = .pointer none) ∨ ∃ a b n, wv = .pointer (some ⟨a, 0, none⟩) ∧ vv = .pointer (some ⟨b, 0, none⟩) ∧ WalR w a p n ∧ RWalR w b q n ∧ n ≤ x ∧ B0 ≤ a ∧ B0 ≤ b
theorem bthen' {B : Nat} {a b c : World} (h : Below B a b) (k : Below b.heap.size b c) (hB : B ≤ a.heap.size := by omega) : Below B a c := h.trans (k.mono (by have := h.size; omega))
theorem WalR.keep {w w' : World} {q p n : Nat} (h : WalR w q p n) (hb : Below w.heap.size w w') : WalR w' q p n := Row.keep h hb
theorem RWalR.keep {w w' : World} {q p n : Nat} (h : RWalR w q p n) (hb : Below w.heap.size w w') : RWalR w' q p n := Row.keep h hb
theorem Open_ok (p : Nat) (S : PD) (w : World) (hS : Dsk w p S) (hm : S.left ≤ 9223372036854775807) (h0l : S.n0.length ≤ 50000000) (h1l : S.n1.length ≤ 50000000) (hlim : -1000000000000 ≤ S.lim ∧ S.lim ≤ 1000000000000) (S' : PD) (hW : S.wopen = (S', 0)) (K : KD) (hK : keptOf S.n0 S.n1 = K) :
  Calls Try.prog 7 #[.pointer (some ⟨p, 0, none⟩)] w fun e w' => OpenYes w w' p e K.has K.sb K.R K.nx ∧ Dsk w' p S' ∧ Upd p w w' := by
 have h := Open_any p S w hS hm h0l h1l hlim
 rw [hW, hK] at h
 exact h.mono fun e w' ⟨h1, h2⟩ => ⟨h1.elim (fun x => x.2) (fun x => absurd rfl x.1), h2⟩
theorem Open_er (p : Nat) (S : PD) (w : World) (hS : Dsk w p S) (hm : S.left ≤ 9223372036854775807) (h0l : S.n0.length ≤ 50000000) (h1l : S.n1.length ≤ 50000000) (hlim : -1000000000000 ≤ S.lim ∧ S.lim ≤ 1000000000000) (S' : PD) (k : Nat) (hW : S.wopen = (S', k)) (hk : k ≠ 0) :
  Calls Try.prog 7 #[.pointer (some ⟨p, 0, none⟩)] w fun e w' => e = openNo k ∧ Dsk w' p S' ∧ Upd p w w' := by
 have h := Open_any p S w hS hm h0l h1l hlim
 rw [hW] at h
 exact h.mono fun e w' ⟨h1, h2⟩ => ⟨h1.elim (fun x => absurd x.1 hk) (fun x => x.2), h2⟩
theorem rOpen_ok (p : Nat) (S : RD) (T0 : Nat) (x : Int) (w : World) (hS : Rdk w p S) (hwi : Wi S T0 x) (hT0 : T0 ≤ 40000000) (hx : x ≤ 100000000000) (S' : RD) (hW : S.ropen = (S', 0)) (K : KD) (hK : keptOf (S.all 0) (S.all 1) = K) :
  Calls Try.prog 31 #[.pointer (some ⟨p, 0, none⟩)] w fun e w' => ROpenYes w w' p e K.has K.sb K.R K.nx ∧ Rdk w' p S' ∧ Upd p w w' := by
 have h := rOpen_any p S T0 x w hS hwi hT0 hx
 rw [hW, hK] at h
 exact h.mono fun e w' ⟨h1, h2⟩ => ⟨h1.elim (fun x => x.2) (fun x => absurd rfl x.1), h2⟩
theorem rOpen_er (p : Nat) (S : RD) (T0 : Nat) (x : Int) (w : World) (hS : Rdk w p S) (hwi : Wi S T0 x) (hT0 : T0 ≤ 40000000) (hx : x ≤ 100000000000) (S' : RD) (k : Nat) (hW : S.ropen = (S', k)) (hk : k ≠ 0) :
  Calls Try.prog 31 #[.pointer (some ⟨p, 0, none⟩)] w fun e w' => e = openNo k ∧ Rdk w' p S' ∧ Upd p w w' := by
 have h := rOpen_any p S T0 x w hS hwi hT0 hx
 rw [hW] at h
 exact h.mono fun e w' ⟨h1, h2⟩ => ⟨h1.elim (fun x => absurd x.1 hk) (fun x => x.2), h2⟩
/-- Behind both Opens: what there is when the pair has its two logs. -/
theorem opens_mid (h p q k2 B0 : Nat) (S : PD) (R : RD) (C2 : List Value) (w0 w2 : World) (pa pb va vb a b : Value) (hk2 : w2.heap.size = k2) (hr : Row w2 h 50 [pa, pb, va, vb]) (hD : Dsk w2 p S) (hR : Rdk w2 q R) (hhp : h ≠ p) (hhq : h ≠ q) (hb : Below B0 w0 w2) (hB : B0 ≤ h) (hB0 : B0 ≤ w0.heap.size) :
  Row (((w2.alloc (.cells C2.toArray 31)).setCell ⟨h, 2, none⟩ a).setCell ⟨h, 3, none⟩ b) h 50 [pa, pb, a, b] ∧ Dsk (((w2.alloc (.cells C2.toArray 31)).setCell ⟨h, 2, none⟩ a).setCell ⟨h, 3, none⟩ b) p S ∧ Rdk (((w2.alloc (.cells C2.toArray 31)).setCell ⟨h, 2, none⟩ a).setCell ⟨h, 3, none⟩ b) q R ∧ Upd h w2 (((w2.alloc (.cells C2.toArray 31)).setCell ⟨h, 2, none⟩ a).setCell ⟨h, 3, none⟩ b) ∧ Row (((w2.alloc (.cells C2.toArray 31)).setCell ⟨h, 2, none⟩ a).setCell ⟨h, 3, none⟩ b) k2 31 C2 ∧ Below B0 w0 (((w2.alloc (.cells C2.toArray 31)).setCell ⟨h, 2, none⟩ a).setCell ⟨h, 3, none⟩ b) := by
 have hlt := hr.lt
 have hba := balloc (Below.refl w2.heap.size w2) (.cells C2.toArray 31)
 have hu0 : Upd h (w2.alloc (.cells C2.toArray 31)) (((w2.alloc (.cells C2.toArray 31)).setCell ⟨h, 2, none⟩ a).setCell ⟨h, 3, none⟩ b) := (Upd.set h 2 _ a).trans (Upd.set h 3 _ b)
 have hu : Upd h w2 (((w2.alloc (.cells C2.toArray 31)).setCell ⟨h, 2, none⟩ a).setCell ⟨h, 3, none⟩ b) := (Upd.of_below hba).trans hu0
 refine ⟨Row.set (Row.set (Row.alloc hr _) 2 a) 3 b, hD.updO hr (by decide) hhp.symm hu, hR.updO hr (by decide) hhq.symm hu, hu, ?_, hb.trans (hu.below hB (by have := hb.size; omega))⟩
 rw [← hk2]
 exact hu0.row (Row.new w2 31 C2) (by omega)
theorem opens_any (h p q : Nat) (S : PD) (R : RD) (T0 : Nat) (x : Int) (B0 : Nat) (wv vv : Option Addr) (w : World) (hh : Row w h 50 [.pointer (some ⟨p, 0, none⟩), .pointer (some ⟨q, 0, none⟩), .pointer wv, .pointer vv]) (hS : Dsk w p S) (hR : Rdk w q R) (hsim : Sim S R) (hpq : p ≠ q) (hhp : h ≠ p) (hhq : h ≠ q) (hwi : Wi R T0 x) (hT0 : T0 ≤ 40000000) (hx : x ≤ 100000000000) (hB : B0 ≤ h ∧ B0 ≤ p ∧ B0 ≤ q) (hB0 : B0 ≤ w.heap.size) :
  Calls Try.prog 14 #[.pointer (some ⟨h, 0, none⟩)] w fun e w' => e = .returned (.bool true) ∧ ∃ wv' vv', Row w' h 50 [.pointer (some ⟨p, 0, none⟩), .pointer (some ⟨q, 0, none⟩), wv', vv'] ∧ Dsk w' p S.wopen.1 ∧ Rdk w' q R.ropen.1 ∧ Logs w' p q wv' vv' (keptOf S.n0 S.n1).nx B0 ∧ Below B0 w w' := by
 have hso := hsim.wopen
 have hm : S.left ≤ 9223372036854775807 := by
  have h1 := hwi.left
  rcases hsim.left with ⟨-, h2, -⟩ | ⟨-, h2⟩ <;> omega
 have h0l : S.n0.length ≤ 50000000 := by rw [hsim.n0]; have := hwi.bd.a0; omega
 have h1l : S.n1.length ≤ 50000000 := by rw [hsim.n1]; have := hwi.bd.a1; omega
 have hlim : -1000000000000 ≤ S.lim ∧ S.lim ≤ 1000000000000 := by rw [hsim.lim]; have := hwi.lim; omega
 have hK2 : keptOf (R.all 0) (R.all 1) = keptOf S.n0 S.n1 := by rw [hsim.n0, hsim.n1]
 rcases hw1 : S.wopen with ⟨S', k⟩
 rcases hw2 : R.ropen with ⟨R', k'⟩
 rw [hw1, hw2] at hso
 obtain ⟨hkk, -⟩ := hso
 dsimp only at hkk ⊢
 subst hkk
 generalize hK : keptOf S.n0 S.n1 = K at *
 have HW1 := Lib.hid hw1
 have HW2 := Lib.hid hw2
 have HK := Lib.hid hK
 have HK2 := Lib.hid hK2
 have HH := Lib.hid hh
 have HS := Lib.hid hS
 have HR := Lib.hid hR
 have HWI := Lib.hid hwi
 clear hw1 hw2 hK hK2 hh hS hR hwi hsim
 have c0 := Row.cell HH.out 0
 simp only [List.getElem?_cons_succ, List.getElem?_cons_zero] at c0
 have hhs := HH.out.lt
 have hps := HS.out.lt
 have hqs := HR.out.lt
 go_enter Try.func14, Try.ntmps14
 by_cases hk : k = 0
 ·subst hk
  obtain ⟨has, sb, n1, te, at_, RR, nx⟩ := K
  dsimp only
  go_upto_region 4 with (first
   | (go_at_call 31; go_loud (refine (rOpen_ok q R T0 x _ (HR1.out.keepB (balloc (Below.refl _ _) (.cells #[.bool has, .slice xs sb.length cs, .slice xr RR.length cr, .int .u64 (nx : Int)] 31))) HWI.out hT0 hx R' HW2.out _ HK2.out).mono ?_; rintro e w2 ⟨⟨q2, sv2, rv2, rfl, hq2, hs2, hr2, hl2⟩, hd2, hu2⟩; obtain ⟨ys, ds, rfl, -⟩ := hs2.sh.open; obtain ⟨yr, dr, rfl, -⟩ := hr2.bss.open; dsimp only at hq2 hs2 hr2; have hba := balloc (Below.refl w1.heap.size w1) (.cells #[.bool has, .slice xs sb.length cs, .slice xr RR.length cr, .int .u64 (nx : Int)] 31); have hrk := (HR1.out.keepB hba).rowC.choose_spec.1; have H2 := Lib.hid (hu2.row (H1.out.keep hba) hhq); have K2 := Lib.hid (hu2.row (Row.new w1 31 [.bool has, .slice xs sb.length cs, .slice xr RR.length cr, .int .u64 (nx : Int)]) (by omega)); have Q12 := Lib.hid (hu2.row (show Row _ q1 71 _ from Q1.out.keep hba) (by omega)); have SV12 := Lib.hid (hu2.own (SV1.out.below hba) hrk (by decide)); have RV12 := Lib.hid (hu2.bos (RV1.out.below hba) hrk (by decide) (by decide)); have D2 := Lib.hid ((D1.out.keepB hba).updO hrk (by decide) hpq hu2); have Q2 := Lib.hid hq2; have SV2 := Lib.hid hs2; have RV2 := Lib.hid hr2; have HRD2 := Lib.hid hd2; have U2 := Lib.hid hu2; have Z2 := Lib.hid hba.size; have d0 := fun o => Row.cell (Row.alloc (H2.out) o) 0; have d1 := fun o => Row.cell (Row.alloc (H2.out) o) 1; have d2 := fun o => Row.cell (Row.alloc (H2.out) o) 2; have d3 := fun o => Row.cell (Row.alloc (H2.out) o) 3; simp only [List.getElem?_cons_succ, List.getElem?_cons_zero] at d0 d1 d2 d3; have df0 := fun o => Row.frozen (Row.alloc (H2.out) o) 0; have df1 := fun o => Row.frozen (Row.alloc (H2.out) o) 1; have df2 := fun o => Row.frozen (Row.alloc (H2.out) o) 2; have df3 := fun o => Row.frozen (Row.alloc (H2.out) o) 3; clear hq2 hs2 hr2 hd2 hu2 hba hrk))
   | (go_at_call 7; go_loud (refine (Open_ok p S _ HS.out hm h0l h1l hlim S' HW1.out _ HK.out).mono ?_; rintro e w1 ⟨⟨q1, sv, rv, rfl, hq1, hs1, hr1, hl1⟩, hd1, hu1⟩; obtain ⟨xs, cs, rfl, -⟩ := hs1.sh.open; obtain ⟨xr, cr, rfl, -⟩ := hr1.bss.open; dsimp only at hq1 hs1 hr1; have H1 := Lib.hid (hu1.row HH.out hhp); have HR1 := Lib.hid (HR.out.upd HS.out (by omega) hu1); have Q1 := Lib.hid hq1; have SV1 := Lib.hid hs1; have RV1 := Lib.hid hr1; have D1 := Lib.hid hd1; have U1 := Lib.hid hu1; have hq1s := Q1.out.lt; have hs1s := U1.out.sizeLe; have d0 := fun o => Row.cell (Row.alloc (H1.out) o) 0; have d1 := fun o => Row.cell (Row.alloc (H1.out) o) 1; have d2 := fun o => Row.cell (Row.alloc (H1.out) o) 2; have d3 := fun o => Row.cell (Row.alloc (H1.out) o) 3; simp only [List.getElem?_cons_succ, List.getElem?_cons_zero] at d0 d1 d2 d3; clear hq1 hs1 hr1 hd1 hu1)))
  have hs2s := U2.out.sizeLe
  have HBW : Below B0 w w2 := ((U1.out.below hB.2.1 hB0).trans ((balloc (Below.refl w1.heap.size w1) (.cells #[.bool has, .slice xs sb.length cs, .slice xr RR.length cr, .int .u64 (nx : Int)] 31)).mono (by omega))).trans (U2.out.below hB.2.2 (by have := Z2.out; omega))
  have ZZ := opens_mid h p q w2.heap.size B0 S' R' [.bool has, .slice ys sb.length ds, .slice yr RR.length dr, .int .u64 (nx : Int)] w w2 _ _ _ _ (.pointer (some ⟨q1, 0, none⟩)) (.pointer (some ⟨q2, 0, none⟩)) rfl H2.out D2.out HRD2.out hhp hhq HBW hB.1 hB0
  obtain ⟨mr, md, mR, mu, mk2, mb⟩ := ZZ
  have mk1 := mu.row K2.out (by omega)
  have mq1 : WalR _ q1 p nx := mu.row Q12.out (by omega)
  have mq2 : RWalR _ q2 q nx := mu.row Q2.out (by have := Z2.out; omega)
  have ms1 := (mu.own SV12.out H2.out (by decide)).sh
  have mr1 := (mu.bos RV12.out H2.out (by decide) (by decide)).bss
  have ms2 := (mu.own SV2.out H2.out (by decide)).sh
  have mr2 := (mu.bos RV2.out H2.out (by decide) (by decide)).bss
  obtain ⟨W, hW⟩ : ∃ W, W = ((w2.alloc (.cells #[.bool has, .slice ys sb.length ds, .slice yr RR.length dr, .int .u64 (nx : Int)] 31)).setCell ⟨h, 2, none⟩ (.pointer (some ⟨q1, 0, none⟩))).setCell ⟨h, 3, none⟩ (.pointer (some ⟨q2, 0, none⟩)) := ⟨_, rfl⟩
  rw [← hW]
  rw [← hW] at mr md mR mu mk1 mk2 mb mq1 mq2 ms1 mr1 ms2 mr2
  clear hW
  have MR := Lib.hid mr
  have MD := Lib.hid md
  have MRD := Lib.hid mR
  have MK1 := Lib.hid mk1
  have MK2 := Lib.hid mk2
  have MB := Lib.hid mb
  have MQ1 := Lib.hid mq1
  have MQ2 := Lib.hid mq2
  have MS1 := Lib.hid ms1
  have MR1 := Lib.hid mr1
  have MS2 := Lib.hid ms2
  have MR2 := Lib.hid mr2
  clear mr md mR mu mk1 mk2 mb mq1 mq2 ms1 mr1 ms2 mr2 H1 HR1 D1 H2 K2 D2 HRD2 U1 U2 HBW Q1 SV1 RV1 Q12 SV12 RV12 Q2 SV2 RV2 
  refine wp_region_held_drew (S := fun w' => Below W.heap.size W w') (by kernel_rfl) (by exact (Below.refl _ _).drew) (fun hHeld => ?_)
  refine tH (i := 0) (v := ?_) (y := (Or.inl ⟨by rfl, ?_⟩)) (h := ?_)
  rotate_left
  ·intro w _; go_simp; try with_reducible rfl
  try simp only [Act.put, List.setIfInBounds_toArray, List.set_cons_zero, List.set_cons_succ, Array.replicate]
  refine tH (i := 1) (v := ?_) (y := (Or.inl ⟨by rfl, ?_⟩)) (h := ?_)
  rotate_left
  ·intro w _; go_simp; try with_reducible rfl
  try simp only [Act.put, List.setIfInBounds_toArray, List.set_cons_zero, List.set_cons_succ, Array.replicate]
  refine tH (i := 2) (v := ?_) (y := (Or.inl ⟨by rfl, ?_⟩)) (h := ?_)
  rotate_left
  ·intro w _; go_simp; try with_reducible rfl
  try simp only [Act.put, List.setIfInBounds_toArray, List.set_cons_zero, List.set_cons_succ, Array.replicate]
  refine tH (i := 3) (v := ?_) (y := (Or.inl ⟨by rfl, ?_⟩)) (h := ?_)
  rotate_left
  ·intro w _; go_simp; try with_reducible rfl
  try simp only [Act.put, List.setIfInBounds_toArray, List.set_cons_zero, List.set_cons_succ, Array.replicate]
  refine tH (i := 4) (v := ?_) (y := (Or.inl ⟨by rfl, ?_⟩)) (h := ?_)
  rotate_left
  ·intro w hSS; have e := Row.keep MK1.out hSS; have e0 := Row.cell e 0; have e1 := Row.cell e 1; have e2 := Row.cell e 2; have e3 := Row.cell e 3; simp only [List.getElem?_cons_succ, List.getElem?_cons_zero] at e0 e1 e2 e3; go_simp; try with_reducible rfl
  try simp only [Act.put, List.setIfInBounds_toArray, List.set_cons_zero, List.set_cons_succ, Array.replicate]
  refine tH (i := 5) (v := ?_) (y := (Or.inl ⟨by rfl, ?_⟩)) (h := ?_)
  rotate_left
  ·intro w hSS; have e := Row.keep MK2.out hSS; have e0 := Row.cell e 0; have e1 := Row.cell e 1; have e2 := Row.cell e 2; have e3 := Row.cell e 3; simp only [List.getElem?_cons_succ, List.getElem?_cons_zero] at e0 e1 e2 e3; go_simp; try with_reducible rfl
  try simp only [Act.put, List.setIfInBounds_toArray, List.set_cons_zero, List.set_cons_succ, Array.replicate]
  refine rH [6] (h := ?_)
  refine cH (h := fun K hK => ?_) (hs := ?_)
  ·go_simp; go_at_call 32; with_reducible refine (refSame15 has _ _ _ _ (nx : Int) sb RR _ (Sh.below MS1.out hHeld) (Sh.below MS2.out hHeld) (Bss.below MR1.out hHeld) (Bss.below MR2.out hHeld)).mono ?_; rintro e wq ⟨rfl, hbq⟩; try go_simp
   refine hK.out _ _ (by exact bstep hHeld hbq) (fun hHeld => ?_)
   clear hK K
   try simp only [Act.put, List.setIfInBounds_toArray, List.set_cons_zero, List.set_cons_succ, Array.replicate]
   refine tH (i := 7) (v := ?_) (y := (Or.inl ⟨by rfl, ?_⟩)) (h := ?_)
   rotate_left
   ·intro w _; go_simp; try with_reducible rfl
   try simp only [Act.put, List.setIfInBounds_toArray, List.set_cons_zero, List.set_cons_succ, Array.replicate]
   refine tH (i := 8) (v := ?_) (y := (Or.inl ⟨by rfl, ?_⟩)) (h := ?_)
   rotate_left
   ·intro w _; go_simp; try with_reducible rfl
   try simp only [Act.put, List.setIfInBounds_toArray, List.set_cons_zero, List.set_cons_succ, Array.replicate]
   refine tH (i := 9) (v := ?_) (y := (Or.inl ⟨by rfl, ?_⟩)) (h := ?_)
   rotate_left
   ·intro w _; go_simp; try with_reducible rfl
   try simp only [Act.put, List.setIfInBounds_toArray, List.set_cons_zero, List.set_cons_succ, Array.replicate]
   refine tH (i := 10) (v := ?_) (y := (Or.inl ⟨by rfl, ?_⟩)) (h := ?_)
   rotate_left
   ·intro w _; go_simp; try with_reducible rfl
   try simp only [Act.put, List.setIfInBounds_toArray, List.set_cons_zero, List.set_cons_succ, Array.replicate]
   refine tH (i := 11) (v := ?_) (y := (Or.inl ⟨by rfl, ?_⟩)) (h := ?_)
   rotate_left
   ·intro w _; go_simp; try with_reducible rfl
   try simp only [Act.put, List.setIfInBounds_toArray, List.set_cons_zero, List.set_cons_succ, Array.replicate]
   refine tH (i := 12) (v := ?_) (y := (Or.inl ⟨by rfl, ?_⟩)) (h := ?_)
   rotate_left
   ·intro w _; go_simp; try with_reducible rfl
   try simp only [Act.put, List.setIfInBounds_toArray, List.set_cons_zero, List.set_cons_succ, Array.replicate]
   refine tH (i := 13) (v := ?_) (y := (Or.inl ⟨by rfl, ?_⟩)) (h := ?_)
   rotate_left
   ·intro w _; go_simp; try with_reducible rfl
   try simp only [Act.put, List.setIfInBounds_toArray, List.set_cons_zero, List.set_cons_succ, Array.replicate]
   refine tH (i := 14) (v := ?_) (y := (Or.inl ⟨by rfl, ?_⟩)) (h := ?_)
   rotate_left
   ·intro w _; go_simp; try with_reducible rfl
   try simp only [Act.put, List.setIfInBounds_toArray, List.set_cons_zero, List.set_cons_succ, Array.replicate]
   refine tH (i := 15) (v := ?_) (y := (Or.inl ⟨by rfl, ?_⟩)) (h := ?_)
   rotate_left
   ·intro w _; go_simp; try with_reducible rfl
   try simp only [Act.put, List.setIfInBounds_toArray, List.set_cons_zero, List.set_cons_succ, Array.replicate]
   refine tH (i := 16) (v := ?_) (y := (Or.inl ⟨by rfl, ?_⟩)) (h := ?_)
   rotate_left
   ·intro w _; go_simp; try with_reducible rfl
   try simp only [Act.put, List.setIfInBounds_toArray, List.set_cons_zero, List.set_cons_succ, Array.replicate]
   refine tH (i := 17) (v := ?_) (y := (Or.inl ⟨by rfl, ?_⟩)) (h := ?_)
   rotate_left
   ·intro w _; go_simp; try with_reducible rfl
   try simp only [Act.put, List.setIfInBounds_toArray, List.set_cons_zero, List.set_cons_succ, Array.replicate]
   refine tH (i := 18) (v := ?_) (y := (Or.inl ⟨by rfl, ?_⟩)) (h := ?_)
   rotate_left
   ·intro w _; go_simp; try with_reducible rfl
   try simp only [Act.put, List.setIfInBounds_toArray, List.set_cons_zero, List.set_cons_succ, Array.replicate]
   refine tH (i := 19) (v := ?_) (y := (Or.inl ⟨by rfl, ?_⟩)) (h := ?_)
   rotate_left
   ·intro w _; go_simp; try with_reducible rfl
   try simp only [Act.put, List.setIfInBounds_toArray, List.set_cons_zero, List.set_cons_succ, Array.replicate]
   refine tH (i := 21) (v := ?_) (y := (Or.inl ⟨by rfl, ?_⟩)) (h := ?_)
   rotate_left
   ·intro w _; go_simp; try with_reducible rfl
   try simp only [Act.put, List.setIfInBounds_toArray, List.set_cons_zero, List.set_cons_succ, Array.replicate]
   refine tH (i := 22) (v := ?_) (y := (Or.inl ⟨by rfl, ?_⟩)) (h := ?_)
   rotate_left
   ·intro w _; go_simp; try with_reducible rfl
   try simp only [Act.put, List.setIfInBounds_toArray, List.set_cons_zero, List.set_cons_succ, Array.replicate]
   refine tH (i := 23) (v := ?_) (y := (Or.inl ⟨by rfl, ?_⟩)) (h := ?_)
   rotate_left
   ·intro w _; go_simp; try with_reducible rfl
   try simp only [Act.put, List.setIfInBounds_toArray, List.set_cons_zero, List.set_cons_succ, Array.replicate]
   refine tH (i := 24) (v := ?_) (y := (Or.inl ⟨by rfl, ?_⟩)) (h := ?_)
   rotate_left
   ·intro w hSS; have e := Row.keep (show Row _ q2 83 _ from MQ2.out) hSS; have e1 := Row.cell e 1; simp only [List.getElem?_cons_succ, List.getElem?_cons_zero] at e1; go_simp; try with_reducible rfl
   try simp only [Act.put, List.setIfInBounds_toArray, List.set_cons_zero, List.set_cons_succ, Array.replicate]
   refine rH [20] (h := ?_)
   refine cH (h := fun K hK => ?_) (hs := ?_)
   ·go_simp; go_at_call 30; with_reducible refine (Next_any q1 p nx _ (WalR.keep MQ1.out hHeld)).mono ?_; rintro e wn ⟨rfl, rfl⟩; try go_simp
    refine hK.out _ _ (by exact hHeld) (fun hHeld => ?_)
    clear hK K
    try simp only [Act.put, List.setIfInBounds_toArray, List.set_cons_zero, List.set_cons_succ, Array.replicate]
    refine tH (i := 25) (v := ?_) (y := (Or.inl ⟨by rfl, ?_⟩)) (h := ?_)
    rotate_left
    ·intro w _; go_simp; try with_reducible rfl
    try simp only [Act.put, List.setIfInBounds_toArray, List.set_cons_zero, List.set_cons_succ, Array.replicate]
    refine tH (i := 26) (v := ?_) (y := (Or.inl ⟨by rfl, ?_⟩)) (h := ?_)
    rotate_left
    ·intro w _; go_simp; try with_reducible rfl
    try simp only [Act.put, List.setIfInBounds_toArray, List.set_cons_zero, List.set_cons_succ, Array.replicate]
    refine tH (i := 27) (v := ?_) (y := (Or.inl ⟨by rfl, ?_⟩)) (h := ?_)
    rotate_left
    ·intro w _; go_simp; try with_reducible rfl
    try simp only [Act.put, List.setIfInBounds_toArray, List.set_cons_zero, List.set_cons_succ, Array.replicate]
    refine tH (i := 28) (v := ?_) (y := (Or.inl ⟨by rfl, ?_⟩)) (h := ?_)
    rotate_left
    ·intro w _; go_simp; try with_reducible rfl
    try simp only [Act.put, List.setIfInBounds_toArray, List.set_cons_zero, List.set_cons_succ, Array.replicate]
    refine wpAnyH_done (by kernel_rfl) ?_ _
    go_wp2_with fail
    go_ret
    exact ⟨rfl, _, _, Row.keep MR.out hHeld, Dsk.keepB MD.out hHeld, Rdk.keepB MRD.out hHeld, .inr ⟨_, _, _, rfl, rfl, WalR.keep MQ1.out hHeld, RWalR.keep MQ2.out hHeld, Nat.le_refl _, by omega, by have := Z2.out; omega⟩, bthen' MB.out hHeld⟩
   exact AllReadyH.nil
  exact AllReadyH.nil
 ·have hs0 : True := trivial
  go_upto_region 4 with (first
   | (go_at_call 31; go_loud (refine (rOpen_er q R T0 x _ (HR1.out.keepB (balloc (Below.refl _ _) (.cells #[.bool false, .slice none 0 0, .slice none 0 0, .int .u64 0] 31))) HWI.out hT0 hx R' k HW2.out hk).mono ?_; rintro e w2 ⟨rfl, hd2, hu2⟩; have hba := balloc (Below.refl w1.heap.size w1) (.cells #[.bool false, .slice none 0 0, .slice none 0 0, .int .u64 0] 31); have hrk := (HR1.out.keepB hba).rowC.choose_spec.1; have H2 := Lib.hid (hu2.row (H1.out.keep hba) hhq); have K2 := Lib.hid (hu2.row (Row.new w1 31 [.bool false, .slice none 0 0, .slice none 0 0, .int .u64 0]) (by omega)); have D2 := Lib.hid ((D1.out.keepB hba).updO hrk (by decide) hpq hu2); have HRD2 := Lib.hid hd2; have U2 := Lib.hid hu2; have Z2 := Lib.hid hba.size; have d0 := fun o => Row.cell (Row.alloc (H2.out) o) 0; have d1 := fun o => Row.cell (Row.alloc (H2.out) o) 1; have d2 := fun o => Row.cell (Row.alloc (H2.out) o) 2; have d3 := fun o => Row.cell (Row.alloc (H2.out) o) 3; simp only [List.getElem?_cons_succ, List.getElem?_cons_zero] at d0 d1 d2 d3; have df0 := fun o => Row.frozen (Row.alloc (H2.out) o) 0; have df1 := fun o => Row.frozen (Row.alloc (H2.out) o) 1; have df2 := fun o => Row.frozen (Row.alloc (H2.out) o) 2; have df3 := fun o => Row.frozen (Row.alloc (H2.out) o) 3; unfold openNo; clear hd2 hu2 hba hrk))
   | (go_at_call 7; go_loud (refine (Open_er p S _ HS.out hm h0l h1l hlim S' k HW1.out hk).mono ?_; rintro e w1 ⟨rfl, hd1, hu1⟩; have H1 := Lib.hid (hu1.row HH.out hhp); have HR1 := Lib.hid (HR.out.upd HS.out (by omega) hu1); have D1 := Lib.hid hd1; have U1 := Lib.hid hu1; have hs1s := U1.out.sizeLe; have d0 := fun o => Row.cell (Row.alloc (H1.out) o) 0; have d1 := fun o => Row.cell (Row.alloc (H1.out) o) 1; have d2 := fun o => Row.cell (Row.alloc (H1.out) o) 2; have d3 := fun o => Row.cell (Row.alloc (H1.out) o) 3; simp only [List.getElem?_cons_succ, List.getElem?_cons_zero] at d0 d1 d2 d3; unfold openNo; clear hd1 hu1)))
  have hs2s := U2.out.sizeLe
  have HBW : Below B0 w w2 := ((U1.out.below hB.2.1 hB0).trans ((balloc (Below.refl w1.heap.size w1) (.cells #[.bool false, .slice none 0 0, .slice none 0 0, .int .u64 0] 31)).mono (by omega))).trans (U2.out.below hB.2.2 (by have := Z2.out; omega))
  have ZZ := opens_mid h p q w2.heap.size B0 S' R' [.bool false, .slice none 0 0, .slice none 0 0, .int .u64 0] w w2 _ _ _ _ (.pointer none) (.pointer none) rfl H2.out D2.out HRD2.out hhp hhq HBW hB.1 hB0
  obtain ⟨mr, md, mR, mu, mk2, mb⟩ := ZZ
  have mk1 := mu.row K2.out (by omega)
  obtain ⟨W, hW⟩ : ∃ W, W = ((w2.alloc (.cells #[.bool false, .slice none 0 0, .slice none 0 0, .int .u64 0] 31)).setCell ⟨h, 2, none⟩ (.pointer none)).setCell ⟨h, 3, none⟩ (.pointer none) := ⟨_, rfl⟩
  rw [← hW]
  rw [← hW] at mr md mR mu mk1 mk2 mb
  clear hW
  have MR := Lib.hid mr
  have MD := Lib.hid md
  have MRD := Lib.hid mR
  have MK1 := Lib.hid mk1
  have MK2 := Lib.hid mk2
  have MB := Lib.hid mb
  clear mr md mR mu mk1 mk2 mb H1 HR1 D1 H2 K2 D2 HRD2 U1 U2 HBW
  refine wp_region_held_drew (S := fun w' => Below W.heap.size W w') (by kernel_rfl) (by exact (Below.refl _ _).drew) (fun hHeld => ?_)
  refine tH (i := 0) (v := ?_) (y := (Or.inl ⟨by rfl, ?_⟩)) (h := ?_)
  rotate_left
  ·intro w _; go_simp; try with_reducible rfl
  try simp only [Act.put, List.setIfInBounds_toArray, List.set_cons_zero, List.set_cons_succ, Array.replicate]
  refine tH (i := 1) (v := ?_) (y := (Or.inl ⟨by rfl, ?_⟩)) (h := ?_)
  rotate_left
  ·intro w _; go_simp; try with_reducible rfl
  try simp only [Act.put, List.setIfInBounds_toArray, List.set_cons_zero, List.set_cons_succ, Array.replicate]
  refine tH (i := 2) (v := ?_) (y := (Or.inl ⟨by rfl, ?_⟩)) (h := ?_)
  rotate_left
  ·intro w _; go_simp; try with_reducible rfl
  try simp only [Act.put, List.setIfInBounds_toArray, List.set_cons_zero, List.set_cons_succ, Array.replicate]
  refine tH (i := 3) (v := ?_) (y := (Or.inl ⟨by rfl, ?_⟩)) (h := ?_)
  rotate_left
  ·intro w _; go_simp; try with_reducible rfl
  try simp only [Act.put, List.setIfInBounds_toArray, List.set_cons_zero, List.set_cons_succ, Array.replicate]
  refine tH (i := 4) (v := ?_) (y := (Or.inl ⟨by rfl, ?_⟩)) (h := ?_)
  rotate_left
  ·intro w hSS; have e := Row.keep MK1.out hSS; have e0 := Row.cell e 0; have e1 := Row.cell e 1; have e2 := Row.cell e 2; have e3 := Row.cell e 3; simp only [List.getElem?_cons_succ, List.getElem?_cons_zero] at e0 e1 e2 e3; go_simp; try with_reducible rfl
  try simp only [Act.put, List.setIfInBounds_toArray, List.set_cons_zero, List.set_cons_succ, Array.replicate]
  refine tH (i := 5) (v := ?_) (y := (Or.inl ⟨by rfl, ?_⟩)) (h := ?_)
  rotate_left
  ·intro w hSS; have e := Row.keep MK2.out hSS; have e0 := Row.cell e 0; have e1 := Row.cell e 1; have e2 := Row.cell e 2; have e3 := Row.cell e 3; simp only [List.getElem?_cons_succ, List.getElem?_cons_zero] at e0 e1 e2 e3; go_simp; try with_reducible rfl
  try simp only [Act.put, List.setIfInBounds_toArray, List.set_cons_zero, List.set_cons_succ, Array.replicate]
  refine rH [6] (h := ?_)
  refine cH (h := fun K hK => ?_) (hs := ?_)
  ·go_simp; go_at_call 32; with_reducible refine (refSame15 false _ _ _ _ 0 [] [] _ (Sh.nil _) (Sh.nil _) (BOs.nil _ 0).bss (BOs.nil _ 0).bss).mono ?_; rintro e wq ⟨rfl, hbq⟩; try go_simp
   refine hK.out _ _ (by exact bstep hHeld hbq) (fun hHeld => ?_)
   clear hK K
   try simp only [Act.put, List.setIfInBounds_toArray, List.set_cons_zero, List.set_cons_succ, Array.replicate]
   refine tH (i := 7) (v := ?_) (y := (Or.inl ⟨by rfl, ?_⟩)) (h := ?_)
   rotate_left
   ·intro w _; go_simp; try with_reducible rfl
   try simp only [Act.put, List.setIfInBounds_toArray, List.set_cons_zero, List.set_cons_succ, Array.replicate]
   refine tH (i := 8) (v := ?_) (y := (Or.inl ⟨by rfl, ?_⟩)) (h := ?_)
   rotate_left
   ·intro w _; go_simp; try with_reducible rfl
   try simp only [Act.put, List.setIfInBounds_toArray, List.set_cons_zero, List.set_cons_succ, Array.replicate]
   refine tH (i := 9) (v := ?_) (y := (Or.inl ⟨by rfl, ?_⟩)) (h := ?_)
   rotate_left
   ·intro w _; go_simp; try with_reducible rfl
   try simp only [Act.put, List.setIfInBounds_toArray, List.set_cons_zero, List.set_cons_succ, Array.replicate]
   refine tH (i := 10) (v := ?_) (y := (Or.inl ⟨by rfl, ?_⟩)) (h := ?_)
   rotate_left
   ·intro w _; go_simp; try with_reducible rfl
   try simp only [Act.put, List.setIfInBounds_toArray, List.set_cons_zero, List.set_cons_succ, Array.replicate]
   refine tH (i := 11) (v := ?_) (y := (Or.inl ⟨by rfl, ?_⟩)) (h := ?_)
   rotate_left
   ·intro w _; go_simp; try with_reducible rfl
   try simp only [Act.put, List.setIfInBounds_toArray, List.set_cons_zero, List.set_cons_succ, Array.replicate]
   refine tH (i := 12) (v := ?_) (y := (Or.inl ⟨by rfl, ?_⟩)) (h := ?_)
   rotate_left
   ·intro w _; go_simp; try with_reducible rfl
   try simp only [Act.put, List.setIfInBounds_toArray, List.set_cons_zero, List.set_cons_succ, Array.replicate]
   refine tH (i := 13) (v := ?_) (y := (Or.inl ⟨by rfl, ?_⟩)) (h := ?_)
   rotate_left
   ·intro w _; go_simp; try with_reducible rfl
   try simp only [Act.put, List.setIfInBounds_toArray, List.set_cons_zero, List.set_cons_succ, Array.replicate]
   refine tH (i := 14) (v := ?_) (y := (Or.inl ⟨by rfl, ?_⟩)) (h := ?_)
   rotate_left
   ·intro w _; go_simp; try with_reducible rfl
   try simp only [Act.put, List.setIfInBounds_toArray, List.set_cons_zero, List.set_cons_succ, Array.replicate]
   refine tH (i := 15) (v := ?_) (y := (Or.inl ⟨by rfl, ?_⟩)) (h := ?_)
   rotate_left
   ·intro w _; go_simp; try with_reducible rfl
   try simp only [Act.put, List.setIfInBounds_toArray, List.set_cons_zero, List.set_cons_succ, Array.replicate]
   refine tH (i := 16) (v := ?_) (y := (Or.inl ⟨by rfl, ?_⟩)) (h := ?_)
   rotate_left
   ·intro w _; go_simp; try with_reducible rfl
   try simp only [Act.put, List.setIfInBounds_toArray, List.set_cons_zero, List.set_cons_succ, Array.replicate]
   refine tH (i := 17) (v := ?_) (y := (Or.inl ⟨by rfl, ?_⟩)) (h := ?_)
   rotate_left
   ·intro w _; go_simp; try with_reducible rfl
   try simp only [Act.put, List.setIfInBounds_toArray, List.set_cons_zero, List.set_cons_succ, Array.replicate]
   refine tH (i := 18) (v := ?_) (y := (Or.inl ⟨by rfl, ?_⟩)) (h := ?_)
   rotate_left
   ·intro w _; go_simp; try with_reducible rfl
   try simp only [Act.put, List.setIfInBounds_toArray, List.set_cons_zero, List.set_cons_succ, Array.replicate]
   refine tH (i := 19) (v := undef) (y := (Or.inr ⟨by rfl, rfl⟩)) (h := ?_)
   try simp only [Act.put, List.setIfInBounds_toArray, List.set_cons_zero, List.set_cons_succ, Array.replicate]
   refine tH (i := 20) (v := undef) (y := (Or.inr ⟨by rfl, rfl⟩)) (h := ?_)
   try simp only [Act.put, List.setIfInBounds_toArray, List.set_cons_zero, List.set_cons_succ, Array.replicate]
   refine tH (i := 21) (v := undef) (y := (Or.inr ⟨by rfl, rfl⟩)) (h := ?_)
   try simp only [Act.put, List.setIfInBounds_toArray, List.set_cons_zero, List.set_cons_succ, Array.replicate]
   refine tH (i := 22) (v := undef) (y := (Or.inr ⟨by rfl, rfl⟩)) (h := ?_)
   try simp only [Act.put, List.setIfInBounds_toArray, List.set_cons_zero, List.set_cons_succ, Array.replicate]
   refine tH (i := 23) (v := undef) (y := (Or.inr ⟨by rfl, rfl⟩)) (h := ?_)
   try simp only [Act.put, List.setIfInBounds_toArray, List.set_cons_zero, List.set_cons_succ, Array.replicate]
   refine tH (i := 24) (v := undef) (y := (Or.inr ⟨by rfl, rfl⟩)) (h := ?_)
   try simp only [Act.put, List.setIfInBounds_toArray, List.set_cons_zero, List.set_cons_succ, Array.replicate]
   refine tH (i := 25) (v := undef) (y := (Or.inr ⟨by rfl, rfl⟩)) (h := ?_)
   try simp only [Act.put, List.setIfInBounds_toArray, List.set_cons_zero, List.set_cons_succ, Array.replicate]
   refine tH (i := 26) (v := ?_) (y := (Or.inl ⟨by rfl, ?_⟩)) (h := ?_)
   rotate_left
   ·intro w _; go_simp; try with_reducible rfl
   try simp only [Act.put, List.setIfInBounds_toArray, List.set_cons_zero, List.set_cons_succ, Array.replicate]
   refine tH (i := 27) (v := ?_) (y := (Or.inl ⟨by rfl, ?_⟩)) (h := ?_)
   rotate_left
   ·intro w _; go_simp; try with_reducible rfl
   try simp only [Act.put, List.setIfInBounds_toArray, List.set_cons_zero, List.set_cons_succ, Array.replicate]
   refine tH (i := 28) (v := ?_) (y := (Or.inl ⟨by rfl, ?_⟩)) (h := ?_)
   rotate_left
   ·intro w _; go_simp; try with_reducible rfl
   try simp only [Act.put, List.setIfInBounds_toArray, List.set_cons_zero, List.set_cons_succ, Array.replicate]
   refine wpAnyH_done (by kernel_rfl) ?_ _
   go_wp2_with fail
   go_ret
   exact ⟨rfl, _, _, Row.keep MR.out hHeld, Dsk.keepB MD.out hHeld, Rdk.keepB MRD.out hHeld, .inl ⟨rfl, rfl⟩, bthen' MB.out hHeld⟩
  exact AllReadyH.nil
end Go.Proofs.Ytkghkpkiodghiaa
