/- A log's Append. -/
import Derived.Test.YtkghkpkiodghiaaTk
import Derived.Test.YtkghkpkiodghiaaWal2
namespace Go.Proofs.Ytkghkpkiodghiaa
set_option linter.unusedVariables false
set_option linter.unusedSimpArgs false
set_option linter.unnecessarySimpa false
open Go.RowKit
set_option maxRecDepth 100000
set_option maxHeartbeats 4000000

theorem Dsk.rowC {w : World} {p : Nat} {S : PD} (hS : Dsk w p S) : ∃ C, Row w p 64 C := by
 obtain ⟨xa, ka, xb, kb, xc, kc, xd, kd, hR, -⟩ := hS
 exact ⟨_, hR⟩
theorem Dsk.updO {w w' : World} {p q t : Nat} {C : List Value} {S : PD} (hS : Dsk w p S) (hr : Row w q t C) (ht : 5 ≠ t) (hpq : p ≠ q) (hu : Upd q w w') : Dsk w' p S := by
 obtain ⟨xa, ka, xb, kb, xc, kc, xd, kd, hR, oa, ob, oc, od⟩ := hS
 exact ⟨xa, ka, xb, kb, xc, kc, xd, kd, hu.row hR hpq, hu.own oa hr ht, hu.own ob hr ht, hu.own oc hr ht, hu.own od hr ht⟩
theorem Dsk.keepB {w w' : World} {p : Nat} {S : PD} (hS : Dsk w p S) (hb : Below w.heap.size w w') : Dsk w' p S := by
 obtain ⟨xa, ka, xb, kb, xc, kc, xd, kd, hR, oa, ob, oc, od⟩ := hS
 exact ⟨xa, ka, xb, kb, xc, kc, xd, kd, hR.keep hb, oa.below hb, ob.below hb, oc.below hb, od.below hb⟩
/-- A record is put behind: the disk, the next number, the error. -/
def PD.wapp (S : PD) (n : Nat) (b : List UInt8) : PD × Nat × Nat :=
 if (S.write 0 (frameB (enc n ++ b))).2 ≠ 0 then ((S.write 0 (frameB (enc n ++ b))).1, n, (S.write 0 (frameB (enc n ++ b))).2)
 else if ((S.write 0 (frameB (enc n ++ b))).1.sync 0).2 ≠ 0 then (((S.write 0 (frameB (enc n ++ b))).1.sync 0).1, n, ((S.write 0 (frameB (enc n ++ b))).1.sync 0).2)
 else (((S.write 0 (frameB (enc n ++ b))).1.sync 0).1, n + 1, 0)
theorem leftC_le (x : Int) : leftC x ≤ x := by unfold leftC; split <;> omega
theorem write_bd (S : PD) (n : Int) (b : List UInt8) : (S.write n b).1.lim = S.lim ∧ (S.write n b).1.left ≤ S.left ∧ (S.write n b).1.n0.length + (S.write n b).1.n1.length ≤ S.n0.length + S.n1.length + b.length := by
 have hl := leftC_le S.left
 unfold PD.write
 split
 ·exact ⟨rfl, Int.le_refl _, Nat.le_add_right _ _⟩
 ·split
  ·exact ⟨rfl, hl, Nat.le_add_right _ _⟩
  ·split
   ·exact ⟨rfl, hl, Nat.le_add_right _ _⟩
   ·split
    ·refine ⟨rfl, hl, ?_⟩
     simp [PD.tick]; omega
    ·refine ⟨rfl, hl, ?_⟩
     simp [PD.tick]; omega
theorem Append_any (q p n : Nat) (vb : Value) (b : List UInt8) (S : PD) (w : World) (hq : WalR w q p n) (hS : Dsk w p S) (hb : Sh w vb b) (hn : n < 4611686018427387903) (hl : b.length ≤ 1000000) (hpq : p ≠ q) (hm : S.left ≤ 9223372036854775807) (ht : S.n0.length + S.n1.length ≤ 10000000000) (hlim : -1000000000000 ≤ S.lim ∧ S.lim ≤ 1000000000000) :
  Calls Try.prog 8 #[.pointer (some ⟨q, 0, none⟩), vb] w fun e w' => e = .returned (.int .i64 ((S.wapp n b).2.2 : Int)) ∧ Dsk w' p (S.wapp n b).1 ∧ WalR w' q p (S.wapp n b).2.1 ∧ Upd2 p q w w' := by
 have hbd := write_bd S 0 (frameB (enc n ++ b))
 have hel := enc_length n (by omega)
 have hns := nsize_le n
 have hfl := frameB_length (enc n ++ b) (by rw [List.length_append]; omega)
 have hns2 := nsize_le (enc n ++ b).length
 have hfb : (frameB (enc n ++ b)).length ≤ 2000000 := by rw [hfl, List.length_append]; rw [List.length_append] at hns2; omega
 unfold PD.wapp
 clear hel hns hfl hns2
 rcases hw : S.write 0 (frameB (enc n ++ b)) with ⟨S1, e1⟩
 rcases hs : S1.sync 0 with ⟨S2, e2⟩
 rw [hw] at hbd
 obtain ⟨b1, b2, b3⟩ := hbd
 dsimp only at b1 b2 b3
 have HM := Lib.hid hm
 have HT := Lib.hid ht
 have HLIM := Lib.hid hlim
 have HQ := Lib.hid hq
 have HS := Lib.hid hS
 have HB := Lib.hid hb
 have HW := Lib.hid hw
 have HSY := Lib.hid hs
 have HB1 := Lib.hid b1
 have HB2 := Lib.hid b2
 have HB3 := Lib.hid b3
 have HFB := Lib.hid hfb
 have HPQ := Lib.hid hpq
 clear hq hS hb hw hs b1 b2 b3 hm ht hlim hfb hpq
 have h0 := Row.cell HQ.out 0
 simp only [List.getElem?_cons_succ, List.getElem?_cons_zero] at h0
 go_enter Try.func8, Try.ntmps8
 by_cases he1 : e1 = 0
 ·subst he1
  rw [if_neg (by simp)]
  by_cases he2 : e2 = 0
  ·subst he2
   rw [if_neg (by simp)]
   have hwn : IntKind.u64.wrap ((n : Int) + 1) = ((n + 1 : Nat) : Int) := by rw [IntWalk.u64_in _ ⟨by omega, by omega⟩]; omega
   go_wp2_with (first
    | (go_at_call 27; refine (framed_any q p n _ b _ HQ.out HB.out (by omega) hl).mono ?_; rintro e w3 ⟨v3, rfl, ho3, hb3⟩; have R3 := Lib.hid (show WalR w3 q p n from HQ.out.keep hb3); have h03 := Row.cell R3.out 0; simp only [List.getElem?_cons_succ, List.getElem?_cons_zero] at h03; have O3 := Lib.hid ho3; have B3 := Lib.hid hb3; have D3 := Lib.hid (HS.out.keepB hb3); clear ho3 hb3)
    | (go_at_call 28; refine (Write_any p 0 _ (frameB (enc n ++ b)) S _ D3.out (fun w' hu => (hu.own O3.out D3.out.rowC.choose_spec (by decide)).sh) HM.out (by have := HT.out; omega) (by have := HFB.out; omega) HLIM.out).mono ?_; rw [HW.out]; rintro e w4 ⟨rfl, hd4, hu4⟩; have R4 := Lib.hid (show WalR w4 q p n from hu4.row R3.out HPQ.out.symm); have h04 := Row.cell R4.out 0; simp only [List.getElem?_cons_succ, List.getElem?_cons_zero] at h04; have D4 := Lib.hid hd4; have U4 := Lib.hid hu4; clear hd4 hu4)
    | (go_at_call 26; refine (Sync_any p 0 S1 _ D4.out (by have := HB2.out; have := HM.out; omega) (by have := HT.out; have := HB3.out; have := HFB.out; omega) (by rw [HB1.out]; exact HLIM.out)).mono ?_; rw [HSY.out]; rintro e w5 ⟨rfl, hd5, hu5⟩; have R5 := Lib.hid (show WalR w5 q p n from hu5.row R4.out HPQ.out.symm); have h15 := Row.cell R5.out 1; have hf5 := Row.frozen R5.out 1; simp only [List.getElem?_cons_succ, List.getElem?_cons_zero] at h15; have D5 := Lib.hid hd5; have U5 := Lib.hid hu5; clear hd5 hu5))
   go_ret
   have U6 : Upd q w5 (w5.setCell ⟨q, 1, none⟩ (.int .u64 ((n + 1 : Nat) : Int))) := Upd.set q 1 w5 _
   exact ⟨rfl, D5.out.updO R5.out (by decide) HPQ.out U6, Row.set R5.out 1 _, w5, ((Upd.of_below B3.out).trans U4.out).trans U5.out, U6⟩
  ·have he2I : ¬ (e2 : Int) = 0 := by omega
   rw [if_pos (by simpa using he2)]
   clear he2
   go_wp2_with (first
    | (go_at_call 27; refine (framed_any q p n _ b _ HQ.out HB.out (by omega) hl).mono ?_; rintro e w3 ⟨v3, rfl, ho3, hb3⟩; have R3 := Lib.hid (show WalR w3 q p n from HQ.out.keep hb3); have h03 := Row.cell R3.out 0; simp only [List.getElem?_cons_succ, List.getElem?_cons_zero] at h03; have O3 := Lib.hid ho3; have B3 := Lib.hid hb3; have D3 := Lib.hid (HS.out.keepB hb3); clear ho3 hb3)
    | (go_at_call 28; refine (Write_any p 0 _ (frameB (enc n ++ b)) S _ D3.out (fun w' hu => (hu.own O3.out D3.out.rowC.choose_spec (by decide)).sh) HM.out (by have := HT.out; omega) (by have := HFB.out; omega) HLIM.out).mono ?_; rw [HW.out]; rintro e w4 ⟨rfl, hd4, hu4⟩; have R4 := Lib.hid (show WalR w4 q p n from hu4.row R3.out HPQ.out.symm); have h04 := Row.cell R4.out 0; simp only [List.getElem?_cons_succ, List.getElem?_cons_zero] at h04; have D4 := Lib.hid hd4; have U4 := Lib.hid hu4; clear hd4 hu4)
    | (go_at_call 26; refine (Sync_any p 0 S1 _ D4.out (by have := HB2.out; have := HM.out; omega) (by have := HT.out; have := HB3.out; have := HFB.out; omega) (by rw [HB1.out]; exact HLIM.out)).mono ?_; rw [HSY.out]; rintro e w5 ⟨rfl, hd5, hu5⟩; have R5 := Lib.hid (show WalR w5 q p n from hu5.row R4.out HPQ.out.symm); have h15 := Row.cell R5.out 1; have hf5 := Row.frozen R5.out 1; simp only [List.getElem?_cons_succ, List.getElem?_cons_zero] at h15; have D5 := Lib.hid hd5; have U5 := Lib.hid hu5; clear hd5 hu5))
   go_ret
   exact ⟨rfl, D5.out, R5.out, w5, ((Upd.of_below B3.out).trans U4.out).trans U5.out, Upd.refl _ _⟩
 ·have he1I : ¬ (e1 : Int) = 0 := by omega
  rw [if_pos (by simpa using he1)]
  clear he1
  go_wp2_with (first
   | (go_at_call 27; refine (framed_any q p n _ b _ HQ.out HB.out (by omega) hl).mono ?_; rintro e w3 ⟨v3, rfl, ho3, hb3⟩; have R3 := Lib.hid (show WalR w3 q p n from HQ.out.keep hb3); have h03 := Row.cell R3.out 0; simp only [List.getElem?_cons_succ, List.getElem?_cons_zero] at h03; have O3 := Lib.hid ho3; have B3 := Lib.hid hb3; have D3 := Lib.hid (HS.out.keepB hb3); clear ho3 hb3)
   | (go_at_call 28; refine (Write_any p 0 _ (frameB (enc n ++ b)) S _ D3.out (fun w' hu => (hu.own O3.out D3.out.rowC.choose_spec (by decide)).sh) HM.out (by have := HT.out; omega) (by have := HFB.out; omega) HLIM.out).mono ?_; rw [HW.out]; rintro e w4 ⟨rfl, hd4, hu4⟩))
  go_ret
  exact ⟨rfl, hd4, hu4.row R3.out HPQ.out.symm, w4, (Upd.of_below B3.out).trans hu4, Upd.refl _ _⟩
end Go.Proofs.Ytkghkpkiodghiaa
namespace Go.Proofs.Ytkghkpkiodghiaa
set_option linter.unusedVariables false
set_option linter.unusedSimpArgs false
set_option linter.unnecessarySimpa false
open Go.RowKit
set_option maxRecDepth 100000
set_option maxHeartbeats 4000000

theorem snapshot_nil (v : Value) (l : List UInt8) (h : Nat) (w : World) (hl : Sh w v l) (h0 : l.length = 0) :
  Calls Try.prog 23 #[v, .pointer (some ⟨h, 0, none⟩)] w fun e w' => e = .returned (.int .i64 0) ∧ w' = w := by
 obtain ⟨x, c, rfl, g1, g2, g3, g4⟩ := hl.open
 rw [h0]
 clear hl g1 g3 g4 h0
 go_enter Try.func23, Try.ntmps23
 go_wp2_with fail
 go_ret
 exact ⟨rfl, rfl⟩
end Go.Proofs.Ytkghkpkiodghiaa
namespace Go.Proofs.Ytkghkpkiodghiaa
set_option linter.unusedVariables false
set_option linter.unusedSimpArgs false
set_option linter.unnecessarySimpa false
open Go.RowKit
set_option maxRecDepth 100000
set_option maxHeartbeats 4000000

theorem results_tct {fn : Func} {q p u : Tmp} {ty : TypeId} (h : fn.results = #[.tmp q, .cell p ty, .tmp u]) (tmps : Array Value) (P : Program) (w : World) :
  (results fn tmps).run P w =
   ((asAddr (tmps.getD p undef)).run P w).andThen fun a w₁ => ((loadVar ty a).run P w₁).andThen fun v w₂ => .ok (.tuple #[tmps.getD q undef, v, tmps.getD u undef]) w₂ := by
 simp only [results, h]
 simp [Sem.run_bind, Result.andThen]
/-- What Open's return reads. -/
theorem Open_ret {R : Ending → World → Prop} (act : Act) (w : World) (q g : Nat) {a b c d : Value} (hd : act.defers = []) (h2 : act.tmps.getD 2 undef = .pointer (some ⟨q, 0, none⟩)) (h3 : act.tmps.getD 3 undef = .pointer (some ⟨g, 0, none⟩)) (h4 : act.tmps.getD 4 undef = .int .i64 0)
  (hrow : Row w g 31 [a, b, c, d]) (hR : R (.returned (.tuple #[.pointer (some ⟨q, 0, none⟩), .agg #[a, b, c, d], .int .i64 0])) w) : bodyPost Try.prog Try.f7 R .ret act w := by
 refine bodyPost_ret (v := .tuple #[.pointer (some ⟨q, 0, none⟩), .agg #[a, b, c, d], .int .i64 0]) ?_ hd hR
 have hl := run_loadVar_row (P := Try.prog) w g _ 31 #[a, b, c, d] (0, 0) _ hrow Try.underlying31 rfl (by kernel_rfl)
 rw [results_tct rfl, h2, h3, h4]
 simp [asAddr, Result.andThen, hl]
theorem Open_fin (p q g : Nat) (rs : List (List UInt8)) (w w3 w5 : World) (rv : Value) (hs : g + 1 < w5.heap.size) (hk : Row w5 g 31 (KepC false (.slice none 0 0) (.slice none 0 0) 0)) (hl : BOs w5 w3.heap.size rv rs) (hb : Below g w w5) (he : g ≤ w3.heap.size) :
  WalR (((((w5.alloc (.cells #[.pointer (some ⟨p, 0, none⟩), .int .u64 (rs.length : Int)] 71)).setCell ⟨g, 0, none⟩ (.bool false)).setCell ⟨g, 1, none⟩ (.slice none 0 0)).setCell ⟨g, 2, none⟩ rv).setCell ⟨g, 3, none⟩ (.int .u64 (rs.length : Int))) w5.heap.size p rs.length ∧
  BOs (((((w5.alloc (.cells #[.pointer (some ⟨p, 0, none⟩), .int .u64 (rs.length : Int)] 71)).setCell ⟨g, 0, none⟩ (.bool false)).setCell ⟨g, 1, none⟩ (.slice none 0 0)).setCell ⟨g, 2, none⟩ rv).setCell ⟨g, 3, none⟩ (.int .u64 (rs.length : Int))) g rv rs ∧
  Below g w (((((w5.alloc (.cells #[.pointer (some ⟨p, 0, none⟩), .int .u64 (rs.length : Int)] 71)).setCell ⟨g, 0, none⟩ (.bool false)).setCell ⟨g, 1, none⟩ (.slice none 0 0)).setCell ⟨g, 2, none⟩ rv).setCell ⟨g, 3, none⟩ (.int .u64 (rs.length : Int))) ∧ g < w5.heap.size := by
 have hu := (((Upd.set g 0 (w5.alloc (.cells #[.pointer (some ⟨p, 0, none⟩), .int .u64 (rs.length : Int)] 71)) (.bool false)).trans (Upd.set g 1 _ (.slice none 0 0))).trans (Upd.set g 2 _ rv)).trans (Upd.set g 3 _ (.int .u64 (rs.length : Int)))
 have hba := balloc (Below.refl w5.heap.size w5) (.cells #[.pointer (some ⟨p, 0, none⟩), .int .u64 (rs.length : Int)] 71)
 refine ⟨hu.row (Row.new w5 71 [.pointer (some ⟨p, 0, none⟩), .int .u64 (rs.length : Int)]) (by omega), (hu.bos (hl.below hba) (Row.alloc hk _) (by decide) (by decide)).mono he, (hb.trans (hba.mono (by omega))).trans (hu.below (Nat.le_refl _) (by have := hba.size; omega)), by omega⟩
theorem Open_log (p : Nat) (S : PD) (rs : List (List UInt8)) (w : World) (hS : Dsk w p S) (h1 : S.n1 = []) (hd : S.dead = false) (h0 : S.n0 = frames (bods 0 rs)) (hr : ∀ r ∈ rs, r.length ≤ 3000) (hn : rs.length ≤ 1000) (hlen : S.n0.length ≤ 10000000) :
  Calls Try.prog 7 #[.pointer (some ⟨p, 0, none⟩)] w fun e w' => ∃ q rv, e = .returned (.tuple #[.pointer (some ⟨q, 0, none⟩), .agg #[.bool false, .slice none 0 0, rv, .int .u64 (rs.length : Int)], .int .i64 0]) ∧ WalR w' q p rs.length ∧ BOs w' w.heap.size rv rs ∧ Below w.heap.size w w' ∧ w.heap.size < q := by
 have hr1 : S.read 1 = ([], 0) := by unfold PD.read; rw [if_neg (by simp [hd]), if_neg (by omega)]; simp [h1]
 have hr0 : S.read 0 = (S.n0, 0) := by unfold PD.read; rw [if_neg (by simp [hd]), if_neg (by omega)]; simp
 have HR1 := Lib.hid hr1
 have HR0 := Lib.hid hr0
 have HS := Lib.hid hS
 have H0 := Lib.hid h0
 have HT := Lib.hid (show S.n0.length + S.n1.length ≤ 100000000000 by rw [h1]; simp; omega)
 have HRR := Lib.hid hr
 clear hr1 hr0 hS h0 hr h1 hd
 go_enter Try.func7, Try.ntmps7
 go_wp2_with fail
 refine (Read_any p 1 S _ (HS.out.keepB (balloc (balloc (Below.refl _ _) _) _)) HT.out).mono ?_
 rw [HR1.out]
 rintro e w1 ⟨v1, rfl, ho1, hb1⟩
 obtain ⟨x1, c1, rfl, -⟩ := ho1.sh.open
 go_wp2_with (go_at_call 23; refine (snapshot_nil _ [] _ w1 ho1.sh rfl).mono ?_; rintro e w2 ⟨rfl, hw2⟩; have hw2' := hw2.symm; clear hw2; subst hw2')
 have hB2 : Below w.heap.size w w1 := bstep (balloc (balloc (Below.refl _ _) _) _) hb1
 have K1 : Row w1 w.heap.size 31 (KepC false (.slice none 0 0) (.slice none 0 0) 0) := ((Row.new w 31 (KepC false (.slice none 0 0) (.slice none 0 0) 0)).alloc _).keep hb1
 have K2 : Row w1 (w.heap.size + 1) 31 (KepC false (.slice none 0 0) (.slice none 0 0) 0) := by
  have := (Row.new (w.alloc (.cells (KepC false (.slice none 0 0) (.slice none 0 0) 0).toArray 31)) 31 (KepC false (.slice none 0 0) (.slice none 0 0) 0)).keep hb1
  simpa using this
 have HB2 := Lib.hid hB2
 have HK1 := Lib.hid K1
 have HK2 := Lib.hid K2
 clear ho1 hb1 hB2 K1 K2
 refine (Read_any p 0 S _ (HS.out.keepB HB2.out) HT.out).mono ?_
 rw [HR0.out]
 rintro e w3 ⟨v3, rfl, ho3, hb3⟩
 obtain ⟨x3, c3, rfl, -⟩ := ho3.sh.open
 have hsc : scF (S.n0.length + 1) S.n0 = (bods 0 rs, S.n0.length, 0) := by
  rw [H0.out]
  exact log_scan rs (fun r hr => by have := HRR.out r hr; omega) (by omega)
 have hrf : recF 0 (bods 0 rs) 0 [] 0 = (S.n0.length, rs, rs.length) := by
  have := recF_bods rs 0 [] (by simp; omega)
  rw [H0.out]
  simpa using this
 have HSC := Lib.hid hsc
 have HRF := Lib.hid hrf
 have HO3 := Lib.hid ho3
 have HB3 := Lib.hid hb3
 clear hsc hrf ho3 hb3
 go_wp2_with (go_at_call 24; refine (records_any _ S.n0 (w.heap.size + 1) 0 false _ _ (HK2.out.keep HB3.out) HO3.out.sh (by omega) (by omega) _ HSC.out (by dsimp only; rw [bods_length]; omega) _ HRF.out).mono ?_; rintro e w4 ⟨rv, rfl, hr4, ho4, hu4⟩; dsimp only at hr4 ho4; obtain ⟨x4, c4, rfl, -⟩ := ho4.bss.open)
 have B4 := Lib.hid ((HB2.out.trans (HB3.out.mono HB2.out.size)).trans (hu4.below (B := w.heap.size) (by omega) (by have := HB2.out.size; have := HB3.out.size; omega)))
 have R5 := Lib.hid (Row.drew hr4)
 have K5 := Lib.hid (Row.drew (hu4.row (HK1.out.keep HB3.out) (by omega)))
 have L5 := Lib.hid (ho4.below (Below.refl _ _).drew)
 have B5 := Lib.hid (B4.out.trans ((Below.refl w.heap.size w4).drew))
 have S5 := Lib.hid (show w.heap.size + 1 < w4.drew.heap.size from R5.out.lt)
 have E5 := Lib.hid (show w.heap.size ≤ w3.heap.size by have := HB2.out.size; have := HB3.out.size; omega)
 refine wp_region_any (by kernel_rfl) ?_
 try (change wpAny _ _ _ _ _ _ _ (World.drew _))
 generalize World.drew w4 = w5 at *
 have k0 := Row.cell (R5.out) 0; have k1 := Row.cell (R5.out) 1; have k2 := Row.cell (R5.out) 2; have k3 := Row.cell (R5.out) 3; simp only [KepC, List.getElem?_cons_succ, List.getElem?_cons_zero] at k0 k1 k2 k3
 refine tA (i := 0) (v := ?_) (y := (Or.inl ⟨by rfl, ?_⟩)) (h := ?_)
 rotate_left
 ·intro w; go_simp; try with_reducible rfl
 try simp only [Act.put, List.setIfInBounds_toArray, List.set_cons_zero, List.set_cons_succ, Array.replicate]
 refine tA (i := 1) (v := ?_) (y := (Or.inl ⟨by rfl, ?_⟩)) (h := ?_)
 rotate_left
 ·intro w; go_simp; try with_reducible rfl
 try simp only [Act.put, List.setIfInBounds_toArray, List.set_cons_zero, List.set_cons_succ, Array.replicate]
 refine rA [2, 5] (h := ?_)
 refine cA (h := fun K hK => ?_) (hs := ?_)
 ·go_simp
  refine hK _ _ ?_
  clear hK K
  try simp only [Act.put, List.setIfInBounds_toArray, List.set_cons_zero, List.set_cons_succ, Array.replicate]
  refine tA (i := 3) (v := ?_) (y := (Or.inl ⟨by rfl, ?_⟩)) (h := ?_)
  rotate_left
  ·intro w; go_simp; try with_reducible rfl
  try simp only [Act.put, List.setIfInBounds_toArray, List.set_cons_zero, List.set_cons_succ, Array.replicate]
  refine rA [4, 5] (h := ?_)
  refine cA (h := fun K hK => ?_) (hs := ?_)
  ·go_simp
   refine hK _ _ ?_
   clear hK K
   try simp only [Act.put, List.setIfInBounds_toArray, List.set_cons_zero, List.set_cons_succ, Array.replicate]
   refine tA (i := 6) (v := ?_) (y := (Or.inl ⟨by rfl, ?_⟩)) (h := ?_)
   rotate_left
   ·intro w; go_simp; try with_reducible rfl
   try simp only [Act.put, List.setIfInBounds_toArray, List.set_cons_zero, List.set_cons_succ, Array.replicate]
   have a0 := Row.cell (Row.alloc R5.out (.cells #[.pointer (some ⟨p, 0, none⟩), .int .u64 (rs.length : Int)] 71)) 0; have a1 := Row.cell (Row.alloc R5.out (.cells #[.pointer (some ⟨p, 0, none⟩), .int .u64 (rs.length : Int)] 71)) 1; have a2 := Row.cell (Row.alloc R5.out (.cells #[.pointer (some ⟨p, 0, none⟩), .int .u64 (rs.length : Int)] 71)) 2; have a3 := Row.cell (Row.alloc R5.out (.cells #[.pointer (some ⟨p, 0, none⟩), .int .u64 (rs.length : Int)] 71)) 3; simp only [KepC, List.getElem?_cons_succ, List.getElem?_cons_zero] at a0 a1 a2 a3
   refine rA [5] (h := ?_)
   refine cA (h := fun K hK => ?_) (hs := ?_)
   ·go_simp
    refine hK _ _ ?_
    clear hK K
    try simp only [Act.put, List.setIfInBounds_toArray, List.set_cons_zero, List.set_cons_succ, Array.replicate]
    have s0 := Row.cell (Row.alloc K5.out (.cells #[.pointer (some ⟨p, 0, none⟩), .int .u64 (rs.length : Int)] 71)) 0; have s1 := Row.cell (Row.alloc K5.out (.cells #[.pointer (some ⟨p, 0, none⟩), .int .u64 (rs.length : Int)] 71)) 1; have s2 := Row.cell (Row.alloc K5.out (.cells #[.pointer (some ⟨p, 0, none⟩), .int .u64 (rs.length : Int)] 71)) 2; have s3 := Row.cell (Row.alloc K5.out (.cells #[.pointer (some ⟨p, 0, none⟩), .int .u64 (rs.length : Int)] 71)) 3; simp only [KepC, List.getElem?_cons_succ, List.getElem?_cons_zero] at s0 s1 s2 s3; have f0 := Row.frozen (Row.alloc K5.out (.cells #[.pointer (some ⟨p, 0, none⟩), .int .u64 (rs.length : Int)] 71)) 0; have f1 := Row.frozen (Row.alloc K5.out (.cells #[.pointer (some ⟨p, 0, none⟩), .int .u64 (rs.length : Int)] 71)) 1; have f2 := Row.frozen (Row.alloc K5.out (.cells #[.pointer (some ⟨p, 0, none⟩), .int .u64 (rs.length : Int)] 71)) 2; have f3 := Row.frozen (Row.alloc K5.out (.cells #[.pointer (some ⟨p, 0, none⟩), .int .u64 (rs.length : Int)] 71)) 3
    refine rA [7] (h := ?_)
    refine cA (h := fun K hK => ?_) (hs := ?_)
    ·go_simp
     refine hK _ _ ?_
     clear hK K
     try simp only [Act.put, List.setIfInBounds_toArray, List.set_cons_zero, List.set_cons_succ, Array.replicate]
     refine tA (i := 8) (v := ?_) (y := (Or.inl ⟨by rfl, ?_⟩)) (h := ?_)
     rotate_left
     ·intro w; go_simp; try with_reducible rfl
     try simp only [Act.put, List.setIfInBounds_toArray, List.set_cons_zero, List.set_cons_succ, Array.replicate]
     refine wpAny_done (by kernel_rfl) ?_ _
     go_wp2_with fail
     refine Open_ret _ _ w5.heap.size w.heap.size rfl rfl rfl rfl (Row.set (Row.set (Row.set (Row.set (Row.alloc K5.out _) 0 _) 1 _) 2 _) 3 _) ?_
     exact ⟨_, _, rfl, Open_fin p w5.heap.size w.heap.size rs w w3 w5 _ S5.out K5.out L5.out B5.out E5.out⟩
    exact AllReady.nil
   exact AllReady.nil
  refine cA (h := fun K hK => ?_) (hs := ?_)
  ·go_simp
   refine hK _ _ ?_
   clear hK K
   try simp only [Act.put, List.setIfInBounds_toArray, List.set_cons_zero, List.set_cons_succ, Array.replicate]
   refine rA [4] (h := ?_)
   refine cA (h := fun K hK => ?_) (hs := ?_)
   ·go_simp
    refine hK _ _ ?_
    clear hK K
    try simp only [Act.put, List.setIfInBounds_toArray, List.set_cons_zero, List.set_cons_succ, Array.replicate]
    refine tA (i := 6) (v := ?_) (y := (Or.inl ⟨by rfl, ?_⟩)) (h := ?_)
    rotate_left
    ·intro w; go_simp; try with_reducible rfl
    try simp only [Act.put, List.setIfInBounds_toArray, List.set_cons_zero, List.set_cons_succ, Array.replicate]
    have s0 := Row.cell (Row.alloc K5.out (.cells #[.pointer (some ⟨p, 0, none⟩), .int .u64 (rs.length : Int)] 71)) 0; have s1 := Row.cell (Row.alloc K5.out (.cells #[.pointer (some ⟨p, 0, none⟩), .int .u64 (rs.length : Int)] 71)) 1; have s2 := Row.cell (Row.alloc K5.out (.cells #[.pointer (some ⟨p, 0, none⟩), .int .u64 (rs.length : Int)] 71)) 2; have s3 := Row.cell (Row.alloc K5.out (.cells #[.pointer (some ⟨p, 0, none⟩), .int .u64 (rs.length : Int)] 71)) 3; simp only [KepC, List.getElem?_cons_succ, List.getElem?_cons_zero] at s0 s1 s2 s3; have f0 := Row.frozen (Row.alloc K5.out (.cells #[.pointer (some ⟨p, 0, none⟩), .int .u64 (rs.length : Int)] 71)) 0; have f1 := Row.frozen (Row.alloc K5.out (.cells #[.pointer (some ⟨p, 0, none⟩), .int .u64 (rs.length : Int)] 71)) 1; have f2 := Row.frozen (Row.alloc K5.out (.cells #[.pointer (some ⟨p, 0, none⟩), .int .u64 (rs.length : Int)] 71)) 2; have f3 := Row.frozen (Row.alloc K5.out (.cells #[.pointer (some ⟨p, 0, none⟩), .int .u64 (rs.length : Int)] 71)) 3
    refine rA [7] (h := ?_)
    refine cA (h := fun K hK => ?_) (hs := ?_)
    ·go_simp
     refine hK _ _ ?_
     clear hK K
     try simp only [Act.put, List.setIfInBounds_toArray, List.set_cons_zero, List.set_cons_succ, Array.replicate]
     refine tA (i := 8) (v := ?_) (y := (Or.inl ⟨by rfl, ?_⟩)) (h := ?_)
     rotate_left
     ·intro w; go_simp; try with_reducible rfl
     try simp only [Act.put, List.setIfInBounds_toArray, List.set_cons_zero, List.set_cons_succ, Array.replicate]
     refine wpAny_done (by kernel_rfl) ?_ _
     go_wp2_with fail
     refine Open_ret _ _ w5.heap.size w.heap.size rfl rfl rfl rfl (Row.set (Row.set (Row.set (Row.set (Row.alloc K5.out _) 0 _) 1 _) 2 _) 3 _) ?_
     exact ⟨_, _, rfl, Open_fin p w5.heap.size w.heap.size rs w w3 w5 _ S5.out K5.out L5.out B5.out E5.out⟩
    exact AllReady.nil
   exact AllReady.nil
  exact AllReady.nil
 refine cA (h := fun K hK => ?_) (hs := ?_)
 ·go_simp
  refine hK _ _ ?_
  clear hK K
  try simp only [Act.put, List.setIfInBounds_toArray, List.set_cons_zero, List.set_cons_succ, Array.replicate]
  refine rA [2] (h := ?_)
  refine cA (h := fun K hK => ?_) (hs := ?_)
  ·go_simp
   refine hK _ _ ?_
   clear hK K
   try simp only [Act.put, List.setIfInBounds_toArray, List.set_cons_zero, List.set_cons_succ, Array.replicate]
   refine tA (i := 3) (v := ?_) (y := (Or.inl ⟨by rfl, ?_⟩)) (h := ?_)
   rotate_left
   ·intro w; go_simp; try with_reducible rfl
   try simp only [Act.put, List.setIfInBounds_toArray, List.set_cons_zero, List.set_cons_succ, Array.replicate]
   refine rA [4] (h := ?_)
   refine cA (h := fun K hK => ?_) (hs := ?_)
   ·go_simp
    refine hK _ _ ?_
    clear hK K
    try simp only [Act.put, List.setIfInBounds_toArray, List.set_cons_zero, List.set_cons_succ, Array.replicate]
    refine tA (i := 6) (v := ?_) (y := (Or.inl ⟨by rfl, ?_⟩)) (h := ?_)
    rotate_left
    ·intro w; go_simp; try with_reducible rfl
    try simp only [Act.put, List.setIfInBounds_toArray, List.set_cons_zero, List.set_cons_succ, Array.replicate]
    have s0 := Row.cell (Row.alloc K5.out (.cells #[.pointer (some ⟨p, 0, none⟩), .int .u64 (rs.length : Int)] 71)) 0; have s1 := Row.cell (Row.alloc K5.out (.cells #[.pointer (some ⟨p, 0, none⟩), .int .u64 (rs.length : Int)] 71)) 1; have s2 := Row.cell (Row.alloc K5.out (.cells #[.pointer (some ⟨p, 0, none⟩), .int .u64 (rs.length : Int)] 71)) 2; have s3 := Row.cell (Row.alloc K5.out (.cells #[.pointer (some ⟨p, 0, none⟩), .int .u64 (rs.length : Int)] 71)) 3; simp only [KepC, List.getElem?_cons_succ, List.getElem?_cons_zero] at s0 s1 s2 s3; have f0 := Row.frozen (Row.alloc K5.out (.cells #[.pointer (some ⟨p, 0, none⟩), .int .u64 (rs.length : Int)] 71)) 0; have f1 := Row.frozen (Row.alloc K5.out (.cells #[.pointer (some ⟨p, 0, none⟩), .int .u64 (rs.length : Int)] 71)) 1; have f2 := Row.frozen (Row.alloc K5.out (.cells #[.pointer (some ⟨p, 0, none⟩), .int .u64 (rs.length : Int)] 71)) 2; have f3 := Row.frozen (Row.alloc K5.out (.cells #[.pointer (some ⟨p, 0, none⟩), .int .u64 (rs.length : Int)] 71)) 3
    refine rA [7] (h := ?_)
    refine cA (h := fun K hK => ?_) (hs := ?_)
    ·go_simp
     refine hK _ _ ?_
     clear hK K
     try simp only [Act.put, List.setIfInBounds_toArray, List.set_cons_zero, List.set_cons_succ, Array.replicate]
     refine tA (i := 8) (v := ?_) (y := (Or.inl ⟨by rfl, ?_⟩)) (h := ?_)
     rotate_left
     ·intro w; go_simp; try with_reducible rfl
     try simp only [Act.put, List.setIfInBounds_toArray, List.set_cons_zero, List.set_cons_succ, Array.replicate]
     refine wpAny_done (by kernel_rfl) ?_ _
     go_wp2_with fail
     refine Open_ret _ _ w5.heap.size w.heap.size rfl rfl rfl rfl (Row.set (Row.set (Row.set (Row.set (Row.alloc K5.out _) 0 _) 1 _) 2 _) 3 _) ?_
     exact ⟨_, _, rfl, Open_fin p w5.heap.size w.heap.size rs w w3 w5 _ S5.out K5.out L5.out B5.out E5.out⟩
    exact AllReady.nil
   exact AllReady.nil
  exact AllReady.nil
 exact AllReady.nil
end Go.Proofs.Ytkghkpkiodghiaa
namespace Go.Proofs.Ytkghkpkiodghiaa
set_option linter.unusedVariables false
set_option linter.unusedSimpArgs false
set_option linter.unnecessarySimpa false

/-- A disk of which no power goes, with a log's records. -/
structure LogS (S : PD) (L : Int) (rs : List (List UInt8)) : Prop where
 dead : S.dead = false
 left : S.left = -1
 n1 : S.n1 = []
 n0 : S.n0 = frames (bods 0 rs)
 lim : S.lim = L
 room : (S.n0.length : Int) ≤ L
theorem LogS.new (L : Int) (h : 0 ≤ L) : LogS ⟨[], [], false, [], [], false, L, -1, false⟩ L [] := ⟨rfl, rfl, rfl, rfl, rfl, by simpa using h⟩
theorem wapp_log (S : PD) (L : Int) (rs : List (List UInt8)) (b : List UInt8) (h : LogS S L rs) :
  ∃ S' n' e, S.wapp rs.length b = (S', n', e) ∧ ((e = 0 ∧ n' = rs.length + 1 ∧ LogS S' L (rs ++ [b])) ∨ (e = 8 ∧ n' = rs.length ∧ LogS S' L rs ∧ L < ((S.n0 ++ frameB (enc rs.length ++ b)).length : Int))) := by
 obtain ⟨f0, n0, r0, f1, n1, r1, lim, left, dead⟩ := S
 obtain ⟨h1, h2, h3, h4, h5, h6⟩ := h
 simp only at h1 h2 h3 h4 h5 h6
 subst h1 h2 h3 h5
 by_cases hf : lim - ((n0.length : Nat) : Int) < ((frameB (enc rs.length ++ b)).length : Int)
 ·have hw : (PD.mk f0 n0 r0 f1 [] r1 lim (-1) false).write 0 (frameB (enc rs.length ++ b)) = (⟨f0, n0, r0, f1, [], r1, lim, -1, false⟩, 8) := by
   unfold PD.write PD.tot
   rw [if_neg (by simp), if_neg (by omega), if_pos (by simpa using hf)]
   rfl
  refine ⟨_, _, _, by unfold PD.wapp; rw [hw]; rfl, Or.inr ⟨rfl, rfl, ⟨rfl, rfl, rfl, h4, rfl, h6⟩, ?_⟩⟩
  simp only [List.length_append]
  omega
 ·have hw : (PD.mk f0 n0 r0 f1 [] r1 lim (-1) false).write 0 (frameB (enc rs.length ++ b)) = (⟨f0, n0 ++ frameB (enc rs.length ++ b), r0, f1, [], r1, lim, -1, false⟩, 0) := by
   unfold PD.write PD.tot
   rw [if_neg (by simp), if_neg (by omega), if_neg (by simpa using hf), if_pos rfl]
   rfl
  have hs : (PD.mk f0 (n0 ++ frameB (enc rs.length ++ b)) r0 f1 [] r1 lim (-1) false).sync 0 = (⟨n0 ++ frameB (enc rs.length ++ b), n0 ++ frameB (enc rs.length ++ b), false, f1, [], r1, lim, -1, false⟩, 0) := by
   unfold PD.sync
   rw [if_neg (by simp), if_neg (by omega), if_pos rfl]
   rfl
  refine ⟨_, _, _, by unfold PD.wapp; rw [hw]; simp only [hs]; rfl, Or.inl ⟨rfl, rfl, rfl, rfl, rfl, ?_, rfl, ?_⟩⟩
  ·show n0 ++ _ = _
   rw [log_snoc, h4]
  ·show ((n0 ++ _ : List UInt8).length : Int) ≤ lim
   rw [List.length_append]; omega
end Go.Proofs.Ytkghkpkiodghiaa
