/- The document's log: its row, Framed, Append, Snap, Same. (printed by gen/wal14.py) -/
import Derived.Test.YtkghkpkiodghiaaWalM
import Derived.Test.YtkghkpkiodghiaaDskS
import Derived.Test.YtkghkpkiodghiaaFrm3
import Derived.Test.YtkghkpkiodghiaaFrm7
namespace Go.Proofs.Ytkghkpkiodghiaa
set_option linter.unusedVariables false
set_option linter.unusedSimpArgs false
set_option linter.unnecessarySimpa false
open Go.RowKit
set_option maxRecDepth 100000
set_option maxHeartbeats 4000000

theorem Sh.zero (w : World) (a : Option Addr) : Sh w (.slice a 0 0) [] := ⟨rfl, a, 0, rfl, Nat.le_refl _, by simp [maxLen], fun _ => rfl, fun ad _ j u hj => by simp [bytes] at hj⟩
/-- The document's log's row. -/
def RWalR (w : World) (q p n : Nat) : Prop := Row w q 83 [.pointer (some ⟨p, 0, none⟩), .int .u64 (n : Int)]
theorem Rdk.rowC {w : World} {q : Nat} {R : RD} (h : Rdk w q R) : ∃ C, Row w q 78 C ∧ ∀ u ∈ C, ∀ c : Int, u ≠ .int .u8 c := by
 obtain ⟨xf0, kf0, xf1, kf1, xm0, km0, xm1, km1, xo0, ko0, xo1, ko1, hR, -⟩ := h
 refine ⟨_, hR, fun u hu c => ?_⟩
 simp only [RdC, List.mem_cons, List.not_mem_nil, or_false] at hu
 rcases hu with rfl | rfl | rfl | rfl | rfl | rfl | rfl | rfl | rfl | rfl | rfl | rfl <;> simp
/-- Bytes stand as the disk's row changes: they lie elsewhere. -/
theorem Sh.updR {w w' : World} {q t : Nat} {C : List Value} {v : Value} {b : List UInt8} (h : Sh w v b) (hr : Row w q t C) (hC : ∀ u ∈ C, ∀ c : Int, u ≠ .int .u8 c) (hu : Upd q w w') : Sh w' v b := by
 obtain ⟨h1, a, cap, h2, h3, h4, h5, h6⟩ := h
 refine ⟨h1, a, cap, h2, h3, h4, h5, fun ad had j u hj => ?_⟩
 have hc := h6 ad had j u hj
 refine World.grownBy.cell hu hc (fun e => ?_)
 have hb : (ad.add j).block = q := by simpa using e
 have hsp := World.cell?_spot hc
 have hadj : ad.add j = ⟨q, (ad.add j).off, none⟩ := by
  rw [← hb, ← hsp]
 rw [hadj, Row.cell hr] at hc
 have hmem : u ∈ C := List.mem_of_getElem? hc
 have hu8 : ∃ c : Int, u = .int .u8 c := by
  have : u ∈ bytes b := List.mem_of_getElem? hj
  simp only [bytes, List.mem_map] at this
  obtain ⟨x, -, rfl⟩ := this
  exact ⟨_, rfl⟩
 obtain ⟨c, hc8⟩ := hu8
 exact hC u hmem c hc8
theorem Rdk.sb {w w' : World} {q : Nat} {R : RD} {v : Value} {b : List UInt8} (hR : Rdk w q R) (h : Sh w v b) (hu : Upd q w w') : Sh w' v b := by
 obtain ⟨C, h1, h2⟩ := hR.rowC
 exact h.updR h1 h2 hu
theorem Rdk.keepB {w w' : World} {q : Nat} {R : RD} (h : Rdk w q R) (hb : Below w.heap.size w w') : Rdk w' q R := h.below hb
theorem Rdk.updO {w w' : World} {p q t : Nat} {C : List Value} {R : RD} (hS : Rdk w p R) (hr : Row w q t C) (ht : 5 ≠ t) (hpq : p ≠ q) (hu : Upd q w w') : Rdk w' p R := by
 obtain ⟨xf0, kf0, xf1, kf1, xm0, km0, xm1, km1, xo0, ko0, xo1, ko1, hR, h1, h2, h3, h4, h5, h6⟩ := hS
 exact ⟨xf0, kf0, xf1, kf1, xm0, km0, xm1, km1, xo0, ko0, xo1, ko1, hu.row hR hpq, hu.own h1 hr ht, hu.own h2 hr ht, hu.own h3 hr ht, hu.own h4 hr ht, hu.own h5 hr ht, hu.own h6 hr ht⟩
/-- A record is put behind, a snapshot in the place of all, by the document. -/
def RD.rapp (S : RD) (n : Nat) (b : List UInt8) : RD × Nat × Nat :=
 if (S.write 0 (frameB (enc n ++ b))).2 ≠ 0 then ((S.write 0 (frameB (enc n ++ b))).1, n, (S.write 0 (frameB (enc n ++ b))).2)
 else if ((S.write 0 (frameB (enc n ++ b))).1.sync 0).2 ≠ 0 then (((S.write 0 (frameB (enc n ++ b))).1.sync 0).1, n, ((S.write 0 (frameB (enc n ++ b))).1.sync 0).2)
 else (((S.write 0 (frameB (enc n ++ b))).1.sync 0).1, n + 1, 0)
def RD.rsnap (S : RD) (n : Nat) (b : List UInt8) : RD × Nat :=
 if (S.replace 1 (frameB (enc n ++ b))).2 ≠ 0 then S.replace 1 (frameB (enc n ++ b))
 else if ((S.replace 1 (frameB (enc n ++ b))).1.sync 1).2 ≠ 0 then (S.replace 1 (frameB (enc n ++ b))).1.sync 1
 else if (((S.replace 1 (frameB (enc n ++ b))).1.sync 1).1.replace 0 []).2 ≠ 0 then ((S.replace 1 (frameB (enc n ++ b))).1.sync 1).1.replace 0 []
 else (((S.replace 1 (frameB (enc n ++ b))).1.sync 1).1.replace 0 []).1.sync 0
theorem Sim.wapp {S : PD} {R : RD} (h : Sim S R) (n : Nat) (b : List UInt8) : (S.wapp n b).2 = (R.rapp n b).2 ∧ Sim (S.wapp n b).1 (R.rapp n b).1 := by
 obtain ⟨k1, k2⟩ := h.write 0 (frameB (enc n ++ b))
 obtain ⟨k3, k4⟩ := k2.sync 0
 unfold PD.wapp RD.rapp
 rw [k1, k3]
 split
 ·exact ⟨rfl, k2⟩
 ·split
  ·exact ⟨rfl, k4⟩
  ·exact ⟨rfl, k4⟩
theorem Sim.wsnap {S : PD} {R : RD} (h : Sim S R) (n : Nat) (b : List UInt8) : (S.wsnap n b).2 = (R.rsnap n b).2 ∧ Sim (S.wsnap n b).1 (R.rsnap n b).1 := by
 have k1 := h.replace 1 (frameB (enc n ++ b))
 have k2 := k1.2.sync 1
 have k3 := k2.2.replace 0 []
 have k4 := k3.2.sync 0
 unfold PD.wsnap RD.rsnap
 rw [k1.1, k2.1, k3.1]
 split
 ·exact k1
 ·split
  ·exact k2
  ·split
   ·exact k3
   ·exact k4
theorem refFramed_any (q p n : Nat) (vb : Value) (b : List UInt8) (w : World) (hq : RWalR w q p n) (hb : Sh w vb b) (hn : n < 4611686018427387904) (hl : b.length ≤ 1000000) :
  Calls Try.prog 51 #[.pointer (some ⟨q, 0, none⟩), vb] w fun e w' => ∃ v', e = .returned (.tuple #[v', .int .i64 0]) ∧ Sh w' v' (frameB (enc n ++ b)) ∧ Below w.heap.size w w' := by
 have h1 := fun o => Row.cell (Row.alloc hq o) 1
 simp only [List.getElem?_cons_succ, List.getElem?_cons_zero] at h1
 have hel := enc_length n hn
 have hns := nsize_le n
 have HE := Lib.hid hel
 have HN := Lib.hid hns
 obtain ⟨xb, cb, rfl, -⟩ := hb.open
 have HB := Lib.hid hb
 clear hq hel hns hb
 have HL := Lib.hid (Sh.lit w 5 [] (by decide))
 go_enter Try.func51, Try.ntmps51
 go_wp2_with fail
 refine (refPut_any _ [] n _ HL.out (by simp) hn).mono ?_
 rintro e w1 ⟨v1, rfl, ho1, hb1⟩
 have O1 := Lib.hid (show Own w1 (w.heap.size + 1) 5 v1 (enc n) from by simpa using ho1)
 have B1 := Lib.hid (bthen (balloc (Below.refl w.heap.size w) (.cells #[] 5)) hb1 (Nat.le_refl _))
 have s1 := B1.out.size
 clear ho1 hb1
 go_wp2_with (at_builtin; refine app_bytes (base := w.heap.size + 1) Try.underlying27 info_byte rfl (.tmp 21) (.tmp 22) rfl rfl (O1.out.alloc _) rfl ((HB.out.below B1.out).below (balloc (Below.refl _ _) _)) (by have := HE.out; have := HN.out; omega) (by have := O1.out; have h2 := B1.out.size; simp; omega) ?_; intro v2 w2 ho2 hb2; have O2 := Lib.hid ho2; have B2 := Lib.hid hb2; have s2 := hb2.size; clear ho2 hb2)
 refine (refPutf_any _ _ [] (enc n ++ b) _ (Sh.zero _ _) O2.out.sh (by rw [List.length_append]; have := HE.out; have := HN.out; simp; omega) (by rw [List.length_append]; have := HE.out; have := HN.out; omega)).mono ?_
 rintro e w3 ⟨v3, rfl, ho3, hb3⟩
 go_wp2_with fail
 go_ret2
 have hA := B1.out.trans ((balloc (Below.refl w1.heap.size w1) (.cells #[] 5)).mono s1)
 exact ⟨v3, rfl, by simpa using ho3, bthen (hA.trans (B2.out.mono (by omega))) hb3 (Nat.le_refl _)⟩
theorem write_b {R : RD} {T : Nat} (h : Bd R T) (hT : R.lim ≤ (T : Int)) (n : Int) (b : List UInt8) : Bd (R.write n b).1 T ∧ (R.write n b).1.lim = R.lim ∧ R.left - 1 ≤ (R.write n b).1.left ∧ (R.write n b).1.left ≤ R.left := ⟨h.write hT n b, lim_write R n b, left_write R n b⟩
theorem replace_b {R : RD} {T : Nat} (h : Bd R T) (hT : R.lim ≤ (T : Int)) (n : Int) (b : List UInt8) : Bd (R.replace n b).1 T ∧ (R.replace n b).1.lim = R.lim ∧ R.left - 1 ≤ (R.replace n b).1.left ∧ (R.replace n b).1.left ≤ R.left := ⟨h.replace hT n b, lim_replace R n b, left_replace R n b⟩
theorem sync_b {R : RD} {T : Nat} (h : Bd R T) (n : Int) : Bd (R.sync n).1 T ∧ (R.sync n).1.lim = R.lim ∧ R.left - 1 ≤ (R.sync n).1.left ∧ (R.sync n).1.left ≤ R.left := ⟨h.sync n, lim_sync R n, left_sync R n⟩
/-- What a disk of the document is within. -/
structure Wi (R : RD) (T : Nat) (x : Int) : Prop where
 bd : Bd R T
 lim : 0 ≤ R.lim ∧ R.lim ≤ (T : Int)
 left : -x ≤ R.left ∧ R.left ≤ 9223372036854775807
theorem Wi.write {R : RD} {T : Nat} {x : Int} (h : Wi R T x) (n : Int) (b : List UInt8) : Wi (R.write n b).1 T (x + 1) := by
 obtain ⟨k1, k2, k3, k4⟩ := write_b h.bd h.lim.2 n b
 have := h.lim; have := h.left
 exact ⟨k1, by rw [k2]; omega, by omega⟩
theorem Wi.replace {R : RD} {T : Nat} {x : Int} (h : Wi R T x) (n : Int) (b : List UInt8) : Wi (R.replace n b).1 T (x + 1) := by
 obtain ⟨k1, k2, k3, k4⟩ := replace_b h.bd h.lim.2 n b
 have := h.lim; have := h.left
 exact ⟨k1, by rw [k2]; omega, by omega⟩
theorem Wi.sync {R : RD} {T : Nat} {x : Int} (h : Wi R T x) (n : Int) : Wi (R.sync n).1 T (x + 1) := by
 obtain ⟨k1, k2, k3, k4⟩ := sync_b h.bd n
 have := h.lim; have := h.left
 exact ⟨k1, by rw [k2]; omega, by omega⟩
theorem Wi.more {R : RD} {T T' : Nat} {x y : Int} (h : Wi R T x) (hT : T ≤ T') (hx : x ≤ y) : Wi R T' y := by
 have := h.lim; have := h.left; have := h.bd
 exact ⟨⟨Nat.le_trans this.f0 hT, Nat.le_trans this.f1 hT, Nat.le_trans this.a0 hT, Nat.le_trans this.a1 hT, Nat.le_trans this.o0 hT, Nat.le_trans this.o1 hT⟩, by omega, by omega⟩
theorem Wi.rapp {R : RD} {T : Nat} {x : Int} (h : Wi R T x) (n : Nat) (b : List UInt8) : Wi (R.rapp n b).1 T (x + 4) := by
 have h1 := h.write 0 (frameB (enc n ++ b))
 have h2 := h1.sync 0
 unfold RD.rapp
 split
 ·exact h1.more (Nat.le_refl _) (by omega)
 ·split
  ·exact h2.more (Nat.le_refl _) (by omega)
  ·exact h2.more (Nat.le_refl _) (by omega)
theorem Wi.rsnap {R : RD} {T : Nat} {x : Int} (h : Wi R T x) (n : Nat) (b : List UInt8) : Wi (R.rsnap n b).1 T (x + 4) := by
 have h1 := h.replace 1 (frameB (enc n ++ b))
 have h2 := h1.sync 1
 have h3 := h2.replace 0 []
 have h4 := h3.sync 0
 unfold RD.rsnap
 split
 ·exact h1.more (Nat.le_refl _) (by omega)
 ·split
  ·exact h2.more (Nat.le_refl _) (by omega)
  ·split
   ·exact h3.more (Nat.le_refl _) (by omega)
   ·exact h4.more (Nat.le_refl _) (by omega)
structure WiK (R : RD) : Prop where
 l : -9223372036854775808 < R.left ∧ R.left ≤ 9223372036854775807
 s : R.sz ≤ 100000000000
 m : -1000000000000 ≤ R.lim ∧ R.lim ≤ 1000000000000
theorem Wi.k {R : RD} {T : Nat} {x : Int} (h : Wi R T x) (hT : T ≤ 1000000000) (hx : x ≤ 1000000000000) : WiK R := by
 have h1 := h.lim; have h2 := h.left; have h3 := h.bd.sz
 exact ⟨by omega, by omega, by omega⟩
theorem refAppend_any (q p n : Nat) (vb : Value) (b : List UInt8) (S : RD) (T : Nat) (x : Int) (w : World) (hq : RWalR w q p n) (hS : Rdk w p S) (hb : Sh w vb b) (hn : n < 4611686018427387903) (hl : b.length ≤ 1000000) (hpq : p ≠ q) (hwi : Wi S T x) (hT : T ≤ 1000000000) (hx : x ≤ 100000000000) :
  Calls Try.prog 33 #[.pointer (some ⟨q, 0, none⟩), vb] w fun e w' => e = .returned (.int .i64 ((S.rapp n b).2.2 : Int)) ∧ Rdk w' p (S.rapp n b).1 ∧ RWalR w' q p (S.rapp n b).2.1 ∧ Upd2 p q w w' := by
 have i1 := hwi.write 0 (frameB (enc n ++ b))
 unfold RD.rapp
 rcases h1 : S.write 0 (frameB (enc n ++ b)) with ⟨S1, e1⟩
 rw [h1] at i1
 rcases h2 : S1.sync 0 with ⟨S2, e2⟩
 dsimp only at i1 ⊢
 have K0 := Lib.hid (hwi.k hT (by omega))
 have K1 := Lib.hid (i1.k hT (by omega))
 have H1 := Lib.hid h1
 have H2 := Lib.hid h2
 clear h1 h2 i1 hwi
 have HQ := Lib.hid hq
 have HS := Lib.hid hS
 have HB := Lib.hid hb
 have HPQ := Lib.hid hpq
 have FB := Lib.hid (show (frameB (enc n ++ b)).length ≤ 140737488355328 by have := frame_len n b (by omega) hl; omega)
 clear hq hS hb hpq
 have h0 := Row.cell HQ.out 0
 simp only [List.getElem?_cons_succ, List.getElem?_cons_zero] at h0
 by_cases he1 : e1 = 0
 ·subst he1
  rw [if_neg (by simp)]
  by_cases he2 : e2 = 0
  ·subst he2
   rw [if_neg (by simp)]
   have hwn : IntKind.u64.wrap ((n : Int) + 1) = ((n + 1 : Nat) : Int) := by rw [IntWalk.u64_in _ ⟨by omega, by omega⟩]; omega
   go_enter Try.func33, Try.ntmps33
   go_wp2_with (first
    | (go_at_call 50; refine (refSync_of p 0 S1 S2 0 H2.out _ D4.out (K1.out.l) (K1.out.s) (K1.out.m)).mono ?_; rintro e w5 ⟨rfl, hd, hu⟩; have R5 := Lib.hid (show RWalR w5 q p n from hu.row R4.out HPQ.out.symm); have h05 := Row.cell R5.out 0; have h15 := Row.cell R5.out 1; simp only [List.getElem?_cons_succ, List.getElem?_cons_zero] at h05 h15; have D5 := Lib.hid hd; have U5 := Lib.hid (U4.out.trans hu); have hf5 := Row.frozen R5.out 1; clear hd hu)
    | (go_at_call 52; refine (refWrite_of p 0 _ (frameB (enc n ++ b)) S S1 0 H1.out _ D3.out (fun w' hu => D3.out.sb O3.out hu) (by have := FB.out; omega) (K0.out.l) (K0.out.s) (K0.out.m)).mono ?_; rintro e w4 ⟨rfl, hd, hu⟩; have R4 := Lib.hid (show RWalR w4 q p n from hu.row R3.out HPQ.out.symm); have h04 := Row.cell R4.out 0; have h14 := Row.cell R4.out 1; simp only [List.getElem?_cons_succ, List.getElem?_cons_zero] at h04 h14; have D4 := Lib.hid hd; have U4 := Lib.hid (U3.out.trans hu); clear hd hu)
    | (go_at_call 51; refine (refFramed_any q p n _ b _ HQ.out HB.out (by omega) hl).mono ?_; rintro e w3 ⟨v3, rfl, ho3, hb3⟩; have R3 := Lib.hid (show RWalR w3 q p n from HQ.out.keep hb3); have h03 := Row.cell R3.out 0; simp only [List.getElem?_cons_succ, List.getElem?_cons_zero] at h03; have O3 := Lib.hid ho3; have U3 := Lib.hid (Upd.of_below (p := p) hb3); have D3 := Lib.hid (HS.out.keepB hb3); clear ho3 hb3))
   go_ret
   have U6 : Upd q w5 (w5.setCell ⟨q, 1, none⟩ (.int .u64 ((n + 1 : Nat) : Int))) := Upd.set q 1 w5 _
   exact ⟨rfl, D5.out.updO R5.out (by decide) HPQ.out U6, Row.set R5.out 1 _, w5, U5.out, U6⟩
  ·have he2I : ¬ (e2 : Int) = 0 := by omega
   rw [if_pos (by simpa using he2)]
   clear he2
   go_enter Try.func33, Try.ntmps33
   go_wp2_with (first
    | (go_at_call 50; refine (refSync_of p 0 S1 S2 e2 H2.out _ D4.out (K1.out.l) (K1.out.s) (K1.out.m)).mono ?_; rintro e w5 ⟨rfl, hd, hu⟩; have R5 := Lib.hid (show RWalR w5 q p n from hu.row R4.out HPQ.out.symm); have h05 := Row.cell R5.out 0; have h15 := Row.cell R5.out 1; simp only [List.getElem?_cons_succ, List.getElem?_cons_zero] at h05 h15; have D5 := Lib.hid hd; have U5 := Lib.hid (U4.out.trans hu); clear hd hu)
    | (go_at_call 52; refine (refWrite_of p 0 _ (frameB (enc n ++ b)) S S1 0 H1.out _ D3.out (fun w' hu => D3.out.sb O3.out hu) (by have := FB.out; omega) (K0.out.l) (K0.out.s) (K0.out.m)).mono ?_; rintro e w4 ⟨rfl, hd, hu⟩; have R4 := Lib.hid (show RWalR w4 q p n from hu.row R3.out HPQ.out.symm); have h04 := Row.cell R4.out 0; have h14 := Row.cell R4.out 1; simp only [List.getElem?_cons_succ, List.getElem?_cons_zero] at h04 h14; have D4 := Lib.hid hd; have U4 := Lib.hid (U3.out.trans hu); clear hd hu)
    | (go_at_call 51; refine (refFramed_any q p n _ b _ HQ.out HB.out (by omega) hl).mono ?_; rintro e w3 ⟨v3, rfl, ho3, hb3⟩; have R3 := Lib.hid (show RWalR w3 q p n from HQ.out.keep hb3); have h03 := Row.cell R3.out 0; simp only [List.getElem?_cons_succ, List.getElem?_cons_zero] at h03; have O3 := Lib.hid ho3; have U3 := Lib.hid (Upd.of_below (p := p) hb3); have D3 := Lib.hid (HS.out.keepB hb3); clear ho3 hb3))
   go_ret
   exact ⟨rfl, D5.out, R5.out, w5, U5.out, Upd.refl _ _⟩
 ·have he1I : ¬ (e1 : Int) = 0 := by omega
  rw [if_pos (by simpa using he1)]
  clear he1
  go_enter Try.func33, Try.ntmps33
  go_wp2_with (first
   | (go_at_call 52; refine (refWrite_of p 0 _ (frameB (enc n ++ b)) S S1 e1 H1.out _ D3.out (fun w' hu => D3.out.sb O3.out hu) (by have := FB.out; omega) (K0.out.l) (K0.out.s) (K0.out.m)).mono ?_; rintro e w4 ⟨rfl, hd, hu⟩; have R4 := Lib.hid (show RWalR w4 q p n from hu.row R3.out HPQ.out.symm); have h04 := Row.cell R4.out 0; have h14 := Row.cell R4.out 1; simp only [List.getElem?_cons_succ, List.getElem?_cons_zero] at h04 h14; have D4 := Lib.hid hd; have U4 := Lib.hid (U3.out.trans hu); clear hd hu)
   | (go_at_call 51; refine (refFramed_any q p n _ b _ HQ.out HB.out (by omega) hl).mono ?_; rintro e w3 ⟨v3, rfl, ho3, hb3⟩; have R3 := Lib.hid (show RWalR w3 q p n from HQ.out.keep hb3); have h03 := Row.cell R3.out 0; simp only [List.getElem?_cons_succ, List.getElem?_cons_zero] at h03; have O3 := Lib.hid ho3; have U3 := Lib.hid (Upd.of_below (p := p) hb3); have D3 := Lib.hid (HS.out.keepB hb3); clear ho3 hb3))
  go_ret
  exact ⟨rfl, D4.out, R4.out, w4, U4.out, Upd.refl _ _⟩
theorem refSnap_any (q p n : Nat) (vb : Value) (b : List UInt8) (S : RD) (T : Nat) (x : Int) (w : World) (hq : RWalR w q p n) (hS : Rdk w p S) (hb : Sh w vb b) (hn : n < 4611686018427387903) (hl : b.length ≤ 1000000) (hpq : p ≠ q) (hwi : Wi S T x) (hT : T ≤ 1000000000) (hx : x ≤ 100000000000) :
  Calls Try.prog 34 #[.pointer (some ⟨q, 0, none⟩), vb] w fun e w' => e = .returned (.int .i64 ((S.rsnap n b).2 : Int)) ∧ Rdk w' p (S.rsnap n b).1 ∧ Upd p w w' := by
 have i1 := hwi.replace 1 (frameB (enc n ++ b))
 unfold RD.rsnap
 rcases h1 : S.replace 1 (frameB (enc n ++ b)) with ⟨S1, e1⟩
 rw [h1] at i1
 have i2 := i1.sync 1
 rcases h2 : S1.sync 1 with ⟨S2, e2⟩
 dsimp only at i1 i2 ⊢
 rw [h2] at i2
 have i3 := i2.replace 0 []
 rcases h3 : S2.replace 0 [] with ⟨S3, e3⟩
 rw [h3] at i3
 rcases h4 : S3.sync 0 with ⟨S4, e4⟩
 dsimp only at i2 i3 ⊢
 have K0 := Lib.hid (hwi.k hT (by omega))
 have K1 := Lib.hid (i1.k hT (by omega))
 have K2 := Lib.hid (i2.k hT (by omega))
 have K3 := Lib.hid (i3.k hT (by omega))
 have H1 := Lib.hid h1
 have H2 := Lib.hid h2
 have H3 := Lib.hid h3
 have H4 := Lib.hid h4
 clear h1 h2 h3 h4 i1 i2 i3 hwi
 have HQ := Lib.hid hq
 have HS := Lib.hid hS
 have HB := Lib.hid hb
 have HPQ := Lib.hid hpq
 have FB := Lib.hid (show (frameB (enc n ++ b)).length ≤ 140737488355328 by have := frame_len n b (by omega) hl; omega)
 clear hq hS hb hpq
 have h0 := Row.cell HQ.out 0
 simp only [List.getElem?_cons_succ, List.getElem?_cons_zero] at h0
 by_cases he1 : e1 = 0
 ·subst he1
  rw [if_neg (by simp)]
  by_cases he2 : e2 = 0
  ·subst he2
   rw [if_neg (by simp)]
   by_cases he3 : e3 = 0
   ·subst he3
    rw [if_neg (by simp)]
    go_enter Try.func34, Try.ntmps34
    go_wp2_with (first
     | (go_at_call 50; refine (refSync_of p 0 S3 S4 e4 H4.out _ D6.out (K3.out.l) (K3.out.s) (K3.out.m)).mono ?_; rintro e w7 ⟨rfl, hd, hu⟩; have R7 := Lib.hid (show RWalR w7 q p n from hu.row R6.out HPQ.out.symm); have h07 := Row.cell R7.out 0; have h17 := Row.cell R7.out 1; simp only [List.getElem?_cons_succ, List.getElem?_cons_zero] at h07 h17; have D7 := Lib.hid hd; have U7 := Lib.hid (U6.out.trans hu); clear hd hu)
     | (go_at_call 49; refine (refReplace_of p 0 _ [] S2 S3 0 H3.out _ D5.out (fun w' hu => Sh.nil _) (by simp) (K2.out.l) (K2.out.s) (K2.out.m)).mono ?_; rintro e w6 ⟨rfl, hd, hu⟩; have R6 := Lib.hid (show RWalR w6 q p n from hu.row R5.out HPQ.out.symm); have h06 := Row.cell R6.out 0; have h16 := Row.cell R6.out 1; simp only [List.getElem?_cons_succ, List.getElem?_cons_zero] at h06 h16; have D6 := Lib.hid hd; have U6 := Lib.hid (U5.out.trans hu); clear hd hu)
     | (go_at_call 50; refine (refSync_of p 1 S1 S2 0 H2.out _ D4.out (K1.out.l) (K1.out.s) (K1.out.m)).mono ?_; rintro e w5 ⟨rfl, hd, hu⟩; have R5 := Lib.hid (show RWalR w5 q p n from hu.row R4.out HPQ.out.symm); have h05 := Row.cell R5.out 0; have h15 := Row.cell R5.out 1; simp only [List.getElem?_cons_succ, List.getElem?_cons_zero] at h05 h15; have D5 := Lib.hid hd; have U5 := Lib.hid (U4.out.trans hu); clear hd hu)
     | (go_at_call 49; refine (refReplace_of p 1 _ (frameB (enc n ++ b)) S S1 0 H1.out _ D3.out (fun w' hu => D3.out.sb O3.out hu) (by have := FB.out; omega) (K0.out.l) (K0.out.s) (K0.out.m)).mono ?_; rintro e w4 ⟨rfl, hd, hu⟩; have R4 := Lib.hid (show RWalR w4 q p n from hu.row R3.out HPQ.out.symm); have h04 := Row.cell R4.out 0; have h14 := Row.cell R4.out 1; simp only [List.getElem?_cons_succ, List.getElem?_cons_zero] at h04 h14; have D4 := Lib.hid hd; have U4 := Lib.hid (U3.out.trans hu); clear hd hu)
     | (go_at_call 51; refine (refFramed_any q p n _ b _ HQ.out HB.out (by omega) hl).mono ?_; rintro e w3 ⟨v3, rfl, ho3, hb3⟩; have R3 := Lib.hid (show RWalR w3 q p n from HQ.out.keep hb3); have h03 := Row.cell R3.out 0; simp only [List.getElem?_cons_succ, List.getElem?_cons_zero] at h03; have O3 := Lib.hid ho3; have U3 := Lib.hid (Upd.of_below (p := p) hb3); have D3 := Lib.hid (HS.out.keepB hb3); clear ho3 hb3))
    go_ret
    exact ⟨rfl, D7.out, U7.out⟩
   ·have he3I : ¬ (e3 : Int) = 0 := by omega
    rw [if_pos (by simpa using he3)]
    clear he3
    go_enter Try.func34, Try.ntmps34
    go_wp2_with (first
     | (go_at_call 49; refine (refReplace_of p 0 _ [] S2 S3 e3 H3.out _ D5.out (fun w' hu => Sh.nil _) (by simp) (K2.out.l) (K2.out.s) (K2.out.m)).mono ?_; rintro e w6 ⟨rfl, hd, hu⟩; have R6 := Lib.hid (show RWalR w6 q p n from hu.row R5.out HPQ.out.symm); have h06 := Row.cell R6.out 0; have h16 := Row.cell R6.out 1; simp only [List.getElem?_cons_succ, List.getElem?_cons_zero] at h06 h16; have D6 := Lib.hid hd; have U6 := Lib.hid (U5.out.trans hu); clear hd hu)
     | (go_at_call 50; refine (refSync_of p 1 S1 S2 0 H2.out _ D4.out (K1.out.l) (K1.out.s) (K1.out.m)).mono ?_; rintro e w5 ⟨rfl, hd, hu⟩; have R5 := Lib.hid (show RWalR w5 q p n from hu.row R4.out HPQ.out.symm); have h05 := Row.cell R5.out 0; have h15 := Row.cell R5.out 1; simp only [List.getElem?_cons_succ, List.getElem?_cons_zero] at h05 h15; have D5 := Lib.hid hd; have U5 := Lib.hid (U4.out.trans hu); clear hd hu)
     | (go_at_call 49; refine (refReplace_of p 1 _ (frameB (enc n ++ b)) S S1 0 H1.out _ D3.out (fun w' hu => D3.out.sb O3.out hu) (by have := FB.out; omega) (K0.out.l) (K0.out.s) (K0.out.m)).mono ?_; rintro e w4 ⟨rfl, hd, hu⟩; have R4 := Lib.hid (show RWalR w4 q p n from hu.row R3.out HPQ.out.symm); have h04 := Row.cell R4.out 0; have h14 := Row.cell R4.out 1; simp only [List.getElem?_cons_succ, List.getElem?_cons_zero] at h04 h14; have D4 := Lib.hid hd; have U4 := Lib.hid (U3.out.trans hu); clear hd hu)
     | (go_at_call 51; refine (refFramed_any q p n _ b _ HQ.out HB.out (by omega) hl).mono ?_; rintro e w3 ⟨v3, rfl, ho3, hb3⟩; have R3 := Lib.hid (show RWalR w3 q p n from HQ.out.keep hb3); have h03 := Row.cell R3.out 0; simp only [List.getElem?_cons_succ, List.getElem?_cons_zero] at h03; have O3 := Lib.hid ho3; have U3 := Lib.hid (Upd.of_below (p := p) hb3); have D3 := Lib.hid (HS.out.keepB hb3); clear ho3 hb3))
    go_ret
    exact ⟨rfl, D6.out, U6.out⟩
  ·have he2I : ¬ (e2 : Int) = 0 := by omega
   rw [if_pos (by simpa using he2)]
   clear he2
   go_enter Try.func34, Try.ntmps34
   go_wp2_with (first
    | (go_at_call 50; refine (refSync_of p 1 S1 S2 e2 H2.out _ D4.out (K1.out.l) (K1.out.s) (K1.out.m)).mono ?_; rintro e w5 ⟨rfl, hd, hu⟩; have R5 := Lib.hid (show RWalR w5 q p n from hu.row R4.out HPQ.out.symm); have h05 := Row.cell R5.out 0; have h15 := Row.cell R5.out 1; simp only [List.getElem?_cons_succ, List.getElem?_cons_zero] at h05 h15; have D5 := Lib.hid hd; have U5 := Lib.hid (U4.out.trans hu); clear hd hu)
    | (go_at_call 49; refine (refReplace_of p 1 _ (frameB (enc n ++ b)) S S1 0 H1.out _ D3.out (fun w' hu => D3.out.sb O3.out hu) (by have := FB.out; omega) (K0.out.l) (K0.out.s) (K0.out.m)).mono ?_; rintro e w4 ⟨rfl, hd, hu⟩; have R4 := Lib.hid (show RWalR w4 q p n from hu.row R3.out HPQ.out.symm); have h04 := Row.cell R4.out 0; have h14 := Row.cell R4.out 1; simp only [List.getElem?_cons_succ, List.getElem?_cons_zero] at h04 h14; have D4 := Lib.hid hd; have U4 := Lib.hid (U3.out.trans hu); clear hd hu)
    | (go_at_call 51; refine (refFramed_any q p n _ b _ HQ.out HB.out (by omega) hl).mono ?_; rintro e w3 ⟨v3, rfl, ho3, hb3⟩; have R3 := Lib.hid (show RWalR w3 q p n from HQ.out.keep hb3); have h03 := Row.cell R3.out 0; simp only [List.getElem?_cons_succ, List.getElem?_cons_zero] at h03; have O3 := Lib.hid ho3; have U3 := Lib.hid (Upd.of_below (p := p) hb3); have D3 := Lib.hid (HS.out.keepB hb3); clear ho3 hb3))
   go_ret
   exact ⟨rfl, D5.out, U5.out⟩
 ·have he1I : ¬ (e1 : Int) = 0 := by omega
  rw [if_pos (by simpa using he1)]
  clear he1
  go_enter Try.func34, Try.ntmps34
  go_wp2_with (first
   | (go_at_call 49; refine (refReplace_of p 1 _ (frameB (enc n ++ b)) S S1 e1 H1.out _ D3.out (fun w' hu => D3.out.sb O3.out hu) (by have := FB.out; omega) (K0.out.l) (K0.out.s) (K0.out.m)).mono ?_; rintro e w4 ⟨rfl, hd, hu⟩; have R4 := Lib.hid (show RWalR w4 q p n from hu.row R3.out HPQ.out.symm); have h04 := Row.cell R4.out 0; have h14 := Row.cell R4.out 1; simp only [List.getElem?_cons_succ, List.getElem?_cons_zero] at h04 h14; have D4 := Lib.hid hd; have U4 := Lib.hid (U3.out.trans hu); clear hd hu)
   | (go_at_call 51; refine (refFramed_any q p n _ b _ HQ.out HB.out (by omega) hl).mono ?_; rintro e w3 ⟨v3, rfl, ho3, hb3⟩; have R3 := Lib.hid (show RWalR w3 q p n from HQ.out.keep hb3); have h03 := Row.cell R3.out 0; simp only [List.getElem?_cons_succ, List.getElem?_cons_zero] at h03; have O3 := Lib.hid ho3; have U3 := Lib.hid (Upd.of_below (p := p) hb3); have D3 := Lib.hid (HS.out.keepB hb3); clear ho3 hb3))
  go_ret
  exact ⟨rfl, D4.out, U4.out⟩
theorem refSame15 (has : Bool) (sv sv2 rv rv2 : Value) (nx : Int) (s : List UInt8) (rs : List (List UInt8)) (w : World) (h1 : Sh w sv s) (h2 : Sh w sv2 s) (h3 : Bss w rv rs) (h4 : Bss w rv2 rs) :
  Calls Try.prog 32 #[.agg #[.bool has, sv, rv, .int .u64 nx], .agg #[.bool has, sv2, rv2, .int .u64 nx]] w fun e w' => e = .returned (.bool true) ∧ Below w.heap.size w w' := by
 obtain ⟨x1, c1, rfl, -⟩ := h1.open
 obtain ⟨x2, c2, rfl, -⟩ := h2.open
 obtain ⟨x3, c3, rfl, -⟩ := h3.open
 obtain ⟨x4, c4, rfl, -⟩ := h4.open
 have H1 := Lib.hid h1
 have H2 := Lib.hid h2
 have H3 := Lib.hid h3
 have H4 := Lib.hid h4
 clear h1 h2 h3 h4
 have hba : Below w.heap.size w ((w.alloc (.cells #[.bool has, .slice x1 s.length c1, .slice x3 rs.length c3, .int .u64 nx] 31)).alloc (.cells #[.bool has, .slice x2 s.length c2, .slice x4 rs.length c4, .int .u64 nx] 31)) := balloc (balloc (Below.refl _ _) _) _
 have hc1 := conv_run (H1.out.below hba)
 have hc2 := conv_run (H2.out.below hba)
 go_enter Try.func32, Try.ntmps32
 go_wp2_with (go_at_call 29; refine (Same_any _ _ rs _ (H3.out.below hba) (H4.out.below hba)).mono ?_; rintro e w3 ⟨rfl, hb3⟩)
 go_ret
 exact ⟨rfl, bthen hba hb3 (Nat.le_refl _)⟩
end Go.Proofs.Ytkghkpkiodghiaa
