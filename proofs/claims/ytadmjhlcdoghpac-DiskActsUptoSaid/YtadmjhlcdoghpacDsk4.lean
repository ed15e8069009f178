/- The disk: what a law does with it: Size, the living call, begins. -/
import Derived.Test.YtadmjhlcdoghpacDsk3p
import Derived.Test.YtadmjhlcdoghpacConv
import Derived.Lib.SlBytesConst
namespace Go.Proofs.Ytadmjhlcdoghpac
set_option linter.unusedVariables false
set_option linter.unusedSimpArgs false
set_option linter.unnecessarySimpa false
open Go.RowKit
set_option maxRecDepth 100000
set_option maxHeartbeats 4000000

theorem Dsk.below {w w' : World} {p : Nat} {S : PD} (h : Dsk w p S) (hb : Below w.heap.size w w') : Dsk w' p S := by
  obtain ⟨xa, ka, xb, kb, xc, kc, xd, kd, hR, oa, ob, oc, od⟩ := h
  exact ⟨xa, ka, xb, kb, xc, kc, xd, kd, hR.keep hb, oa.below hb, ob.below hb, oc.below hb, od.below hb⟩
theorem Dsk.lt {w : World} {p : Nat} {S : PD} (h : Dsk w p S) : p < w.heap.size := by
  obtain ⟨xa, ka, xb, kb, xc, kc, xd, kd, hR, oa, ob, oc, od⟩ := h
  exact hR.lt
/-- Bytes of the call's own are kept whatever a disk's call writes. -/
theorem dsk_sb {w : World} {p B : Nat} {S : PD} {v : Value} {b : List UInt8} (h : Dsk w p S) (ho : Own w B 5 v b) : ∀ w', Upd p w w' → Sh w' v b := by
  obtain ⟨xa, ka, xb, kb, xc, kc, xd, kd, hR, oa, ob, oc, od⟩ := h
  exact fun w' hu => (dkeep ho hR hu).sh
theorem dsk_own {w w' : World} {p B : Nat} {S : PD} {v : Value} {b : List UInt8} (h : Dsk w p S) (ho : Own w B 5 v b) (hu : Upd p w w') : Own w' B 5 v b := by
  obtain ⟨xa, ka, xb, kb, xc, kc, xd, kd, hR, oa, ob, oc, od⟩ := h
  exact hu.own ho hR (by decide)
theorem ub {B p : Nat} {w w1 w2 : World} (h : Below B w w1) (hu : Upd p w1 w2) (hp : B ≤ p) (hB : B ≤ w.heap.size) : Below B w w2 := h.trans (hu.below hp (Nat.le_trans hB h.size))
theorem Write_of (p : Nat) (n : Int) (vb : Value) (b : List UInt8) (S S' : PD) (e : Nat) (he : S.write n b = (S', e)) (w : World) (hS : Dsk w p S) (hsb : ∀ w', Upd p w w' → Sh w' vb b) (hm : S.left ≤ 9223372036854775807) (ht : S.n0.length + S.n1.length ≤ 100000000000) (hbl : b.length ≤ 140737488355328) (hlim : -1000000000000 ≤ S.lim ∧ S.lim ≤ 1000000000000) :
    Calls Try.prog 9 #[.pointer (some ⟨p, 0, none⟩), .int .i64 n, vb] w fun r w' => r = .returned (.int .i64 (e : Int)) ∧ Dsk w' p S' ∧ Upd p w w' := by
  have := Write_any p n vb b S w hS hsb hm ht hbl hlim
  rw [he] at this; exact this
theorem Replace_of (p : Nat) (n : Int) (vb : Value) (b : List UInt8) (S S' : PD) (e : Nat) (he : S.replace n b = (S', e)) (w : World) (hS : Dsk w p S) (hsb : ∀ w', Upd p w w' → Sh w' vb b) (hm : S.left ≤ 9223372036854775807) (ht : S.n0.length + S.n1.length ≤ 100000000000) (hbl : b.length ≤ 140737488355328) (hlim : -1000000000000 ≤ S.lim ∧ S.lim ≤ 1000000000000) :
    Calls Try.prog 15 #[.pointer (some ⟨p, 0, none⟩), .int .i64 n, vb] w fun r w' => r = .returned (.int .i64 (e : Int)) ∧ Dsk w' p S' ∧ Upd p w w' := by
  have := Replace_any p n vb b S w hS hsb hm ht hbl hlim
  rw [he] at this; exact this
theorem Sync_of (p : Nat) (n : Int) (S S' : PD) (e : Nat) (he : S.sync n = (S', e)) (w : World) (hS : Dsk w p S) (hm : S.left ≤ 9223372036854775807) (ht : S.n0.length + S.n1.length ≤ 100000000000) (hlim : -1000000000000 ≤ S.lim ∧ S.lim ≤ 1000000000000) :
    Calls Try.prog 10 #[.pointer (some ⟨p, 0, none⟩), .int .i64 n] w fun r w' => r = .returned (.int .i64 (e : Int)) ∧ Dsk w' p S' ∧ Upd p w w' := by
  have := Sync_any p n S w hS hm ht hlim
  rw [he] at this; exact this
theorem Crash_of (p : Nat) (keep : Int) (vb : Value) (tail : List UInt8) (S S' : PD) (he : S.crash keep tail = S') (w : World) (hS : Dsk w p S) (hsb : ∀ w', Upd p w w' → Sh w' vb tail) (ht : S.f0.length + S.n0.length + S.f1.length + S.n1.length ≤ 100000000000) (hct : (S.r0 = false ∧ S.f0.length < S.n0.length) ∨ (S.r1 = false ∧ S.f1.length < S.n1.length) → tail.length ≤ 100000000000) :
    Calls Try.prog 11 #[.pointer (some ⟨p, 0, none⟩), .int .i64 keep, vb] w fun e w' => e = .returned (.tuple #[]) ∧ Dsk w' p S' ∧ Upd p w w' := by
  subst he; exact Crash_any p keep vb tail S w hS hsb ht hct
theorem Read_of (p : Nat) (n : Int) (S : PD) (l : List UInt8) (e : Nat) (he : S.read n = (l, e)) (w : World) (hS : Dsk w p S) (ht : S.n0.length + S.n1.length ≤ 100000000000) :
    Calls Try.prog 12 #[.pointer (some ⟨p, 0, none⟩), .int .i64 n] w fun r w' => ∃ v', r = .returned (.tuple #[v', .int .i64 (e : Int)]) ∧ Own w' w.heap.size 5 v' l ∧ Below w.heap.size w w' := by
  have := Read_any p n S w hS ht
  rw [he] at this; exact this
theorem Size_any (p : Nat) (S : PD) (w : World) (hS : Dsk w p S) (ht : S.n0.length + S.n1.length ≤ 100000000000) :
    Calls Try.prog 18 #[.pointer (some ⟨p, 0, none⟩)] w fun e w' => e = .returned (.int .i64 S.tot) ∧ Below w.heap.size w w' := by
  obtain ⟨xa, ka, xb, kb, xc, kc, xd, kd, hR, oa, ob, oc, od⟩ := hS
  have HR := Lib.hid hR
  clear hR oa ob oc od
  go_enter Try.func18, Try.ntmps18
  go_wp2_with fail
  refine (size_any p _ _ _ _ _ _ _ _ _ _ S.n0 S.n1 _ _ _ _ _ _ HR.out (by omega)).mono ?_; rintro e w1 ⟨rfl, hb1⟩
  go_wp2_with fail
  go_ret
  exact ⟨rfl, hb1⟩
theorem Dead_dsk (p : Nat) (S : PD) (w : World) (hS : Dsk w p S) :
    Calls Try.prog 19 #[.pointer (some ⟨p, 0, none⟩)] w fun e w' => e = .returned (.bool S.dead) ∧ w' = w := by
  obtain ⟨xa, ka, xb, kb, xc, kc, xd, kd, hR, oa, ob, oc, od⟩ := hS
  exact Dead_any p _ _ _ _ _ _ _ _ _ w hR
theorem Arm_dsk (p : Nat) (n : Int) (S : PD) (w : World) (hS : Dsk w p S) :
    Calls Try.prog 21 #[.pointer (some ⟨p, 0, none⟩), .int .i64 n] w fun e w' => e = .returned (.tuple #[]) ∧ Dsk w' p { S with left := if n < 0 then 0 else n } ∧ Upd p w w' := by
  obtain ⟨xa, ka, xb, kb, xc, kc, xd, kd, hR, oa, ob, oc, od⟩ := hS
  exact (Arm_row p _ _ _ _ _ _ _ _ n _ w hR).mono fun e w' ⟨h1, h2, h3⟩ => ⟨h1, ⟨xa, ka, xb, kb, xc, kc, xd, kd, h2, dkeep oa hR h3, dkeep ob hR h3, dkeep oc hR h3, dkeep od hR h3⟩, h3⟩
theorem lit_sb {w1 : World} {p : Nat} (fr : Nat × Nat) (l : List UInt8) (hl : l.length ≤ 100) (hp : p < w1.heap.size) : ∀ w', Upd p (w1.alloc (.cells (bytes l).toArray 5 fr)) w' → Sh w' (.slice (some ⟨w1.heap.size, 0, none⟩) l.length l.length) l := by
  intro w' hu
  refine ⟨by simp, _, _, rfl, Nat.le_refl _, by simp only [maxLen]; omega, fun h => by simp at h, ?_⟩
  intro x hx j u hj
  simp only [Option.some.injEq] at hx
  subst hx
  have hc : (w1.alloc (.cells (bytes l).toArray 5 fr)).cell? ((⟨w1.heap.size, 0, none⟩ : Addr).add j) = some u := by
    have h1 : (w1.alloc (.cells (bytes l).toArray 5 fr)).heap[w1.heap.size]? = some (.cells (bytes l).toArray 5 fr) := heap_alloc_new w1 _
    have h2 := cell_of_row _ w1.heap.size j _ _ _ h1
    have h3 : ((⟨w1.heap.size, 0, none⟩ : Addr).add j) = ⟨w1.heap.size, j, none⟩ := by unfold Addr.add; by_cases h : j = 0 <;> simp [h]
    rw [h3, h2]
    simpa using hj
  have hblk : ((⟨w1.heap.size, 0, none⟩ : Addr).add j).block = w1.heap.size := by unfold Addr.add; by_cases h : j = 0 <;> simp [h]
  exact World.grownBy.cell hu hc (by rw [hblk]; simp; omega)
theorem lives14 (w : World) : Calls Try.prog 14 #[] w fun e w' => e = .returned (.bool true) ∧ Below w.heap.size w w' := by
  have kc := fun (w : World) (C : Array Value) (n c : Nat) => Lib.run_convert_bytes_const (P := Try.prog) w 23 5 C n c Try.underlying23 Try.underlying5
  go_enter Try.func14, Try.ntmps14
  go_wp2_with fail
  refine (New_any 100 _).mono ?_; rintro e w1 ⟨rfl, hd1, hb1, hs1⟩
  have hd1 : Dsk w1 w.heap.size ⟨[], [], false, [], [], false, 100, -1, false⟩ := hd1
  generalize hp : w.heap.size = p at *
  have hlt1 := hd1.lt
  go_wp2_with fail
  have hba := balloc (Below.refl w1.heap.size w1) (.cells #[.int .u8 97, .int .u8 98] 5 (2, 3))
  have hdA := hd1.below hba
  refine (Write_of p 0 _ [97, 98] _ ⟨[], [97, 98], false, [], [], false, 100, -1, false⟩ 0 rfl _ hdA (lit_sb (2, 3) [97, 98] (by decide) (by assumption)) (by decide) (by decide) (by decide) (by decide)).mono ?_; rintro e w2 ⟨rfl, hd2, hu2⟩
  have hb2 := ub (bthen hb1 hba (by omega)) hu2 (Nat.le_refl _) (by omega)
  go_wp2_with fail
  refine (Sync_of p 0 _ ⟨[97, 98], [97, 98], false, [], [], false, 100, -1, false⟩ 0 rfl _ hd2 (by decide) (by decide) (by decide)).mono ?_; rintro e w3 ⟨rfl, hd3, hu3⟩
  have hlt3 := hd3.lt
  have hb3 := ub hb2 hu3 (Nat.le_refl _) (by omega)
  go_wp2_with fail
  have hbb := balloc (Below.refl w3.heap.size w3) (.cells #[.int .u8 99, .int .u8 100] 5 (2, 3))
  have hdB := hd3.below hbb
  refine (Write_of p 0 _ [99, 100] _ ⟨[97, 98], [97, 98, 99, 100], false, [], [], false, 100, -1, false⟩ 0 rfl _ hdB (lit_sb (2, 3) [99, 100] (by decide) (by assumption)) (by decide) (by decide) (by decide) (by decide)).mono ?_; rintro e w4 ⟨rfl, hd4, hu4⟩
  have hlt4 := hd4.lt
  have hb4 := ub (bthen hb3 hbb (by omega)) hu4 (Nat.le_refl _) (by omega)
  go_wp2_with fail
  have hbc := balloc (Below.refl w4.heap.size w4) (.cells #[.int .u8 120] 5 (1, 2))
  have hdC := hd4.below hbc
  refine (Crash_of p 1 _ [120] _ ⟨[97, 98, 99, 120], [97, 98, 99, 120], false, [], [], false, 100, -1, false⟩ rfl _ hdC (lit_sb (1, 2) [120] (by decide) (by assumption)) (by decide) (by decide)).mono ?_; rintro e w5 ⟨rfl, hd5, hu5⟩
  have hb5 := ub (bthen hb4 hbc (by omega)) hu5 (Nat.le_refl _) (by omega)
  go_wp2_with fail
  refine (Read_of p 0 _ [97, 98, 99, 120] 0 rfl _ hd5 (by decide)).mono ?_; rintro e w6 ⟨v6, rfl, ho6, hb6⟩
  have hc6 := conv_run ho6.sh
  have hd6 := hd5.below hb6
  have hb06 := bthen hb5 hb6 (by omega)
  go_wp2_with (go_at_call 18; refine (Size_any p _ _ hd6 (by decide)).mono ?_; rw [show PD.tot ⟨[97, 98, 99, 120], [97, 98, 99, 120], false, [], [], false, 100, -1, false⟩ = 4 from rfl]; rintro e w7 ⟨rfl, hb7⟩)
  go_ret
  rw [← hp] at hb06
  exact ⟨rfl, bthen hb06 hb7 (Nat.le_refl _)⟩
theorem begins_yes (v hv : Value) (l h : List UInt8) (w : World) (h1 : Sh w v l) (h2 : Sh w hv h) (hp : l.take h.length = h) :
    Calls Try.prog 13 #[v, hv] w fun e w' => e = .returned (.bool true) ∧ Below w.heap.size w w' := by
  have hle : h.length ≤ l.length := by have := congrArg List.length hp; rw [List.length_take] at this; omega
  have h3 := h1
  obtain ⟨x, c, rfl, k1, k2, -⟩ := h1.open
  obtain ⟨x2, c2, rfl, -⟩ := h2.open
  have htk := h3.take h.length hle
  rw [hp] at htk
  have hc1 : ∀ m, (convert 23 9 (.slice x h.length c)).run Try.prog (w.drewN m) = .ok (.string ⟨h.toArray⟩) (w.drewN m) := fun m => conv_run (htk.drewN m)
  have hc2 : ∀ m, (convert 23 9 (.slice x2 h.length c2)).run Try.prog (w.drewN m) = .ok (.string ⟨h.toArray⟩) (w.drewN m) := fun m => conv_run (h2.drewN m)
  have hleI : (h.length : Int) ≤ (l.length : Int) := by omega
  have hlcI : (h.length : Int) ≤ (c : Int) := by omega
  clear h1 h2 h3 htk hp
  go_enter Try.func13, Try.ntmps13
  go_wp2_with fail
  go_quiet (fail)
  clear hc1 hc2
  go_wp2_with fail
  go_ret
  exact ⟨rfl, drewN_below _ _⟩
end Go.Proofs.Ytadmjhlcdoghpac
