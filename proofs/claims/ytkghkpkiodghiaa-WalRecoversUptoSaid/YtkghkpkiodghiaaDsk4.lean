/- The disk: what a law does with it: Size, the living call, begins. -/
import Derived.Test.YtkghkpkiodghiaaDsk3p
import Derived.Test.YtkghkpkiodghiaaConv
import Derived.Lib.SlBytesConst
namespace Go.Proofs.Ytkghkpkiodghiaa
set_option linter.unusedVariables false
set_option linter.unusedSimpArgs false
set_option linter.unnecessarySimpa false
open Go.RowKit
set_option maxRecDepth 100000
set_option maxHeartbeats 4000000

theorem Dsk.below {w w' : World} {p : Nat} {S : PD} (h : Dsk w p S) (hb : Below w.heap.size w w') : Dsk w' p S := by
  obtain ⟨xa, ka, xb, kb, xc, kc, xd, kd, hR, oa, ob, oc, od⟩ := h
  exact ⟨xa, ka, xb, kb, xc, kc, xd, kd, hR.keep hb, oa.below hb, ob.below hb, oc.below hb, od.below hb⟩
theorem Dsk.lt {w : World} {p : Nat} {S : PD} (h : Dsk w p S) : p < w.heap.size := by
  obtain ⟨xa, ka, xb, kb, xc, kc, xd, kd, hR, oa, ob, oc, od⟩ := h
  exact hR.lt
/-- Bytes of the call's own are kept whatever a disk's call writes. -/
theorem dsk_sb {w : World} {p B : Nat} {S : PD} {v : Value} {b : List UInt8} (h : Dsk w p S) (ho : Own w B 5 v b) : ∀ w', Upd p w w' → Sh w' v b := by
  obtain ⟨xa, ka, xb, kb, xc, kc, xd, kd, hR, oa, ob, oc, od⟩ := h
  exact fun w' hu => (dkeep ho hR hu).sh
theorem dsk_own {w w' : World} {p B : Nat} {S : PD} {v : Value} {b : List UInt8} (h : Dsk w p S) (ho : Own w B 5 v b) (hu : Upd p w w') : Own w' B 5 v b := by
  obtain ⟨xa, ka, xb, kb, xc, kc, xd, kd, hR, oa, ob, oc, od⟩ := h
  exact hu.own ho hR (by decide)
theorem ub {B p : Nat} {w w1 w2 : World} (h : Below B w w1) (hu : Upd p w1 w2) (hp : B ≤ p) (hB : B ≤ w.heap.size) : Below B w w2 := h.trans (hu.below hp (Nat.le_trans hB h.size))
theorem Write_of (p : Nat) (n : Int) (vb : Value) (b : List UInt8) (S S' : PD) (e : Nat) (he : S.write n b = (S', e)) (w : World) (hS : Dsk w p S) (hsb : ∀ w', Upd p w w' → Sh w' vb b) (hm : S.left ≤ 9223372036854775807) (ht : S.n0.length + S.n1.length ≤ 100000000000) (hbl : b.length ≤ 140737488355328) (hlim : -1000000000000 ≤ S.lim ∧ S.lim ≤ 1000000000000) :
    Calls Try.prog 28 #[.pointer (some ⟨p, 0, none⟩), .int .i64 n, vb] w fun r w' => r = .returned (.int .i64 (e : Int)) ∧ Dsk w' p S' ∧ Upd p w w' := by
  have := Write_any p n vb b S w hS hsb hm ht hbl hlim
  rw [he] at this; exact this
theorem Replace_of (p : Nat) (n : Int) (vb : Value) (b : List UInt8) (S S' : PD) (e : Nat) (he : S.replace n b = (S', e)) (w : World) (hS : Dsk w p S) (hsb : ∀ w', Upd p w w' → Sh w' vb b) (hm : S.left ≤ 9223372036854775807) (ht : S.n0.length + S.n1.length ≤ 100000000000) (hbl : b.length ≤ 140737488355328) (hlim : -1000000000000 ≤ S.lim ∧ S.lim ≤ 1000000000000) :
    Calls Try.prog 25 #[.pointer (some ⟨p, 0, none⟩), .int .i64 n, vb] w fun r w' => r = .returned (.int .i64 (e : Int)) ∧ Dsk w' p S' ∧ Upd p w w' := by
  have := Replace_any p n vb b S w hS hsb hm ht hbl hlim
  rw [he] at this; exact this
theorem Sync_of (p : Nat) (n : Int) (S S' : PD) (e : Nat) (he : S.sync n = (S', e)) (w : World) (hS : Dsk w p S) (hm : S.left ≤ 9223372036854775807) (ht : S.n0.length + S.n1.length ≤ 100000000000) (hlim : -1000000000000 ≤ S.lim ∧ S.lim ≤ 1000000000000) :
    Calls Try.prog 26 #[.pointer (some ⟨p, 0, none⟩), .int .i64 n] w fun r w' => r = .returned (.int .i64 (e : Int)) ∧ Dsk w' p S' ∧ Upd p w w' := by
  have := Sync_any p n S w hS hm ht hlim
  rw [he] at this; exact this
theorem Crash_of (p : Nat) (keep : Int) (vb : Value) (tail : List UInt8) (S S' : PD) (he : S.crash keep tail = S') (w : World) (hS : Dsk w p S) (hsb : ∀ w', Upd p w w' → Sh w' vb tail) (ht : S.f0.length + S.n0.length + S.f1.length + S.n1.length ≤ 100000000000) (hct : (S.r0 = false ∧ S.f0.length < S.n0.length) ∨ (S.r1 = false ∧ S.f1.length < S.n1.length) → tail.length ≤ 100000000000) :
    Calls Try.prog 21 #[.pointer (some ⟨p, 0, none⟩), .int .i64 keep, vb] w fun e w' => e = .returned (.tuple #[]) ∧ Dsk w' p S' ∧ Upd p w w' := by
  subst he; exact Crash_any p keep vb tail S w hS hsb ht hct
theorem Read_of (p : Nat) (n : Int) (S : PD) (l : List UInt8) (e : Nat) (he : S.read n = (l, e)) (w : World) (hS : Dsk w p S) (ht : S.n0.length + S.n1.length ≤ 100000000000) :
    Calls Try.prog 16 #[.pointer (some ⟨p, 0, none⟩), .int .i64 n] w fun r w' => ∃ v', r = .returned (.tuple #[v', .int .i64 (e : Int)]) ∧ Own w' w.heap.size 5 v' l ∧ Below w.heap.size w w' := by
  have := Read_any p n S w hS ht
  rw [he] at this; exact this
theorem Dead_dsk (p : Nat) (S : PD) (w : World) (hS : Dsk w p S) :
    Calls Try.prog 20 #[.pointer (some ⟨p, 0, none⟩)] w fun e w' => e = .returned (.bool S.dead) ∧ w' = w := by
  obtain ⟨xa, ka, xb, kb, xc, kc, xd, kd, hR, oa, ob, oc, od⟩ := hS
  exact Dead_any p _ _ _ _ _ _ _ _ _ w hR
theorem Arm_dsk (p : Nat) (n : Int) (S : PD) (w : World) (hS : Dsk w p S) :
    Calls Try.prog 18 #[.pointer (some ⟨p, 0, none⟩), .int .i64 n] w fun e w' => e = .returned (.tuple #[]) ∧ Dsk w' p { S with left := if n < 0 then 0 else n } ∧ Upd p w w' := by
  obtain ⟨xa, ka, xb, kb, xc, kc, xd, kd, hR, oa, ob, oc, od⟩ := hS
  exact (Arm_row p _ _ _ _ _ _ _ _ n _ w hR).mono fun e w' ⟨h1, h2, h3⟩ => ⟨h1, ⟨xa, ka, xb, kb, xc, kc, xd, kd, h2, dkeep oa hR h3, dkeep ob hR h3, dkeep oc hR h3, dkeep od hR h3⟩, h3⟩
theorem lit_sb {w1 : World} {p : Nat} (fr : Nat × Nat) (l : List UInt8) (hl : l.length ≤ 100) (hp : p < w1.heap.size) : ∀ w', Upd p (w1.alloc (.cells (bytes l).toArray 5 fr)) w' → Sh w' (.slice (some ⟨w1.heap.size, 0, none⟩) l.length l.length) l := by
  intro w' hu
  refine ⟨by simp, _, _, rfl, Nat.le_refl _, by simp only [maxLen]; omega, fun h => by simp at h, ?_⟩
  intro x hx j u hj
  simp only [Option.some.injEq] at hx
  subst hx
  have hc : (w1.alloc (.cells (bytes l).toArray 5 fr)).cell? ((⟨w1.heap.size, 0, none⟩ : Addr).add j) = some u := by
    have h1 : (w1.alloc (.cells (bytes l).toArray 5 fr)).heap[w1.heap.size]? = some (.cells (bytes l).toArray 5 fr) := heap_alloc_new w1 _
    have h2 := cell_of_row _ w1.heap.size j _ _ _ h1
    have h3 : ((⟨w1.heap.size, 0, none⟩ : Addr).add j) = ⟨w1.heap.size, j, none⟩ := by unfold Addr.add; by_cases h : j = 0 <;> simp [h]
    rw [h3, h2]
    simpa using hj
  have hblk : ((⟨w1.heap.size, 0, none⟩ : Addr).add j).block = w1.heap.size := by unfold Addr.add; by_cases h : j = 0 <;> simp [h]
  exact World.grownBy.cell hu hc (by rw [hblk]; simp; omega)
end Go.Proofs.Ytkghkpkiodghiaa
