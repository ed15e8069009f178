/- The disk: what a law does with it: Size, the living call, begins. -/
import Derived.Test.YtkghkpkiodghiaaDsk3p
import Derived.Test.YtkghkpkiodghiaaArr
import Derived.Lib.SlBytesConst
namespace Go.Proofs.Ytkghkpkiodghiaa
set_option linter.unusedVariables false
set_option linter.unusedSimpArgs false
set_option linter.unnecessarySimpa false
open Go.RowKit
set_option maxRecDepth 100000
set_option maxHeartbeats 4000000

theorem Dsk.lt {w : World} {p : Nat} {S : PD} (h : Dsk w p S) : p < w.heap.size := by
 obtain ⟨xa, ka, xb, kb, xc, kc, xd, kd, hR, oa, ob, oc, od⟩ := h
 exact hR.lt
theorem ub {B p : Nat} {w w1 w2 : World} (h : Below B w w1) (hu : Upd p w1 w2) (hp : B ≤ p) (hB : B ≤ w.heap.size) : Below B w w2 := h.trans (hu.below hp (Nat.le_trans hB h.size))
theorem Replace_of (p : Nat) (n : Int) (vb : Value) (b : List UInt8) (S S' : PD) (e : Nat) (he : S.replace n b = (S', e)) (w : World) (hS : Dsk w p S) (hsb : ∀ w', Upd p w w' → Sh w' vb b) (hm : S.left ≤ 9223372036854775807) (ht : S.n0.length + S.n1.length ≤ 100000000000) (hbl : b.length ≤ 140737488355328) (hlim : -1000000000000 ≤ S.lim ∧ S.lim ≤ 1000000000000) :
  Calls Try.prog 25 #[.pointer (some ⟨p, 0, none⟩), .int .i64 n, vb] w fun r w' => r = .returned (.int .i64 (e : Int)) ∧ Dsk w' p S' ∧ Upd p w w' := by
 have := Replace_any p n vb b S w hS hsb hm ht hbl hlim
 rw [he] at this; exact this
theorem Sync_of (p : Nat) (n : Int) (S S' : PD) (e : Nat) (he : S.sync n = (S', e)) (w : World) (hS : Dsk w p S) (hm : S.left ≤ 9223372036854775807) (ht : S.n0.length + S.n1.length ≤ 100000000000) (hlim : -1000000000000 ≤ S.lim ∧ S.lim ≤ 1000000000000) :
  Calls Try.prog 26 #[.pointer (some ⟨p, 0, none⟩), .int .i64 n] w fun r w' => r = .returned (.int .i64 (e : Int)) ∧ Dsk w' p S' ∧ Upd p w w' := by
 have := Sync_any p n S w hS hm ht hlim
 rw [he] at this; exact this
theorem Read_of (p : Nat) (n : Int) (S : PD) (l : List UInt8) (e : Nat) (he : S.read n = (l, e)) (w : World) (hS : Dsk w p S) (ht : S.n0.length + S.n1.length ≤ 100000000000) :
  Calls Try.prog 16 #[.pointer (some ⟨p, 0, none⟩), .int .i64 n] w fun r w' => ∃ v', r = .returned (.tuple #[v', .int .i64 (e : Int)]) ∧ Own w' w.heap.size 5 v' l ∧ Below w.heap.size w w' := by
 have := Read_any p n S w hS ht
 rw [he] at this; exact this
theorem Arm_dsk (p : Nat) (n : Int) (S : PD) (w : World) (hS : Dsk w p S) :
  Calls Try.prog 18 #[.pointer (some ⟨p, 0, none⟩), .int .i64 n] w fun e w' => e = .returned (.tuple #[]) ∧ Dsk w' p { S with left := if n < 0 then 0 else n } ∧ Upd p w w' := by
 obtain ⟨xa, ka, xb, kb, xc, kc, xd, kd, hR, oa, ob, oc, od⟩ := hS
 exact (Arm_row p _ _ _ _ _ _ _ _ n _ w hR).mono fun e w' ⟨h1, h2, h3⟩ => ⟨h1, ⟨xa, ka, xb, kb, xc, kc, xd, kd, h2, dkeep oa hR h3, dkeep ob hR h3, dkeep oc hR h3, dkeep od hR h3⟩, h3⟩
theorem lit_sb {w1 : World} {p : Nat} (fr : Nat × Nat) (l : List UInt8) (hl : l.length ≤ 100) (hp : p < w1.heap.size) : ∀ w', Upd p (w1.alloc (.cells (bytes l).toArray 5 fr)) w' → Sh w' (.slice (some ⟨w1.heap.size, 0, none⟩) l.length l.length) l := by
 intro w' hu
 refine ⟨by simp, _, _, rfl, Nat.le_refl _, by simp only [maxLen]; omega, fun h => by simp at h, ?_⟩
 intro x hx j u hj
 simp only [Option.some.injEq] at hx
 subst hx
 have hc : (w1.alloc (.cells (bytes l).toArray 5 fr)).cell? ((⟨w1.heap.size, 0, none⟩ : Addr).add j) = some u := by
  have h1 : (w1.alloc (.cells (bytes l).toArray 5 fr)).heap[w1.heap.size]? = some (.cells (bytes l).toArray 5 fr) := heap_alloc_new w1 _
  have h2 := cell_of_row _ w1.heap.size j _ _ _ h1
  have h3 : ((⟨w1.heap.size, 0, none⟩ : Addr).add j) = ⟨w1.heap.size, j, none⟩ := by unfold Addr.add; by_cases h : j = 0 <;> simp [h]
  rw [h3, h2]
  simpa using hj
 have hblk : ((⟨w1.heap.size, 0, none⟩ : Addr).add j).block = w1.heap.size := by unfold Addr.add; by_cases h : j = 0 <;> simp [h]
 exact World.grownBy.cell hu hc (by rw [hblk]; simp; omega)
end Go.Proofs.Ytkghkpkiodghiaa
namespace Go.Proofs.Ytkghkpkiodghiaa
set_option linter.unusedVariables false
set_option linter.unusedSimpArgs false
set_option linter.unnecessarySimpa false
open Go.RowKit
set_option maxRecDepth 100000
set_option maxHeartbeats 4000000

/-- 'append([]byte{}, l...)' as a step of a region that draws. -/
theorem step_app_own {P : Program} {t e : TypeId} (ht : P.underlying t = some (.slice e)) (he : (P.info? e).map (fun i => (i.zero, i.size, i.bytes)) = some (some (.int .u8 0), 1, 1))
  {ops : Array Oper} {o : Oper} {a : Act} {w : World} {K : Act → World → Prop} {Q : Exit → Act → World → Prop} {E : Prop} (hw : Region.wanted o (yielded ops a.tmps) = true) (s x : Operand)
  (ho : o.op = .call { callee := .builtin .append, args := #[s, x], argTypes := #[t, t] })
  {g : Nat} {sv : Value} {m : List UInt8} (hs : a.eval s = .slice (some ⟨g, 0, none⟩) 0 0) (hg : Row w g e []) (hx : a.eval x = sv) (hsh : Sh w sv m) (hlen : m.length ≤ 140737488355328)
  (h : ∀ v' w', Own w' g e v' m → Below w.heap.size w w' → K (a.put o.dst v') w') : if Region.wanted o (yielded ops a.tmps) = true then Oper.wp P o a w K Q else E := by
 rw [if_pos hw]
 obtain ⟨i, hi, hz0, hz1, hz2⟩ := info_parts he
 obtain ⟨v', w', hr, g1, g2⟩ := run_app_fresh (P := P) w t o.type e i (.int .u8 0) 1 1 ht hi hz0 hz1 hz2 rfl (by decide) g hg sv _ _ hsh (bytes_one _) (by simp only [maxLen]; omega) (by omega)
 unfold Oper.wp
 simp [execOp, ho, resolve, invoke, builtin, hs, hx, hr, Result.andThen]
 exact h v' w' g1 g2
theorem app_own_w {P : Program} {t e : TypeId} (ht : P.underlying t = some (.slice e)) (he : (P.info? e).map (fun i => (i.zero, i.size, i.bytes)) = some (some (.int .u8 0), 1, 1))
  {ops : Array Oper} {rest : List Oper} {o : Oper} {a : Act} {w : World} {Q : Exit → Act → World → Prop} (hw : Region.wanted o (yielded ops a.tmps) = true) (s x : Operand)
  (ho : o.op = .call { callee := .builtin .append, args := #[s, x], argTypes := #[t, t] })
  {g : Nat} {sv : Value} {m : List UInt8} (hs : a.eval s = .slice (some ⟨g, 0, none⟩) 0 0) (hg : Row w g e []) (hx : a.eval x = sv) (hsh : Sh w sv m) (hlen : m.length ≤ 140737488355328)
  (h : ∀ v' w', Own w' g e v' m → Below w.heap.size w w' → wpList P ops Q rest (a.put o.dst v') w') : wpList P ops Q (o :: rest) a w :=
 wpList_step fun K hK => step_app_own ht he hw s x ho hs hg hx hsh hlen (fun v' w' h1 h2 => hK _ _ (h v' w' h1 h2))
end Go.Proofs.Ytkghkpkiodghiaa
