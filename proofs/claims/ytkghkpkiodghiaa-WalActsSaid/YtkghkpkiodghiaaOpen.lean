/- Of no program: what the reading of an argument (DataW.Trod) gives the walk. -/
import Derived.Test.YtkghkpkiodghiaaBase
import Derived.Test.YtkghkpkiodghiaaRows
import Derived.ProofKit
import Derived.OpenShut
import Derived.ShutString
import Derived.ChangeOld
import Derived.SizedLaws
import Derived.Lib.SmallJoins
import Derived.Deep.CondSized
import Derived.Below
import Derived.Deep.Slices
import Derived.Test.YtkghkpkiodghiaaArr
import Derived.Deep.Strs
namespace Go.Proofs.Ytkghkpkiodghiaa
set_option linter.unusedVariables false
set_option linter.unusedSimpArgs false
set_option linter.unnecessarySimpa false
open Go.RowKit Go.ChangeShapes Go.WideShapes Go.ChangeAt
open Go.ChangeMaps (open_string shut_string)

/-- How many places a slice's datum has. -/
def dlen {H : Type} : DataW H → Nat
 | .slice es sp => es.length + sp.length
 | _ => 0
theorem wf_u8 {a : Int} (h : (Lit.int .u8 a).wf = true) : 0 ≤ a ∧ a < 256 := by
 simp [Lit.wf, IntKind.min, IntKind.max, IntKind.bits, IntKind.signed] at h; omega
theorem wf_i64 {a : Int} (h : (Lit.int .i64 a).wf = true) : -9223372036854775808 ≤ a ∧ a ≤ 9223372036854775807 := by
 simp [Lit.wf, IntKind.min, IntKind.max, IntKind.bits, IntKind.signed] at h; omega

section
variable {H : Type} {enc : TypeId × Value → H} {P : Program} {W : World} {base : Nat} {t e : TypeId} {v : Value} {d : DataW H} {p : List MemPlace}
/-- The form's own reach, of a slice of bytes. -/
theorem reach_bytes {ts : List TypeId} {ds : List (DataW H)} (h : (DataW.weightsEach P ts ds).all (· ≤ reachBytes) = true) {j : Nat} (ht : ts[j]? = some t) (hd : ds[j]? = some d) (hu : P.underlying t = some (.slice e)) {k : Nat} (hb : P.bytesOf e = k) (hs : ∃ es sp, d = .slice es sp) :
  dlen d * k ≤ 140737488351232 := by
 obtain ⟨es, sp, rfl⟩ := hs
 have := sized_slice h ht hd hu
 rw [hb] at this
 simpa [dlen, reachBytes] using this
theorem reach_slice {ts : List TypeId} {ds : List (DataW H)} (h : (DataW.weightsEach P ts ds).all (· ≤ reachBytes) = true) {j : Nat} (ht : ts[j]? = some t) (hd : ds[j]? = some d) (hu : P.underlying t = some (.slice e)) {k : Nat} (hb : P.bytesOf e = k) :
  dlen d * k ≤ 140737488351232 := by
 cases d with
 | slice es sp => exact reach_bytes h ht hd hu hb ⟨es, sp, rfl⟩
 | _ => simp [dlen]
end
end Go.Proofs.Ytkghkpkiodghiaa
namespace Go.Proofs.Ytkghkpkiodghiaa
set_option linter.unusedVariables false
set_option linter.unusedSimpArgs false
set_option linter.unnecessarySimpa false
open Go.RowKit Go.ChangeShapes Go.WideShapes Go.ChangeAt Go.Deep
open Go.ChangeMaps (open_string shut_string)

/-- A slice that holds slices of bytes. -/
def Bss (w : World) (v : Value) (Ls : List (List UInt8)) : Prop :=
 ∃ xs : List Value, Shows w 1 v Ls.length xs ∧ ∀ i, i < Ls.length → ∃ u, xs[i]? = some u ∧ Sh w u (Ls.getD i [])
theorem Bss.below {w w' : World} {v : Value} {Ls : List (List UInt8)} (h : Bss w v Ls) (hb : Below w.heap.size w w') : Bss w' v Ls := by
 obtain ⟨xs, h1, h2⟩ := h
 exact ⟨xs, h1.below hb, fun i hi => by obtain ⟨u, hu, hs⟩ := h2 i hi; exact ⟨u, hu, hs.below hb⟩⟩
theorem Bss.open {w : World} {v : Value} {Ls : List (List UInt8)} (h : Bss w v Ls) : ∃ a cap, v = .slice a Ls.length cap ∧ Ls.length ≤ cap ∧ cap ≤ 9223372036854775807 ∧ (a = none → cap = 0) := by
 obtain ⟨xs, h1, h2⟩ := h
 obtain ⟨a, cap, e, k1, k2, k3, _⟩ := Shows.open h1
 exact ⟨a, cap, e, k1, k2, k3⟩
theorem Bss.cells {w : World} {a : Option Addr} {n cap : Nat} {Ls : List (List UInt8)} (h : Bss w (.slice a n cap) Ls) (hl : 0 < Ls.length) :
  ∃ b off, a = some ⟨b, off, none⟩ ∧ n = Ls.length ∧ ∀ i, i < Ls.length → ∃ u, w.cell? ⟨b, off + i, none⟩ = some u ∧ Sh w u (Ls.getD i []) := by
 obtain ⟨xs, h1, h2⟩ := h
 have h3 := h1
 obtain ⟨hxl, a', cap', he, -⟩ := h1
 simp only [Value.slice.injEq] at he
 obtain ⟨rfl, rfl, rfl⟩ := he
 obtain ⟨b, off, rfl, hc⟩ := Shows.cells1 h3 (by omega)
 exact ⟨b, off, rfl, rfl, fun i hi => by obtain ⟨u, hu, hs⟩ := h2 i hi; exact ⟨u, hc i u hu, hs⟩⟩

section
variable {H : Type} {enc : TypeId × Value → H} {P : Program} {W : World} {base : Nat} {t e : TypeId} {v : Value} {d : DataW H} {p : List MemPlace}
theorem open_bytes_core {b0 fuel : Nat} {cs : List Value} {x : DataW H × List MemPlace} (ht : P.underlying t = some (.slice e)) (he : P.underlying e = some (.int .u8)) (hc : P.cellsOf e = 1)
  (hf : DataW.trod enc P W b0 (fun _ => true) true fuel t cs = some x) : ∃ (u : Value) (l : List UInt8), cs = [u] ∧ Sh W u l ∧ l.length ≤ dlen x.1 := by
 rcases open_ints ht he hc hf with ⟨hcs, hx⟩ | ⟨x', l, c, zs, hcs, _, hl, hm, hz, hx, hcell, hwz⟩
 ·exact ⟨_, [], hcs, Sh.nil _, Nat.zero_le _⟩
 ·simp only [if_true] at hz
  have e1 : ((zs.take l).map ofI).length = l := by simp; omega
  refine ⟨_, (zs.take l).map ofI, hcs, ?_, ?_⟩
  ·unfold Sh
   rw [e1]
   refine ⟨by rw [bytes_length, e1]; simp, _, _, rfl, hl, hm, fun h => by simp at h, ?_⟩
   intro y hy j u hu
   simp only [Option.some.injEq] at hy
   subst hy
   rw [bytes_get, List.getElem?_map, List.getElem?_take] at hu
   split at hu
   ·rename_i hj
    have hj' : j < zs.length := by omega
    have hw := wf_u8 (hwz zs[j] (List.getElem_mem hj'))
    rw [List.getElem?_eq_getElem hj'] at hu
    simp only [Option.map_some, Option.some.injEq] at hu
    subst hu
    rw [hcell j hj', ofI_toNat hw]
    simp [List.getD, List.getElem?_eq_getElem hj']
   ·simp at hu
  ·rw [e1, hx]
   simp [dlen, lits]; omega
theorem weights_mem_all {e : TypeId} {x : DataW H} : ∀ {es : List (DataW H)}, x ∈ es → ∀ n ∈ x.weights P e, n ∈ DataW.weightsAll P e es
 | y :: es, h, n, hn => by
  simp only [DataW.weightsAll, List.mem_append]
  rcases List.mem_cons.1 h with rfl | h
  ·exact Or.inl hn
  ·exact Or.inr (weights_mem_all h n hn)
end
end Go.Proofs.Ytkghkpkiodghiaa
namespace Go.Proofs.Ytkghkpkiodghiaa
set_option linter.unusedVariables false
set_option linter.unusedSimpArgs false
set_option linter.unnecessarySimpa false
open Go.RowKit Go.ChangeShapes Go.WideShapes Go.ChangeAt Go.Deep
open Go.ChangeMaps (open_string shut_string)
section
variable {H : Type} {enc : TypeId × Value → H} {P : Program} {W : World} {base : Nat} {t e : TypeId} {v : Value} {d : DataW H} {p : List MemPlace}
theorem list_of {β : Type} (d : β) (p : Nat → β → Prop) : ∀ n, (∀ i, i < n → ∃ b, p i b) → ∃ L : List β, L.length = n ∧ ∀ i, i < n → p i (L.getD i d)
 | 0, _ => ⟨[], rfl, fun i h => by omega⟩
 | n + 1, h => by
  obtain ⟨L, hl, hL⟩ := list_of d p n fun i hi => h i (by omega)
  obtain ⟨b, hb⟩ := h n (by omega)
  refine ⟨L ++ [b], by simp [hl], fun i hi => ?_⟩
  by_cases hin : i < n
  ·have := hL i hin
   simpa [List.getD, List.getElem?_append_left (show i < L.length by omega)] using this
  ·obtain rfl : i = n := by omega
   simpa [List.getD, List.getElem?_append_right (show L.length ≤ i by omega), hl] using hb
theorem addr_add_add (a : Addr) (i j : Nat) : (a.add i).add j = a.add (i + j) := by
 unfold Addr.add
 by_cases h1 : i = 0 <;> by_cases h2 : j = 0 <;> simp [h1, h2, Nat.add_assoc]
end
end Go.Proofs.Ytkghkpkiodghiaa
namespace Go.Proofs.Ytkghkpkiodghiaa
set_option linter.unusedVariables false
set_option linter.unusedSimpArgs false
set_option linter.unnecessarySimpa false
open Go.RowKit Go.ChangeShapes Go.WideShapes Go.ChangeAt Go.Deep
set_option maxRecDepth 100000

/-- One call: its kind, number, bytes. -/
structure WD where
 K : Int
 N : Int
 B : List UInt8
def dWD : WD := ⟨0, 0, []⟩
def isIn (a : Int) : Prop := -9223372036854775808 ≤ a ∧ a ≤ 9223372036854775807
/-- One call in memory. -/
def ActW (w : World) (b off : Nat) (A : WD) : Prop := ∃ ov, w.cell? ⟨b, off, none⟩ = some (.int .i64 A.K) ∧ w.cell? ⟨b, off + 1, none⟩ = some (.int .i64 A.N) ∧ w.cell? ⟨b, off + 2, none⟩ = some ov ∧ Sh w ov A.B
/-- A slice of calls. -/
def ActsW (w : World) (v : Value) (As : List WD) : Prop := ∃ a cap, v = .slice a As.length cap ∧ As.length ≤ cap ∧ cap ≤ 9223372036854775807 ∧ ∀ i, i < As.length → ∃ b off, a = some ⟨b, off, none⟩ ∧ ActW w b (off + i * 3) (As.getD i dWD)
theorem ActsW.open {w : World} {v : Value} {As : List WD} (h : ActsW w v As) : ∃ a cap, v = .slice a As.length cap ∧ As.length ≤ cap ∧ cap ≤ 9223372036854775807 := by
 obtain ⟨a, cap, h1, h2, h3, -⟩ := h
 exact ⟨a, cap, h1, h2, h3⟩
theorem ActsW.at {w : World} {a : Option Addr} {n cap : Nat} {As : List WD} (h : ActsW w (.slice a n cap) As) {i : Nat} (hi : i < As.length) : ∃ b off, a = some ⟨b, off, none⟩ ∧ ActW w b (off + i * 3) (As.getD i dWD) := by
 obtain ⟨a', cap', he, h2, h3, h4⟩ := h
 simp only [Value.slice.injEq] at he
 obtain ⟨rfl, rfl, rfl⟩ := he
 exact h4 i hi
section
variable {H : Type} {enc : TypeId × Value → H} {W : World} {base : Nat} {v : Value} {d : DataW H} {p : List MemPlace}
theorem open_actw_core {b0 fuel : Nat} {cs : List Value} {x : DataW H × List MemPlace} (hf : DataW.trod enc Try.prog W b0 (fun _ => true) true fuel 38 cs = some x) :
  ∃ (A : WD) (ov : Value) (a b y : DataW H), cs = [.int .i64 A.K, .int .i64 A.N, ov] ∧ Sh W ov A.B ∧ isIn A.K ∧ isIn A.N ∧ x.1 = .agg [a, b, y] ∧ A.B.length ≤ dlen y := by
 obtain ⟨y0, y1, y2, n, hx, hl, h0, h1, h2⟩ := trod_struct3 Try.underlying38 hf
 have hc3 : Try.prog.cellsOf 38 = 3 := by kernel_rfl
 rw [hc3] at hl
 match cs, hl with
 | [c0, c1, c2], _ =>
  have k3 : Try.prog.cellsOf 3 = 1 := by kernel_rfl
  have k23 : Try.prog.cellsOf 27 = 1 := by kernel_rfl
  simp only [k3, k23, List.drop_zero, List.drop_succ_cons, List.take_succ_cons, List.take_zero] at h0 h1 h2
  obtain ⟨K, e0, rfl, w0⟩ := DataW.trod_int Try.underlying3 h0
  obtain ⟨N, e1, rfl, w1⟩ := DataW.trod_int Try.underlying3 h1
  obtain ⟨u, l, e2, hs, hll⟩ := open_bytes_core Try.underlying27 Try.underlying5 (by kernel_rfl) h2
  simp only [List.cons.injEq, and_true] at e0 e1 e2
  subst e0 e1 e2
  exact ⟨⟨K, N, l⟩, c2, _, _, y2.1, rfl, hs, wf_i64 w0, wf_i64 w1, by rw [hx], hll⟩
theorem open_actsw (hv : Value.okWide Try.prog W .any base 23 v) (h : DataW.Trod enc Try.prog W 0 (fun _ => true) true 23 v d p) :
  ∃ As : List WD, ActsW W v As ∧ As.length ≤ dlen d ∧ ∀ i, i < As.length → (isIn (As.getD i dWD).K ∧ isIn (As.getD i dWD).N) ∧ ∃ x es sp a b y, d = .slice es sp ∧ x ∈ es ∧ x = .agg [a, b, y] ∧ (As.getD i dWD).B.length ≤ dlen y := by
 obtain ⟨a, len, cap, rfl⟩ := okWide_slice Try.underlying23 hv
 obtain ⟨fuel, hf⟩ := h
 rcases open_slice Try.underlying23 hf with ⟨hcs, hx⟩ | ⟨x, l, c, m, n', D, Pl, hcs, _, hl, hm, hmm, hx, hcell⟩
 ·simp [Value.cells] at hcs
  obtain ⟨rfl, rfl, rfl⟩ := hcs
  exact ⟨[], ⟨none, 0, rfl, Nat.le_refl _, by omega, fun i hi => by simp at hi⟩, Nat.zero_le _, fun i hi => by simp at hi⟩
 ·simp [Value.cells] at hcs
  obtain ⟨rfl, rfl, rfl⟩ := hcs
  simp only [Prod.mk.injEq] at hx
  simp only [if_true] at hmm
  have hc3 : Try.prog.cellsOf 38 = 3 := by kernel_rfl
  obtain ⟨As, hL, hp⟩ := list_of dWD (fun i A => ∃ (ov : Value) (a b y : DataW H), W.cells? 0 (x.add (i * 3)) 3 = some [.int .i64 A.K, .int .i64 A.N, ov] ∧ Sh W ov A.B ∧ (isIn A.K ∧ isIn A.N) ∧ D i = .agg [a, b, y] ∧ A.B.length ≤ dlen y) len fun i hi => by
   obtain ⟨cs', h1, h2⟩ := hcell i (by omega)
   obtain ⟨A, ov, a, b, y, rfl, h3, h4, h6, h7, h8⟩ := open_actw_core h2
   rw [hc3] at h1
   exact ⟨A, ov, a, b, y, h1, h3, ⟨h4, h6⟩, h7, h8⟩
  subst hL
  refine ⟨As, ⟨some x, cap, rfl, hl, by simpa [maxLen] using hm, fun i hi => ?_⟩, by rw [hx.1]; simp [dlen], fun i hi => ?_⟩
  ·obtain ⟨ov, _, _, _, h1, h2, -⟩ := hp i hi
   unfold World.cells? at h1
   simp only [Nat.zero_le, if_true] at h1
   have c0 := mapM_some_get h1 0 0 (by simp)
   have c1 := mapM_some_get h1 1 1 (by simp)
   have c2 := mapM_some_get h1 2 2 (by simp)
   simp only [List.getElem?_cons_zero, List.getElem?_cons_succ, addr_add_add] at c0 c1 c2
   obtain ⟨b, off, spot⟩ := x
   have hspot : spot = none := by
    obtain ⟨ov0, _, _, _, g1, -⟩ := hp 0 (by omega)
    unfold World.cells? at g1
    simp only [Nat.zero_le, if_true] at g1
    have d0 := mapM_some_get g1 0 0 (by simp)
    simp only [List.getElem?_cons_zero, addr_add_add] at d0
    simpa [Addr.add] using World.cell?_spot d0
   subst hspot
   rw [Addr.add_lit] at c0 c1 c2
   exact ⟨b, off, rfl, ov, c0, c1, c2, h2⟩
  ·obtain ⟨ov, a, b, y, h1, h2, h3, h4, h5⟩ := hp i hi
   exact ⟨h3, D i, _, _, a, b, y, hx.1, List.mem_map.2 ⟨i, by simpa using hi, rfl⟩, h4, h5⟩
/-- The form's own reach, of a list's calls' bytes. -/
theorem reach_actsw {ts : List TypeId} {ds : List (DataW H)} (h : (DataW.weightsEach Try.prog ts ds).all (· ≤ reachBytes) = true) {j : Nat} {es sp : List (DataW H)} {a b y : DataW H} (ht : ts[j]? = some 23) (hd : ds[j]? = some (.slice es sp)) (hx : DataW.agg [a, b, y] ∈ es) : dlen y ≤ 140737488351232 := by
 cases y with
 | slice e1 e2 =>
  have hb : Try.prog.bytesOf 5 = 1 := by kernel_rfl
  have h1 : (e1.length + e2.length) * Try.prog.bytesOf 5 ∈ (DataW.slice e1 e2).weights Try.prog 27 := by simp [DataW.weights, Try.underlying27]
  have h2 : (e1.length + e2.length) * Try.prog.bytesOf 5 ∈ (DataW.agg [a, b, .slice e1 e2]).weights Try.prog 38 := by
   unfold DataW.weights
   rw [Try.underlying38]
   exact DataW.weights_mem_each (j := 2) rfl rfl _ h1
  have h3 := weights_mem_all (P := Try.prog) hx _ h2
  have h4 : (e1.length + e2.length) * Try.prog.bytesOf 5 ∈ (DataW.slice es sp).weights Try.prog 23 := by simp only [DataW.weights, Try.underlying23, List.mem_cons, List.mem_append]; exact Or.inr (Or.inl h3)
  have := List.all_eq_true.1 h _ (DataW.weights_mem_each ht hd _ h4)
  rw [hb] at this
  simpa [dlen, reachBytes] using this
 | _ => simp [dlen]
end
end Go.Proofs.Ytkghkpkiodghiaa
