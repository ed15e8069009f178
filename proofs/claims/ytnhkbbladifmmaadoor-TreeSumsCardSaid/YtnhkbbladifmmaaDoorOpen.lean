/- Of no program: what the reading of an argument (DataW.Trod) gives the walk. -/
import Derived.Test.YtnhkbbladifmmaaDoorBase
import Derived.Test.YtnhkbbladifmmaaDoorRows
import Derived.ProofKit
import Derived.OpenShut
import Derived.ShutString
import Derived.ChangeOld
import Derived.SizedLaws
import Derived.Lib.SmallJoins
import Derived.Deep.CondSized
import Derived.Below
namespace Go.Proofs.YtnhkbbladifmmaaDoor
set_option linter.unusedVariables false
set_option linter.unusedSimpArgs false
set_option linter.unnecessarySimpa false
open Go.RowKit Go.ChangeShapes Go.WideShapes Go.ChangeAt
open Go.ChangeMaps (open_string shut_string)

/-- How many places a slice's datum has. -/
def dlen {H : Type} : DataW H → Nat
  | .slice es sp => es.length + sp.length
  | _ => 0
theorem wf_u64 {a : Int} (h : (Lit.int .u64 a).wf = true) : 0 ≤ a ∧ a < 18446744073709551616 := by
  simp [Lit.wf, IntKind.min, IntKind.max, IntKind.bits, IntKind.signed] at h; omega
theorem wf_u32 {a : Int} (h : (Lit.int .u32 a).wf = true) : 0 ≤ a ∧ a < 4294967296 := by
  simp [Lit.wf, IntKind.min, IntKind.max, IntKind.bits, IntKind.signed] at h; omega
theorem wf_u16 {a : Int} (h : (Lit.int .u16 a).wf = true) : 0 ≤ a ∧ a < 65536 := by
  simp [Lit.wf, IntKind.min, IntKind.max, IntKind.bits, IntKind.signed] at h; omega
theorem wf_u8 {a : Int} (h : (Lit.int .u8 a).wf = true) : 0 ≤ a ∧ a < 256 := by
  simp [Lit.wf, IntKind.min, IntKind.max, IntKind.bits, IntKind.signed] at h; omega
theorem wf_i64 {a : Int} (h : (Lit.int .i64 a).wf = true) : -9223372036854775808 ≤ a ∧ a ≤ 9223372036854775807 := by
  simp [Lit.wf, IntKind.min, IntKind.max, IntKind.bits, IntKind.signed] at h; omega

section
variable {H : Type} {enc : TypeId × Value → H} {P : Program} {W : World} {base : Nat} {t e : TypeId} {v : Value} {d : DataW H} {p : List MemPlace}
theorem open_bytes (ht : P.underlying t = some (.slice e)) (he : P.underlying e = some (.int .u8)) (hc : P.cellsOf e = 1)
    (hv : Value.okWide P W .any base t v) (h : DataW.Trod enc P W 0 (fun _ => true) true t v d p) : ∃ l : List UInt8, Sh W v l ∧ l.length ≤ dlen d := by
  obtain ⟨a, len, cap, rfl⟩ := okWide_slice ht hv
  obtain ⟨fuel, hf⟩ := h
  rcases open_ints ht he hc hf with ⟨hcs, hx⟩ | ⟨x, l, c, zs, hcs, _, hl, hm, hz, hx, hcell, hwz⟩
  · simp [Value.cells] at hcs
    obtain ⟨rfl, rfl, rfl⟩ := hcs
    exact ⟨[], Sh.nil _, Nat.zero_le _⟩
  · simp [Value.cells] at hcs
    obtain ⟨rfl, rfl, rfl⟩ := hcs
    simp only [Prod.mk.injEq] at hx
    simp only [if_true] at hz
    have e1 : ((zs.take len).map ofI).length = len := by simp; omega
    refine ⟨(zs.take len).map ofI, ?_, ?_⟩
    · unfold Sh
      rw [e1]
      refine ⟨by rw [bytes_length, e1]; simp, _, _, rfl, hl, hm, fun h => by simp at h, ?_⟩
      intro y hy j u hu
      simp only [Option.some.injEq] at hy
      subst hy
      rw [bytes_get, List.getElem?_map, List.getElem?_take] at hu
      split at hu
      · rename_i hj
        have hj' : j < zs.length := by omega
        have hw := wf_u8 (hwz zs[j] (List.getElem_mem hj'))
        rw [List.getElem?_eq_getElem hj'] at hu
        simp only [Option.map_some, Option.some.injEq] at hu
        subst hu
        rw [hcell j hj', ofI_toNat hw]
        simp [List.getD, List.getElem?_eq_getElem hj']
      · simp at hu
    · rw [e1, hx.1]
      simp [dlen, lits]; omega
/-- The form's own reach, of a slice of bytes. -/
theorem reach_bytes {ts : List TypeId} {ds : List (DataW H)} (h : (DataW.weightsEach P ts ds).all (· ≤ reachBytes) = true) {j : Nat} (ht : ts[j]? = some t) (hd : ds[j]? = some d) (hu : P.underlying t = some (.slice e)) {k : Nat} (hb : P.bytesOf e = k) (hs : ∃ es sp, d = .slice es sp) :
    dlen d * k ≤ 140737488351232 := by
  obtain ⟨es, sp, rfl⟩ := hs
  have := sized_slice h ht hd hu
  rw [hb] at this
  simpa [dlen, reachBytes] using this
theorem reach_slice {ts : List TypeId} {ds : List (DataW H)} (h : (DataW.weightsEach P ts ds).all (· ≤ reachBytes) = true) {j : Nat} (ht : ts[j]? = some t) (hd : ds[j]? = some d) (hu : P.underlying t = some (.slice e)) {k : Nat} (hb : P.bytesOf e = k) :
    dlen d * k ≤ 140737488351232 := by
  cases d with
  | slice es sp => exact reach_bytes h ht hd hu hb ⟨es, sp, rfl⟩
  | _ => simp [dlen]
theorem reach_string {ts : List TypeId} {ds : List (DataW H)} (h : (DataW.weightsEach P ts ds).all (· ≤ reachBytes) = true) {j : Nat} {s : ByteArray} (ht : ts[j]? = some t) (hd : ds[j]? = some (.lit (.string s.data.toList))) : s.size ≤ 140737488351232 := by
  have h1 := sized_string h ht hd
  have e : s.data.toList.length = s.size := by rw [Array.length_toList]; rfl
  rw [e] at h1
  simpa [reachBytes] using h1
/-- How a text reads. -/
def strD (H : Type) (s : ByteArray) : DataW H := .lit (.string s.data.toList)
theorem open_strs (ht : P.underlying t = some (.slice e)) (he : P.underlying e = some .string) (hc : P.cellsOf e = 1)
    (hv : Value.okWide P W .any base t v) (h : DataW.Trod enc P W 0 (fun _ => true) true t v d p) :
    ∃ ss : List ByteArray, ShS W v ss ∧ ((ss = [] ∧ d = .nil) ∨ ∃ sp, d = .slice (ss.map (strD H)) sp) := by
  obtain ⟨a, len, cap, rfl⟩ := okWide_slice ht hv
  obtain ⟨fuel, hf⟩ := h
  rcases open_strings ht he hc hf with ⟨hcs, hx⟩ | ⟨x, l, c, zs, hcs, _, hl, hm, hz, hx, hcell, hwz⟩
  · simp [Value.cells] at hcs
    obtain ⟨rfl, rfl, rfl⟩ := hcs
    simp only [Prod.mk.injEq] at hx
    exact ⟨[], Shows.nil _ _, .inl ⟨rfl, hx.1⟩⟩
  · simp [Value.cells] at hcs
    obtain ⟨rfl, rfl, rfl⟩ := hcs
    simp only [Prod.mk.injEq] at hx
    simp only [if_true] at hz
    have e1 : (zs.take len).length = len := by simp; omega
    refine ⟨zs.take len, ?_, .inr ⟨_, hx.1⟩⟩
    unfold ShS
    rw [strs_length, e1]
    refine ⟨by simp; omega, _, _, rfl, hl, hm, fun h => by simp at h, ?_⟩
    intro y hy j u hu
    simp only [Option.some.injEq] at hy
    subst hy
    have hj : j < len := by have := (List.getElem?_eq_some_iff.1 hu).1; simpa [e1] using this
    rw [strs_get _ j (by omega)] at hu
    simp only [Option.some.injEq] at hu
    subst hu
    have hj' : j < zs.length := by omega
    rw [hcell j hj']
    simp [List.getD, hj]
end
end Go.Proofs.YtnhkbbladifmmaaDoor
