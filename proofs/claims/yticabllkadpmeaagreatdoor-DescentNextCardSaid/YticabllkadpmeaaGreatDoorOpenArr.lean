/- Of no program: what the reading of an argument (DataW.Trod) gives the walk. -/
import Derived.Test.YticabllkadpmeaaGreatDoorBase
import Derived.Test.YticabllkadpmeaaGreatDoorRows
import Derived.ProofKit
import Derived.OpenShut
import Derived.ShutString
import Derived.ChangeOld
import Derived.SizedLaws
import Derived.Lib.SmallJoins
import Derived.Deep.CondSized
import Derived.Below
import Derived.Test.YticabllkadpmeaaGreatDoorRegion
import Derived.Deep.Slices
namespace Go.Proofs.YticabllkadpmeaaGreatDoor
set_option linter.unusedVariables false
set_option linter.unusedSimpArgs false
set_option linter.unnecessarySimpa false
open Go.RowKit Go.ChangeShapes Go.WideShapes Go.ChangeAt
open Go.ChangeMaps (open_string shut_string)

/-- How many places a slice's datum has. -/
def dlen {H : Type} : DataW H → Nat
  | .slice es sp => es.length + sp.length
  | _ => 0
theorem wf_u64 {a : Int} (h : (Lit.int .u64 a).wf = true) : 0 ≤ a ∧ a < 18446744073709551616 := by
  simp [Lit.wf, IntKind.min, IntKind.max, IntKind.bits, IntKind.signed] at h; omega
theorem wf_u32 {a : Int} (h : (Lit.int .u32 a).wf = true) : 0 ≤ a ∧ a < 4294967296 := by
  simp [Lit.wf, IntKind.min, IntKind.max, IntKind.bits, IntKind.signed] at h; omega
theorem wf_u16 {a : Int} (h : (Lit.int .u16 a).wf = true) : 0 ≤ a ∧ a < 65536 := by
  simp [Lit.wf, IntKind.min, IntKind.max, IntKind.bits, IntKind.signed] at h; omega
theorem wf_u8 {a : Int} (h : (Lit.int .u8 a).wf = true) : 0 ≤ a ∧ a < 256 := by
  simp [Lit.wf, IntKind.min, IntKind.max, IntKind.bits, IntKind.signed] at h; omega
theorem wf_i64 {a : Int} (h : (Lit.int .i64 a).wf = true) : -9223372036854775808 ≤ a ∧ a ≤ 9223372036854775807 := by
  simp [Lit.wf, IntKind.min, IntKind.max, IntKind.bits, IntKind.signed] at h; omega

section
variable {H : Type} {enc : TypeId × Value → H} {P : Program} {W : World} {base : Nat} {t e : TypeId} {v : Value} {d : DataW H} {p : List MemPlace}
theorem open_bytes (ht : P.underlying t = some (.slice e)) (he : P.underlying e = some (.int .u8)) (hc : P.cellsOf e = 1)
    (hv : Value.okWide P W .any base t v) (h : DataW.Trod enc P W 0 (fun _ => true) true t v d p) : ∃ l : List UInt8, Sh W v l ∧ l.length ≤ dlen d := by
  obtain ⟨a, len, cap, rfl⟩ := okWide_slice ht hv
  obtain ⟨fuel, hf⟩ := h
  rcases open_ints ht he hc hf with ⟨hcs, hx⟩ | ⟨x, l, c, zs, hcs, _, hl, hm, hz, hx, hcell, hwz⟩
  · simp [Value.cells] at hcs
    obtain ⟨rfl, rfl, rfl⟩ := hcs
    exact ⟨[], Sh.nil _, Nat.zero_le _⟩
  · simp [Value.cells] at hcs
    obtain ⟨rfl, rfl, rfl⟩ := hcs
    simp only [Prod.mk.injEq] at hx
    simp only [if_true] at hz
    have e1 : ((zs.take len).map ofI).length = len := by simp; omega
    refine ⟨(zs.take len).map ofI, ?_, ?_⟩
    · unfold Sh
      rw [e1]
      refine ⟨by rw [bytes_length, e1]; simp, _, _, rfl, hl, hm, fun h => by simp at h, ?_⟩
      intro y hy j u hu
      simp only [Option.some.injEq] at hy
      subst hy
      rw [bytes_get, List.getElem?_map, List.getElem?_take] at hu
      split at hu
      · rename_i hj
        have hj' : j < zs.length := by omega
        have hw := wf_u8 (hwz zs[j] (List.getElem_mem hj'))
        rw [List.getElem?_eq_getElem hj'] at hu
        simp only [Option.map_some, Option.some.injEq] at hu
        subst hu
        rw [hcell j hj', ofI_toNat hw]
        simp [List.getD, List.getElem?_eq_getElem hj']
      · simp at hu
    · rw [e1, hx.1]
      simp [dlen, lits]; omega
/-- The form's own reach, of a slice of bytes. -/
theorem reach_bytes {ts : List TypeId} {ds : List (DataW H)} (h : (DataW.weightsEach P ts ds).all (· ≤ reachBytes) = true) {j : Nat} (ht : ts[j]? = some t) (hd : ds[j]? = some d) (hu : P.underlying t = some (.slice e)) {k : Nat} (hb : P.bytesOf e = k) (hs : ∃ es sp, d = .slice es sp) :
    dlen d * k ≤ 140737488351232 := by
  obtain ⟨es, sp, rfl⟩ := hs
  have := sized_slice h ht hd hu
  rw [hb] at this
  simpa [dlen, reachBytes] using this
theorem reach_slice {ts : List TypeId} {ds : List (DataW H)} (h : (DataW.weightsEach P ts ds).all (· ≤ reachBytes) = true) {j : Nat} (ht : ts[j]? = some t) (hd : ds[j]? = some d) (hu : P.underlying t = some (.slice e)) {k : Nat} (hb : P.bytesOf e = k) :
    dlen d * k ≤ 140737488351232 := by
  cases d with
  | slice es sp => exact reach_bytes h ht hd hu hb ⟨es, sp, rfl⟩
  | _ => simp [dlen]
theorem reach_string {ts : List TypeId} {ds : List (DataW H)} (h : (DataW.weightsEach P ts ds).all (· ≤ reachBytes) = true) {j : Nat} {s : ByteArray} (ht : ts[j]? = some t) (hd : ds[j]? = some (.lit (.string s.data.toList))) : s.size ≤ 140737488351232 := by
  have h1 := sized_string h ht hd
  have e : s.data.toList.length = s.size := by rw [Array.length_toList]; rfl
  rw [e] at h1
  simpa [reachBytes] using h1
/-- How a text reads. -/
def strD (H : Type) (s : ByteArray) : DataW H := .lit (.string s.data.toList)
theorem open_strs (ht : P.underlying t = some (.slice e)) (he : P.underlying e = some .string) (hc : P.cellsOf e = 1)
    (hv : Value.okWide P W .any base t v) (h : DataW.Trod enc P W 0 (fun _ => true) true t v d p) :
    ∃ ss : List ByteArray, ShS W v ss ∧ ((ss = [] ∧ d = .nil) ∨ ∃ sp, d = .slice (ss.map (strD H)) sp) := by
  obtain ⟨a, len, cap, rfl⟩ := okWide_slice ht hv
  obtain ⟨fuel, hf⟩ := h
  rcases open_strings ht he hc hf with ⟨hcs, hx⟩ | ⟨x, l, c, zs, hcs, _, hl, hm, hz, hx, hcell, hwz⟩
  · simp [Value.cells] at hcs
    obtain ⟨rfl, rfl, rfl⟩ := hcs
    simp only [Prod.mk.injEq] at hx
    exact ⟨[], Shows.nil _ _, .inl ⟨rfl, hx.1⟩⟩
  · simp [Value.cells] at hcs
    obtain ⟨rfl, rfl, rfl⟩ := hcs
    simp only [Prod.mk.injEq] at hx
    simp only [if_true] at hz
    have e1 : (zs.take len).length = len := by simp; omega
    refine ⟨zs.take len, ?_, .inr ⟨_, hx.1⟩⟩
    unfold ShS
    rw [strs_length, e1]
    refine ⟨by simp; omega, _, _, rfl, hl, hm, fun h => by simp at h, ?_⟩
    intro y hy j u hu
    simp only [Option.some.injEq] at hy
    subst hy
    have hj : j < len := by have := (List.getElem?_eq_some_iff.1 hu).1; simpa [e1] using this
    rw [strs_get _ j (by omega)] at hu
    simp only [Option.some.injEq] at hu
    subst hu
    have hj' : j < zs.length := by omega
    rw [hcell j hj']
    simp [List.getD, hj]
end
end Go.Proofs.YticabllkadpmeaaGreatDoor
namespace Go.Proofs.YticabllkadpmeaaGreatDoor
set_option linter.unusedVariables false
set_option linter.unusedSimpArgs false
set_option linter.unnecessarySimpa false
open Go.RowKit Go.ChangeShapes Go.WideShapes Go.ChangeAt Go.Deep
open Go.ChangeMaps (open_string shut_string)
section
variable {H : Type} {enc : TypeId × Value → H} {P : Program} {W : World} {base : Nat} {t e : TypeId} {v : Value} {d : DataW H} {p : List MemPlace}
theorem okWide_array {n : Nat} (ht : P.underlying t = some (.array n e)) {r : Reach} {b0 : Nat} (h : Value.okWide P W r b0 t v) : ∃ xs : Array Value, v = .agg xs := by
  simp only [Value.okWide, ht] at h
  obtain ⟨cs, h1, h2, _⟩ := h
  exact ⟨cs, h1⟩
theorem open_nums_core {n : Nat} {k : IntKind} (ht : P.underlying t = some (.array n e)) (he : P.underlying e = some (.int k)) (hc : P.cellsOf e = 1) (hn : P.cellsOf t = n)
    {b0 : Nat} {sp : Nat → Bool} {held : Bool} {fuel : Nat} {cs : List Value} {x : DataW H × List MemPlace} (hf : DataW.trod enc P W b0 sp held fuel t cs = some x) :
    ∃ A : List Int, cs = nums k A ∧ A.length = n ∧ ∀ j, j < n → (Lit.int k (A.getD j 0)).wf = true := by
  obtain ⟨xs, m, _, _, hl, hlen, hi⟩ := DataW.trod_array ht hf
  have hl' : cs.length = n := by rw [← hn]; exact hl
  have hg : ∀ i, i < n → ∃ a, cs[i]? = some (.int k a) ∧ (Lit.int k a).wf = true := by
    intro i hin
    have h1 := hi i hin
    obtain ⟨y, hy⟩ : ∃ y, xs[i]? = some y := ⟨_, List.getElem?_eq_getElem (by omega)⟩
    have e1 : ((cs.drop (i * P.cellsOf e)).take (P.cellsOf e)) = [cs[i]'(by omega)] := by
      rw [hc]
      simp only [Nat.mul_one]
      rw [List.drop_eq_getElem_cons (by omega)]
      rfl
    rw [e1, hy] at h1
    obtain ⟨a, ea, _, wa⟩ := DataW.trod_int he h1
    simp only [List.cons.injEq, and_true] at ea
    exact ⟨a, by rw [List.getElem?_eq_getElem (by omega), ea], wa⟩
  have hnums : cs = nums k (cs.map intOf) := by
    apply List.ext_getElem?
    intro i
    simp only [nums, List.map_map, List.getElem?_map]
    by_cases hin : i < n
    · obtain ⟨a, ha, _⟩ := hg i hin
      rw [ha]; simp [intOf]
    · rw [List.getElem?_eq_none (by omega)]; rfl
  refine ⟨cs.map intOf, hnums, by simpa using hl', fun j hj => ?_⟩
  obtain ⟨a, ha, wa⟩ := hg j hj
  simpa [List.getD, ha, intOf] using wa
theorem open_nums {n : Nat} {k : IntKind} (ht : P.underlying t = some (.array n e)) (he : P.underlying e = some (.int k)) (hc : P.cellsOf e = 1) (hn : P.cellsOf t = n)
    (hv : Value.okWide P W .any base t v) (h : DataW.Trod enc P W 0 (fun _ => true) true t v d p) :
    ∃ A : List Int, v = .agg (nums k A).toArray ∧ A.length = n ∧ ∀ j, j < n → (Lit.int k (A.getD j 0)).wf = true := by
  obtain ⟨cs, rfl⟩ := okWide_array ht hv
  obtain ⟨fuel, hf⟩ := h
  obtain ⟨A, hA, h1, h2⟩ := open_nums_core ht he hc hn hf
  refine ⟨A, ?_, h1, h2⟩
  rw [← hA]
  simp [Value.cells]

/-! ### a slice of arrays -/
theorem list_of {β : Type} (d : β) (p : Nat → β → Prop) : ∀ n, (∀ i, i < n → ∃ b, p i b) → ∃ L : List β, L.length = n ∧ ∀ i, i < n → p i (L.getD i d)
  | 0, _ => ⟨[], rfl, fun i h => by omega⟩
  | n + 1, h => by
    obtain ⟨L, hl, hL⟩ := list_of d p n fun i hi => h i (by omega)
    obtain ⟨b, hb⟩ := h n (by omega)
    refine ⟨L ++ [b], by simp [hl], fun i hi => ?_⟩
    by_cases hin : i < n
    · have := hL i hin
      simpa [List.getD, List.getElem?_append_left (show i < L.length by omega)] using this
    · obtain rfl : i = n := by omega
      simpa [List.getD, List.getElem?_append_right (show L.length ≤ i by omega), hl] using hb
/-- Arrays, one behind the other. -/
def flat (k : IntKind) (L : List (List Int)) : List Value := L.flatMap (nums k)
theorem flat_length {k : IntKind} {n : Nat} : ∀ L : List (List Int), (∀ A ∈ L, A.length = n) → (flat k L).length = L.length * n
  | [], _ => by simp [flat]
  | A :: L, h => by
    have := flat_length (k := k) L fun B hB => h B (List.mem_cons_of_mem _ hB)
    have h1 := h A (List.mem_cons_self ..)
    unfold flat at this ⊢
    rw [List.flatMap_cons, List.length_append, this, nums_length, h1, List.length_cons, Nat.succ_mul, Nat.add_comm]
theorem flat_get {k : IntKind} {n : Nat} : ∀ (L : List (List Int)), (∀ A ∈ L, A.length = n) → ∀ i j, i < L.length → j < n → (flat k L)[i * n + j]? = some (.int k ((L.getD i []).getD j 0))
  | [], _, i, j, hi, _ => by simp at hi
  | A :: L, h, i, j, hi, hj => by
    have h1 := h A (List.mem_cons_self ..)
    have e : flat k (A :: L) = nums k A ++ flat k L := by simp [flat]
    rw [e]
    cases i with
    | zero => rw [List.getElem?_append_left (by simp [h1]; omega)]; simpa using nums_get k A j (by omega)
    | succ i =>
      rw [List.getElem?_append_right (by simp [h1, Nat.succ_mul]; omega)]
      have := flat_get (k := k) L (fun B hB => h B (List.mem_cons_of_mem _ hB)) i j (by simpa using hi) hj
      simpa [h1, Nat.succ_mul, show i * n + n + j - n = i * n + j by omega] using this
theorem addr_add_add (a : Addr) (i j : Nat) : (a.add i).add j = a.add (i + j) := by
  unfold Addr.add
  by_cases h1 : i = 0 <;> by_cases h2 : j = 0 <;> simp [h1, h2, Nat.add_assoc]
theorem open_numss {e2 : TypeId} {n : Nat} {k : IntKind} (hn0 : 0 < n) (ht : P.underlying t = some (.slice e)) (he : P.underlying e = some (.array n e2)) (he2 : P.underlying e2 = some (.int k)) (hc : P.cellsOf e2 = 1) (hn : P.cellsOf e = n)
    (hv : Value.okWide P W .any base t v) (h : DataW.Trod enc P W 0 (fun _ => true) true t v d p) :
    ∃ L : List (List Int), Shows W n v L.length (flat k L) ∧ (∀ A ∈ L, A.length = n) ∧ L.length ≤ dlen d ∧ ∀ i, i < L.length → ∀ j, j < n → (Lit.int k ((L.getD i []).getD j 0)).wf = true := by
  obtain ⟨a, len, cap, rfl⟩ := okWide_slice ht hv
  obtain ⟨fuel, hf⟩ := h
  rcases open_slice ht hf with ⟨hcs, hx⟩ | ⟨x, l, c, m, n', D, Pl, hcs, _, hl, hm, hmm, hx, hcell⟩
  · simp [Value.cells] at hcs
    obtain ⟨rfl, rfl, rfl⟩ := hcs
    exact ⟨[], Shows.nil _ _, by simp, Nat.zero_le _, fun i hi => by simp at hi⟩
  · simp [Value.cells] at hcs
    obtain ⟨rfl, rfl, rfl⟩ := hcs
    simp only [Prod.mk.injEq] at hx
    simp only [if_true] at hmm
    obtain ⟨L, hL, hp⟩ := list_of ([] : List Int) (fun i A => W.cells? 0 (x.add (i * n)) n = some (nums k A) ∧ A.length = n ∧ ∀ j, j < n → (Lit.int k (A.getD j 0)).wf = true) len fun i hi => by
      obtain ⟨cs', h1, h2⟩ := hcell i (by omega)
      obtain ⟨A, rfl, h3, h4⟩ := open_nums_core he he2 hc hn h2
      rw [hn] at h1
      exact ⟨A, h1, h3, h4⟩
    subst hL
    have hlen : ∀ A ∈ L, A.length = n := fun A hA => by
      obtain ⟨i, hi, rfl⟩ := List.mem_iff_getElem.1 hA
      have := (hp i hi).2.1
      simpa [List.getD, List.getElem?_eq_getElem hi] using this
    refine ⟨L, ⟨flat_length L hlen, _, _, rfl, hl, hm, fun h => by simp at h, ?_⟩, hlen, ?_, fun i hi => (hp i hi).2.2⟩
    · intro y hy q u hu
      simp only [Option.some.injEq] at hy
      subst hy
      have hq : q < L.length * n := by have := (List.getElem?_eq_some_iff.1 hu).1; rwa [flat_length L hlen] at this
      have hqi : q / n < L.length := Nat.div_lt_of_lt_mul (by rw [Nat.mul_comm]; exact hq)
      have hqr : q % n < n := Nat.mod_lt _ hn0
      have e1 : q = q / n * n + q % n := by rw [Nat.mul_comm]; exact (Nat.div_add_mod q n).symm
      obtain ⟨h1, h2, _⟩ := hp (q / n) hqi
      unfold World.cells? at h1
      simp only [Nat.zero_le, if_true] at h1
      have h3 := mapM_some_get h1 (q % n) (q % n) (by simp [hqr])
      rw [nums_get k _ _ (by omega)] at h3
      rw [e1, flat_get L hlen _ _ hqi hqr] at hu
      have e2 : (x.add (q / n * n)).add (q % n) = x.add q := by
        rw [addr_add_add, ← e1]
      rw [e2] at h3
      rw [h3]; exact hu
    · rw [hx.1]; simp [dlen]
end
end Go.Proofs.YticabllkadpmeaaGreatDoor
