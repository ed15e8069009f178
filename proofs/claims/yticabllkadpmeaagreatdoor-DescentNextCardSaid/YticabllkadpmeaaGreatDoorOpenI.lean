/- Items of trees, several and one alone, as an argument's reading gives them. -/
import Derived.Test.YticabllkadpmeaaGreatDoorRows
import Derived.Test.YticabllkadpmeaaGreatDoorOpenArr
import Derived.Test.YticabllkadpmeaaGreatDoorTreP
import Derived.Deep.Strs
namespace Go.Proofs.YticabllkadpmeaaGreatDoor
set_option linter.unusedVariables false
set_option linter.unusedSimpArgs false
set_option linter.unnecessarySimpa false
open Go.RowKit Go.ChangeShapes Go.WideShapes Go.ChangeAt Go.Deep
open Tre (It)
set_option maxRecDepth 100000

def dIt : It := ⟨ByteArray.empty, 0, Tre.nought⟩
/-- An item's cells. -/
def itC (x : It) : List Value := .string x.name :: .int .u64 (x.len : Int) :: bytes x.sum
def itsC (l : List It) : List Value := l.flatMap itC
/-- An item as there may be. -/
def ItOk (x : It) : Prop := x.len < 18446744073709551616 ∧ x.sum.length = 32 ∧ x.name.size ≤ maxLen
def Oks (l : List It) : Prop := ∀ x ∈ l, ItOk x
theorem itC_length {x : It} (h : ItOk x) : (itC x).length = 34 := by simp [itC, h.2.1]
theorem itsC_length : ∀ {l : List It}, Oks l → (itsC l).length = l.length * 34
  | [], _ => rfl
  | x :: r, h => by
    have h1 := itC_length (h x (List.mem_cons_self ..))
    have h2 := itsC_length (l := r) fun y hy => h y (List.mem_cons_of_mem _ hy)
    unfold itsC at h2 ⊢
    rw [List.flatMap_cons, List.length_append, h1, h2, List.length_cons, Nat.succ_mul, Nat.add_comm]
theorem itsC_append (l m : List It) : itsC (l ++ m) = itsC l ++ itsC m := by simp [itsC]
theorem itC_one (x : It) : ∀ u ∈ itC x, u.oneCell' = true := by
  intro u hu
  simp only [itC, List.mem_cons] at hu
  rcases hu with rfl | rfl | hu
  · rfl
  · rfl
  · exact bytes_one _ u hu
theorem itsC_one (l : List It) : ∀ u ∈ itsC l, u.oneCell' = true := by
  intro u hu
  simp only [itsC, List.mem_flatMap] at hu
  obtain ⟨x, -, hu⟩ := hu
  exact itC_one x u hu
theorem itsC_take {l : List It} (h : Oks l) (i : Nat) : (itsC l).take (i * 34) = itsC (l.take i) := by
  by_cases hi : i ≤ l.length
  · have h1 : Oks (l.take i) := fun x hx => h x (List.mem_of_mem_take hx)
    have h2 : (itsC (l.take i)).length = i * 34 := by rw [itsC_length h1, List.length_take, Nat.min_eq_left hi]
    conv => lhs; rw [← List.take_append_drop i l, itsC_append, ← h2]
    simp
  · have := itsC_length h
    rw [List.take_of_length_le (by omega), List.take_of_length_le (by omega)]
theorem itsC_drop {l : List It} (h : Oks l) (i : Nat) : (itsC l).drop (i * 34) = itsC (l.drop i) := by
  by_cases hi : i ≤ l.length
  · have h1 : Oks (l.take i) := fun x hx => h x (List.mem_of_mem_take hx)
    have h2 : (itsC (l.take i)).length = i * 34 := by rw [itsC_length h1, List.length_take, Nat.min_eq_left hi]
    conv => lhs; rw [← List.take_append_drop i l, itsC_append, ← h2]
    simp
  · have := itsC_length h
    rw [List.drop_eq_nil_of_le (by omega), List.drop_eq_nil_of_le (by omega)]; rfl
theorem itsC_get {l : List It} (h : Oks l) {i j : Nat} (hi : i < l.length) (hj : j < 34) : (itsC l)[i * 34 + j]? = (itC (l.getD i dIt))[j]? := by
  have e : (itsC l)[i * 34 + j]? = ((itsC l).drop (i * 34))[j]? := by rw [List.getElem?_drop]
  rw [e, itsC_drop h, List.drop_eq_getElem_cons hi]
  have h1 := itC_length (h _ (List.getElem_mem hi))
  show (itC l[i] ++ itsC _)[j]? = _
  rw [List.getElem?_append_left (by omega)]
  simp [List.getD, List.getElem?_eq_getElem hi]
/-- A slice of items. -/
def Its (w : World) (v : Value) (l : List It) : Prop := Shows w 34 v l.length (itsC l)
theorem Its.len {w : World} {v : Value} {l : List It} (h : Its w v l) : l.length ≤ 9223372036854775807 := by have := Shows.len_le h; simpa [maxLen] using this
theorem Its.open {w : World} {v : Value} {l : List It} (h : Its w v l) : ∃ a cap, v = .slice a l.length cap ∧ l.length ≤ cap ∧ cap ≤ 9223372036854775807 ∧ (a = none → cap = 0) ∧ Its w (.slice a l.length cap) l := by
  have h' := h
  obtain ⟨_, a, cap, rfl, h2, h3, h4, _⟩ := h
  exact ⟨a, cap, rfl, h2, by simpa [maxLen] using h3, h4, h'⟩
theorem Its.below {w w' : World} {v : Value} {l : List It} (h : Its w v l) (hb : Below w.heap.size w w') : Its w' v l := Shows.below h hb
theorem Its.at' {w w' : World} {v : Value} {l : List It} (h : Its w v l) {B : Nat} (hb : Below B w w') (hB : w.heap.size ≤ B) : Its w' v l := Shows.at' h hb hB
theorem Its.nil (w : World) : Its w (.slice none 0 0) [] := Shows.nil w 34
/-- Where there is an item the address is a plain one. -/
theorem Its.cells {w : World} {a : Option Addr} {cap n : Nat} {l : List It} (h : Its w (.slice a n cap) l) (hl : 0 < l.length) (hok : Oks l) :
    ∃ b off, a = some ⟨b, off, none⟩ ∧ ∀ i, i < l.length → ∀ j u, (itC (l.getD i dIt))[j]? = some u → w.cell? ⟨b, off + i * 34 + j, none⟩ = some u := by
  obtain ⟨hx, a', cap', hv, _, _, h4, h5⟩ := h
  simp only [Value.slice.injEq] at hv
  obtain ⟨rfl, rfl, rfl⟩ := hv
  cases a with
  | none => have := h4 rfl; omega
  | some x =>
    have hg : ∀ i, i < l.length → ∀ j u, (itC (l.getD i dIt))[j]? = some u → w.cell? (x.add (i * 34 + j)) = some u := fun i hi j u hu => by
      refine h5 x rfl (i * 34 + j) u ?_
      have hm : l.getD i dIt ∈ l := by simp [List.getD, List.getElem?_eq_getElem hi]
      have hj : j < 34 := by have := (List.getElem?_eq_some_iff.1 hu).1; rwa [itC_length (hok _ hm)] at this
      rw [itsC_get hok hi hj]; exact hu
    obtain ⟨b, off, spot⟩ := x
    have : spot = none := by
      have := hg 0 hl 0 _ rfl
      simpa [Addr.add] using World.cell?_spot this
    subst this
    refine ⟨b, off, rfl, fun i hi j u hu => ?_⟩
    have := hg i hi j u hu
    rwa [Addr.add_lit, ← Nat.add_assoc] at this
/-- The bytes of numbers that are bytes. -/
theorem bytes_of_nums {A : List Int} (h : ∀ j, j < A.length → (Lit.int .u8 (A.getD j 0)).wf = true) : ∃ l : List UInt8, nums .u8 A = bytes l ∧ l.length = A.length := by
  refine ⟨A.map fun a => UInt8.ofNat a.toNat, ?_, by simp⟩
  unfold nums bytes
  rw [List.map_map]
  apply List.ext_getElem?
  intro j
  rw [List.getElem?_map, List.getElem?_map]
  by_cases hj : j < A.length
  · have h1 := h j hj
    rw [List.getElem?_eq_getElem hj]
    simp only [List.getD, List.getElem?_eq_getElem hj, Option.getD_some] at h1
    have h2 : 0 ≤ A[j] ∧ A[j] ≤ 255 := by simp [Lit.wf, IntKind.min, IntKind.max, IntKind.bits, IntKind.signed] at h1; omega
    simp only [Option.map_some, Function.comp, Option.some.injEq, Value.int.injEq, true_and]
    have : (UInt8.ofNat A[j].toNat).toNat = A[j].toNat % 256 := by simp
    rw [this]; omega
  · rw [List.getElem?_eq_none (by omega)]; rfl
section
variable {H : Type} {enc : TypeId × Value → H} {W : World} {base : Nat} {v : Value} {d : DataW H} {p : List MemPlace}
theorem open_it_core {b0 fuel : Nat} {sp : Nat → Bool} {held : Bool} {cs : List Value} {x : DataW H × List MemPlace} (hf : DataW.trod enc Tryz.prog W b0 sp held fuel 38 cs = some x) :
    ∃ X : It, cs = itC X ∧ ItOk X := by
  obtain ⟨y0, y1, y2, n, hx, hl, h0, h1, h2⟩ := trod_struct3 Tryz.underlying38 hf
  have hc : Tryz.prog.cellsOf 38 = 34 := by kernel_rfl
  have k0 : Tryz.prog.cellsOf 9 = 1 := by kernel_rfl
  have k1 : Tryz.prog.cellsOf 34 = 1 := by kernel_rfl
  have k2 : Tryz.prog.cellsOf 36 = 32 := by kernel_rfl
  rw [hc] at hl
  match cs, hl with
  | c0 :: c1 :: r, hl =>
    simp only [k0, k1, k2, List.drop_zero, List.drop_succ_cons, List.take_succ_cons, List.take_zero] at h0 h1 h2
    obtain ⟨s, e0, -, hs⟩ := DataW.trod_string Tryz.underlying9 h0
    obtain ⟨N, e1, -, w1⟩ := DataW.trod_int Tryz.underlying34 h1
    simp only [List.length_cons] at hl
    rw [List.take_of_length_le (by omega)] at h2
    obtain ⟨A, hA, hA1, hA2⟩ := open_nums_core Tryz.underlying36 Tryz.underlying5 (by kernel_rfl) k2 h2
    obtain ⟨l, hl1, hl2⟩ := bytes_of_nums (A := A) (fun j hj => hA2 j (by omega))
    simp only [List.cons.injEq, and_true] at e0 e1
    have hN : 0 ≤ N ∧ N ≤ 18446744073709551615 := by simp [Lit.wf, IntKind.min, IntKind.max, IntKind.bits, IntKind.signed] at w1; omega
    refine ⟨⟨s, N.toNat, l⟩, ?_, by show N.toNat < _; omega, by show l.length = 32; omega, hs⟩
    rw [e0, e1, hA, hl1]
    unfold itC
    rw [show ((N.toNat : Nat) : Int) = N by omega]
theorem open_items (hv : Value.okWide Tryz.prog W .any base 22 v) (h : DataW.Trod enc Tryz.prog W 0 (fun _ => true) true 22 v d p) :
    ∃ l : List It, Its W v l ∧ Oks l ∧ l.length ≤ dlen d := by
  obtain ⟨a, len, cap, rfl⟩ := okWide_slice Tryz.underlying22 hv
  obtain ⟨fuel, hf⟩ := h
  rcases open_slice Tryz.underlying22 hf with ⟨hcs, hx⟩ | ⟨x, l, c, m, n', D, Pl, hcs, _, hl, hm, hmm, hx, hcell⟩
  · simp [Value.cells] at hcs
    obtain ⟨rfl, rfl, rfl⟩ := hcs
    exact ⟨[], Its.nil _, (fun x hx => by cases hx), Nat.zero_le _⟩
  · simp [Value.cells] at hcs
    obtain ⟨rfl, rfl, rfl⟩ := hcs
    simp only [Prod.mk.injEq] at hx
    simp only [if_true] at hmm
    have hc : Tryz.prog.cellsOf 38 = 34 := by kernel_rfl
    obtain ⟨L, hL, hp⟩ := list_of dIt (fun i X => W.cells? 0 (x.add (i * 34)) 34 = some (itC X) ∧ ItOk X) len fun i hi => by
      obtain ⟨cs', h1, h2⟩ := hcell i (by omega)
      obtain ⟨X, rfl, h3⟩ := open_it_core h2
      rw [hc] at h1
      exact ⟨X, h1, h3⟩
    subst hL
    have hok : Oks L := fun X hX => by
      obtain ⟨i, hi, rfl⟩ := List.mem_iff_getElem.1 hX
      have := (hp i hi).2
      simpa [List.getD, List.getElem?_eq_getElem hi] using this
    refine ⟨L, ⟨itsC_length hok, _, _, rfl, hl, hm, fun h => by simp at h, ?_⟩, hok, by rw [hx.1]; simp [dlen]⟩
    intro y hy q u hu
    simp only [Option.some.injEq] at hy
    subst hy
    have hq : q < L.length * 34 := by have := (List.getElem?_eq_some_iff.1 hu).1; rwa [itsC_length hok] at this
    have hqi : q / 34 < L.length := by omega
    have e1 : q = q / 34 * 34 + q % 34 := by omega
    obtain ⟨h1, h2⟩ := hp (q / 34) hqi
    unfold World.cells? at h1
    simp only [Nat.zero_le, if_true] at h1
    rw [e1, itsC_get hok hqi (by omega)] at hu
    have hu2 : (itC (L.getD (q / 34) dIt))[q % 34]'(by rw [itC_length h2]; omega) = u := (List.getElem?_eq_some_iff.1 hu).2
    have h3 := mapM_some_get h1 (q % 34) (q % 34) (by first | (rw [List.getElem?_range (by omega)]) | (simp; omega))
    rw [hu, addr_add_add, ← e1] at h3
    exact h3
theorem open_item (hv : Value.okWide Tryz.prog W .any base 38 v) (h : DataW.Trod enc Tryz.prog W 0 (fun _ => true) true 38 v d p) :
    ∃ X : It, v = .agg (itC X).toArray ∧ ItOk X := by
  have hv' := hv
  simp only [Value.okWide, Tryz.underlying38] at hv'
  obtain ⟨cs, rfl, -⟩ := hv'
  obtain ⟨fuel, hf⟩ := h
  obtain ⟨X, hX, hok⟩ := open_it_core hf
  refine ⟨X, ?_, hok⟩
  rw [← hX]; simp [Value.cells]
end
end Go.Proofs.YticabllkadpmeaaGreatDoor
