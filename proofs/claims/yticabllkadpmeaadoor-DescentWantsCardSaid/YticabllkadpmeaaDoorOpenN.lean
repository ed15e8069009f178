/- Items as an argument: their names' lengths stand in the argument's weights. (printed by gen/openn.py) -/
import Derived.Test.YticabllkadpmeaaDoorOpenI
import Derived.Test.YticabllkadpmeaaDoorDes1
namespace Go.Proofs.YticabllkadpmeaaDoor
set_option linter.unusedVariables false
set_option linter.unusedSimpArgs false
set_option linter.unnecessarySimpa false
open Go.RowKit Go.ChangeShapes Go.WideShapes Go.ChangeAt Go.Deep
set_option maxRecDepth 100000

open Tre (It)
theorem weightsAll_mem {H : Type} {P : Program} {e : TypeId} : ∀ {l : List (DataW H)} {d : DataW H}, d ∈ l → ∀ n ∈ d.weights P e, n ∈ DataW.weightsAll P e l
  | d' :: r, d, hd, n, hn => by
    simp only [DataW.weightsAll, List.mem_append]
    rcases List.mem_cons.1 hd with rfl | h
    · exact Or.inl hn
    · exact Or.inr (weightsAll_mem h n hn)
section
variable {H : Type} {enc : TypeId × Value → H} {W : World} {base : Nat} {v : Value} {d : DataW H} {p : List MemPlace}
theorem open_it_core2 {b0 fuel : Nat} {sp : Nat → Bool} {held : Bool} {cs : List Value} {x : DataW H × List MemPlace} (hf : DataW.trod enc Tryd.prog W b0 sp held fuel 35 cs = some x) :
    ∃ X : It, cs = itC X ∧ ItOk X ∧ X.name.size ∈ x.1.weights Tryd.prog 35 := by
  obtain ⟨y0, y1, y2, n, hx, hl, h0, h1, h2⟩ := trod_struct3 Tryd.underlying35 hf
  have hc : Tryd.prog.cellsOf 35 = 34 := by kernel_rfl
  have k0 : Tryd.prog.cellsOf 9 = 1 := by kernel_rfl
  have k1 : Tryd.prog.cellsOf 31 = 1 := by kernel_rfl
  have k2 : Tryd.prog.cellsOf 33 = 32 := by kernel_rfl
  rw [hc] at hl
  match cs, hl with
  | c0 :: c1 :: r, hl =>
    simp only [k0, k1, k2, List.drop_zero, List.drop_succ_cons, List.take_succ_cons, List.take_zero] at h0 h1 h2
    obtain ⟨s, e0, hy0, hs⟩ := DataW.trod_string Tryd.underlying9 h0
    obtain ⟨N, e1, -, w1⟩ := DataW.trod_int Tryd.underlying31 h1
    simp only [List.length_cons] at hl
    rw [List.take_of_length_le (by omega)] at h2
    obtain ⟨A, hA, hA1, hA2⟩ := open_nums_core Tryd.underlying33 Tryd.underlying5 (by kernel_rfl) k2 h2
    obtain ⟨l, hl1, hl2⟩ := bytes_of_nums (A := A) (fun j hj => hA2 j (by omega))
    simp only [List.cons.injEq, and_true] at e0 e1
    have hN : 0 ≤ N ∧ N ≤ 18446744073709551615 := by simp [Lit.wf, IntKind.min, IntKind.max, IntKind.bits, IntKind.signed] at w1; omega
    refine ⟨⟨s, N.toNat, l⟩, ?_, ⟨by show N.toNat < _; omega, by show l.length = 32; omega, hs⟩, ?_⟩
    · rw [e0, e1, hA, hl1]
      unfold itC
      rw [show ((N.toNat : Nat) : Int) = N by omega]
    · rw [hx, hy0]
      simp [DataW.weights, Tryd.underlying35, DataW.weightsEach]
theorem open_items2 (hv : Value.okWide Tryd.prog W .any base 22 v) (h : DataW.Trod enc Tryd.prog W 0 (fun _ => true) true 22 v d p) :
    ∃ l : List It, Its W v l ∧ Oks l ∧ l.length ≤ dlen d ∧ ∀ X ∈ l, X.name.size ∈ d.weights Tryd.prog 22 := by
  obtain ⟨a, len, cap, rfl⟩ := okWide_slice Tryd.underlying22 hv
  obtain ⟨fuel, hf⟩ := h
  rcases open_slice Tryd.underlying22 hf with ⟨hcs, hx⟩ | ⟨x, l, c, m, n', D, Pl, hcs, _, hl, hm, hmm, hx, hcell⟩
  · simp [Value.cells] at hcs
    obtain ⟨rfl, rfl, rfl⟩ := hcs
    exact ⟨[], Its.nil _, (fun x hx => by cases hx), Nat.zero_le _, (fun x hx => by cases hx)⟩
  · simp [Value.cells] at hcs
    obtain ⟨rfl, rfl, rfl⟩ := hcs
    simp only [Prod.mk.injEq] at hx
    simp only [if_true] at hmm
    have hc : Tryd.prog.cellsOf 35 = 34 := by kernel_rfl
    obtain ⟨L, hL, hp⟩ := list_of dIt (fun i X => W.cells? 0 (x.add (i * 34)) 34 = some (itC X) ∧ ItOk X ∧ X.name.size ∈ (D i).weights Tryd.prog 35) len fun i hi => by
      obtain ⟨cs', h1, h2⟩ := hcell i (by omega)
      obtain ⟨X, rfl, h3⟩ := open_it_core2 h2
      rw [hc] at h1
      exact ⟨X, h1, h3⟩
    subst hL
    have hok : Oks L := fun X hX => by
      obtain ⟨i, hi, rfl⟩ := List.mem_iff_getElem.1 hX
      have := (hp i hi).2.1
      simpa [List.getD, List.getElem?_eq_getElem hi] using this
    refine ⟨L, ⟨itsC_length hok, _, _, rfl, hl, hm, fun h => by simp at h, ?_⟩, hok, by rw [hx.1]; simp [dlen], ?_⟩
    rotate_left
    · intro X hX
      obtain ⟨i, hi, rfl⟩ := List.mem_iff_getElem.1 hX
      have h9 := (hp i hi).2.2
      rw [show L.getD i dIt = L[i] from by simp [List.getD, List.getElem?_eq_getElem hi]] at h9
      rw [hx.1]
      simp only [DataW.weights, Tryd.underlying22, List.mem_cons, List.mem_append]
      exact Or.inr (Or.inl (weightsAll_mem (List.mem_map.2 ⟨i, List.mem_range.2 hi, rfl⟩) _ h9))
    intro y hy q u hu
    simp only [Option.some.injEq] at hy
    subst hy
    have hq : q < L.length * 34 := by have := (List.getElem?_eq_some_iff.1 hu).1; rwa [itsC_length hok] at this
    have hqi : q / 34 < L.length := by omega
    have e1 : q = q / 34 * 34 + q % 34 := by omega
    obtain ⟨h1, h2, -⟩ := hp (q / 34) hqi
    unfold World.cells? at h1
    simp only [Nat.zero_le, if_true] at h1
    rw [e1, itsC_get hok hqi (by omega)] at hu
    have hu2 : (itC (L.getD (q / 34) dIt))[q % 34]'(by rw [itC_length h2]; omega) = u := (List.getElem?_eq_some_iff.1 hu).2
    have h3 := mapM_some_get h1 (q % 34) (q % 34) (by first | (rw [List.getElem?_range (by omega)]) | (simp; omega))
    rw [hu, addr_add_add, ← e1] at h3
    exact h3
end
theorem nm_ok {H : Type} {ts : List TypeId} {ds : List (DataW H)} (h : (DataW.weightsEach Tryd.prog ts ds).all (· ≤ reachBytes) = true) {j : Nat} {t : TypeId} {d : DataW H} (ht : ts[j]? = some t) (hd : ds[j]? = some d) {l : List It} (hok : Oks l) (hn : ∀ X ∈ l, X.name.size ∈ d.weights Tryd.prog t) : NmOk l := fun X hX => by
  have := List.all_eq_true.1 h _ (DataW.weights_mem_each ht hd _ (hn X hX))
  exact ⟨hok X hX, by have h2 := of_decide_eq_true this; simpa [reachBytes] using h2⟩
end Go.Proofs.YticabllkadpmeaaDoor
