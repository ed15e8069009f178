/- Of no program: what the reading of an array of numbers gives the walk. -/
import Derived.Test.YtadmjhlcdoghpaaOpen
import Derived.Test.YtadmjhlcdoghpaaArr
namespace Go.Proofs.Ytadmjhlcdoghpaa
set_option linter.unusedVariables false
set_option linter.unusedSimpArgs false
set_option linter.unnecessarySimpa false
open Go.RowKit Go.ChangeShapes Go.WideShapes Go.ChangeAt
open Go.ChangeMaps (open_string shut_string)
section
variable {H : Type} {enc : TypeId × Value → H} {P : Program} {W : World} {base : Nat} {t e : TypeId} {v : Value} {d : DataW H} {p : List MemPlace}
theorem okWide_array {n : Nat} (ht : P.underlying t = some (.array n e)) {r : Reach} {b0 : Nat} (h : Value.okWide P W r b0 t v) : ∃ xs : Array Value, v = .agg xs := by
  simp only [Value.okWide, ht] at h
  obtain ⟨cs, h1, h2, _⟩ := h
  exact ⟨cs, h1⟩
theorem open_nums {n : Nat} {k : IntKind} (ht : P.underlying t = some (.array n e)) (he : P.underlying e = some (.int k)) (hc : P.cellsOf e = 1) (hn : P.cellsOf t = n)
    (hv : Value.okWide P W .any base t v) (h : DataW.Trod enc P W 0 (fun _ => true) true t v d p) :
    ∃ A : List Int, v = .agg (nums k A).toArray ∧ A.length = n ∧ ∀ j, j < n → (Lit.int k (A.getD j 0)).wf = true := by
  obtain ⟨cs, rfl⟩ := okWide_array ht hv
  obtain ⟨fuel, hf⟩ := h
  obtain ⟨xs, m, _, _, hl, hlen, hi⟩ := DataW.trod_array ht hf
  have hl' : cs.toList.length = n := by rw [← hn]; simpa [Value.cells] using hl
  have hg : ∀ i, i < n → ∃ a, cs.toList[i]? = some (.int k a) ∧ (Lit.int k a).wf = true := by
    intro i hin
    have h1 := hi i hin
    obtain ⟨y, hy⟩ : ∃ y, xs[i]? = some y := ⟨_, List.getElem?_eq_getElem (by omega)⟩
    have e1 : (((Value.agg cs).cells.toList.drop (i * P.cellsOf e)).take (P.cellsOf e)) = [cs.toList[i]'(by omega)] := by
      rw [hc]
      simp only [Value.cells, Nat.mul_one]
      rw [List.drop_eq_getElem_cons (by omega)]
      rfl
    rw [e1, hy] at h1
    obtain ⟨a, ea, _, wa⟩ := DataW.trod_int he h1
    simp only [List.cons.injEq, and_true] at ea
    exact ⟨a, by rw [List.getElem?_eq_getElem (by omega), ea], wa⟩
  have hnums : cs.toList = nums k (cs.toList.map intOf) := by
    apply List.ext_getElem?
    intro i
    simp only [nums, List.map_map, List.getElem?_map]
    by_cases hin : i < n
    · obtain ⟨a, ha, _⟩ := hg i hin
      rw [ha]; simp [intOf]
    · rw [List.getElem?_eq_none (by omega)]; rfl
  refine ⟨cs.toList.map intOf, by rw [← hnums], by simpa using hl', fun j hj => ?_⟩
  obtain ⟨a, ha, wa⟩ := hg j hj
  simpa [List.getD, ha, intOf] using wa
end
end Go.Proofs.Ytadmjhlcdoghpaa
