/- Of no program: slices of slices of bytes, in memory and as an argument's reading gives them. -/
import Derived.Test.YtkghkpkiodghiaaOpen
import Derived.Deep.Slices
namespace Go.Proofs.Ytkghkpkiodghiaa
set_option linter.unusedVariables false
set_option linter.unusedSimpArgs false
set_option linter.unnecessarySimpa false
open Go.RowKit Go.ChangeShapes Go.WideShapes Go.ChangeAt Go.Deep
open Go.ChangeMaps (open_string shut_string)

/-- A slice that holds slices of bytes. -/
def Bss (w : World) (v : Value) (Ls : List (List UInt8)) : Prop :=
  ∃ xs : List Value, Shows w 1 v Ls.length xs ∧ ∀ i, i < Ls.length → ∃ u, xs[i]? = some u ∧ Sh w u (Ls.getD i [])
theorem Bss.below {w w' : World} {v : Value} {Ls : List (List UInt8)} (h : Bss w v Ls) (hb : Below w.heap.size w w') : Bss w' v Ls := by
  obtain ⟨xs, h1, h2⟩ := h
  exact ⟨xs, h1.below hb, fun i hi => by obtain ⟨u, hu, hs⟩ := h2 i hi; exact ⟨u, hu, hs.below hb⟩⟩
theorem Bss.open {w : World} {v : Value} {Ls : List (List UInt8)} (h : Bss w v Ls) : ∃ a cap, v = .slice a Ls.length cap ∧ Ls.length ≤ cap ∧ cap ≤ 9223372036854775807 ∧ (a = none → cap = 0) := by
  obtain ⟨xs, h1, h2⟩ := h
  obtain ⟨a, cap, e, k1, k2, k3, _⟩ := Shows.open h1
  exact ⟨a, cap, e, k1, k2, k3⟩
theorem Bss.cells {w : World} {a : Option Addr} {n cap : Nat} {Ls : List (List UInt8)} (h : Bss w (.slice a n cap) Ls) (hl : 0 < Ls.length) :
    ∃ b off, a = some ⟨b, off, none⟩ ∧ n = Ls.length ∧ ∀ i, i < Ls.length → ∃ u, w.cell? ⟨b, off + i, none⟩ = some u ∧ Sh w u (Ls.getD i []) := by
  obtain ⟨xs, h1, h2⟩ := h
  have h3 := h1
  obtain ⟨hxl, a', cap', he, -⟩ := h1
  simp only [Value.slice.injEq] at he
  obtain ⟨rfl, rfl, rfl⟩ := he
  obtain ⟨b, off, rfl, hc⟩ := Shows.cells1 h3 (by omega)
  exact ⟨b, off, rfl, rfl, fun i hi => by obtain ⟨u, hu, hs⟩ := h2 i hi; exact ⟨u, hc i u hu, hs⟩⟩

section
variable {H : Type} {enc : TypeId × Value → H} {P : Program} {W : World} {base : Nat} {t e : TypeId} {v : Value} {d : DataW H} {p : List MemPlace}
theorem open_bytes_core {b0 fuel : Nat} {cs : List Value} {x : DataW H × List MemPlace} (ht : P.underlying t = some (.slice e)) (he : P.underlying e = some (.int .u8)) (hc : P.cellsOf e = 1)
    (hf : DataW.trod enc P W b0 (fun _ => true) true fuel t cs = some x) : ∃ (u : Value) (l : List UInt8), cs = [u] ∧ Sh W u l ∧ l.length ≤ dlen x.1 := by
  rcases open_ints ht he hc hf with ⟨hcs, hx⟩ | ⟨x', l, c, zs, hcs, _, hl, hm, hz, hx, hcell, hwz⟩
  · exact ⟨_, [], hcs, Sh.nil _, Nat.zero_le _⟩
  · simp only [if_true] at hz
    have e1 : ((zs.take l).map ofI).length = l := by simp; omega
    refine ⟨_, (zs.take l).map ofI, hcs, ?_, ?_⟩
    · unfold Sh
      rw [e1]
      refine ⟨by rw [bytes_length, e1]; simp, _, _, rfl, hl, hm, fun h => by simp at h, ?_⟩
      intro y hy j u hu
      simp only [Option.some.injEq] at hy
      subst hy
      rw [bytes_get, List.getElem?_map, List.getElem?_take] at hu
      split at hu
      · rename_i hj
        have hj' : j < zs.length := by omega
        have hw := wf_u8 (hwz zs[j] (List.getElem_mem hj'))
        rw [List.getElem?_eq_getElem hj'] at hu
        simp only [Option.map_some, Option.some.injEq] at hu
        subst hu
        rw [hcell j hj', ofI_toNat hw]
        simp [List.getD, List.getElem?_eq_getElem hj']
      · simp at hu
    · rw [e1, hx]
      simp [dlen, lits]; omega
theorem list_of2 {α β : Type} (a0 : α) (b0 : β) (p : Nat → α → β → Prop) : ∀ n, (∀ i, i < n → ∃ a b, p i a b) → ∃ (L : List α) (M : List β), L.length = n ∧ M.length = n ∧ ∀ i, i < n → p i (L.getD i a0) (M.getD i b0)
  | 0, _ => ⟨[], [], rfl, rfl, fun i h => by omega⟩
  | n + 1, h => by
    obtain ⟨L, M, hl, hm, hL⟩ := list_of2 a0 b0 p n fun i hi => h i (by omega)
    obtain ⟨a, b, hb⟩ := h n (by omega)
    refine ⟨L ++ [a], M ++ [b], by simp [hl], by simp [hm], fun i hi => ?_⟩
    by_cases hin : i < n
    · have := hL i hin
      simpa [List.getD, List.getElem?_append_left (show i < L.length by omega), List.getElem?_append_left (show i < M.length by omega)] using this
    · obtain rfl : i = n := by omega
      simpa [List.getD, List.getElem?_append_right (show L.length ≤ i by omega), List.getElem?_append_right (show M.length ≤ i by omega), hl, hm] using hb
theorem open_bss {e2 : TypeId} (ht : P.underlying t = some (.slice e)) (he : P.underlying e = some (.slice e2)) (he2 : P.underlying e2 = some (.int .u8)) (hc : P.cellsOf e = 1) (hc2 : P.cellsOf e2 = 1)
    (hv : Value.okWide P W .any base t v) (h : DataW.Trod enc P W 0 (fun _ => true) true t v d p) :
    ∃ Ls : List (List UInt8), Bss W v Ls ∧ Ls.length ≤ dlen d ∧ ∀ i, i < Ls.length → ∃ x es sp, d = .slice es sp ∧ x ∈ es ∧ (Ls.getD i []).length ≤ dlen x := by
  obtain ⟨a, len, cap, rfl⟩ := okWide_slice ht hv
  obtain ⟨fuel, hf⟩ := h
  rcases open_slice ht hf with ⟨hcs, hx⟩ | ⟨x, l, c, m, n', D, Pl, hcs, _, hl, hm, hmm, hx, hcell⟩
  · simp [Value.cells] at hcs
    obtain ⟨rfl, rfl, rfl⟩ := hcs
    exact ⟨[], ⟨[], Shows.nil _ _, fun i hi => by simp at hi⟩, Nat.zero_le _, fun i hi => by simp at hi⟩
  · simp [Value.cells] at hcs
    obtain ⟨rfl, rfl, rfl⟩ := hcs
    simp only [Prod.mk.injEq] at hx
    simp only [if_true] at hmm
    obtain ⟨Ls, xs, hL, hX, hp⟩ := list_of2 ([] : List UInt8) (Value.nilFunc) (fun i l u => W.cell? (x.add i) = some u ∧ Sh W u l ∧ l.length ≤ dlen (D i)) len fun i hi => by
      obtain ⟨cs', h1, h2⟩ := hcell i (by omega)
      obtain ⟨u, l, rfl, h3, h4⟩ := open_bytes_core he he2 hc2 h2
      rw [hc, Nat.mul_one] at h1
      exact ⟨l, u, cell_of_cells?_one h1, h3, h4⟩
    subst hL
    refine ⟨Ls, ⟨xs, ⟨by omega, _, _, rfl, hl, hm, fun h => by simp at h, ?_⟩, fun i hi => ⟨xs.getD i .nilFunc, by simp [List.getD, List.getElem?_eq_getElem (show i < xs.length by omega)], (hp i hi).2.1⟩⟩, ?_, fun i hi => ⟨D i, _, _, hx.1, List.mem_map.2 ⟨i, by simpa using hi, rfl⟩, (hp i hi).2.2⟩⟩
    · intro y hy j u hu
      simp only [Option.some.injEq] at hy
      subst hy
      have hj : j < Ls.length := by have := (List.getElem?_eq_some_iff.1 hu).1; omega
      have := (hp j hj).1
      rw [this]
      rw [← hu]
      simp [List.getD, List.getElem?_eq_getElem (show j < xs.length by omega)]
    · rw [hx.1]; simp [dlen]
theorem weights_mem_all {e : TypeId} {x : DataW H} : ∀ {es : List (DataW H)}, x ∈ es → ∀ n ∈ x.weights P e, n ∈ DataW.weightsAll P e es
  | y :: es, h, n, hn => by
    simp only [DataW.weightsAll, List.mem_append]
    rcases List.mem_cons.1 h with rfl | h
    · exact Or.inl hn
    · exact Or.inr (weights_mem_all h n hn)
/-- The form's own reach, of a slice's slices of bytes. -/
theorem reach_inner {ts : List TypeId} {ds : List (DataW H)} {e2 : TypeId} (h : (DataW.weightsEach P ts ds).all (· ≤ reachBytes) = true) {j : Nat} (ht : ts[j]? = some t) {es sp : List (DataW H)} (hd : ds[j]? = some (.slice es sp)) (hu : P.underlying t = some (.slice e)) (he : P.underlying e = some (.slice e2)) (hb : P.bytesOf e2 = 1)
    {x : DataW H} (hx : x ∈ es) : dlen x ≤ 140737488351232 := by
  cases x with
  | slice a b =>
    have h1 : (a.length + b.length) * P.bytesOf e2 ∈ (DataW.slice a b).weights P e := by simp [DataW.weights, he]
    have h2 := weights_mem_all (P := P) hx _ h1
    have h3 : (a.length + b.length) * P.bytesOf e2 ∈ (DataW.slice es sp).weights P t := by simp only [DataW.weights, hu, List.mem_cons, List.mem_append]; exact Or.inr (Or.inl h2)
    have := List.all_eq_true.1 h _ (DataW.weights_mem_each ht hd _ h3)
    rw [hb] at this
    simpa [dlen, reachBytes] using this
  | _ => simp [dlen]
end
end Go.Proofs.Ytkghkpkiodghiaa
