/- slices.Sort of texts of the call's own, by the shelf's contract. -/
import Derived.Lib.OwnBridge
import Derived.Test.YticabllkadpmeaaDoorBase
import Derived.Test.YticabllkadpmeaaDoorShelf
namespace Go.Proofs.YticabllkadpmeaaDoor
set_option linter.unusedVariables false
set_option linter.unusedSimpArgs false
set_option linter.unnecessarySimpa false
open Go.RowKit Go.Shelf Go.Sort Go.Lib

/-- The call owns the row behind v, of texts. -/
def OwnS (w : World) (base : Nat) (v : Value) (ss : List ByteArray) : Prop := w.ownsRow base 9 1 v ss.length (strs ss)
theorem OwnS.shS {w : World} {base : Nat} {v : Value} {ss : List ByteArray} (h : OwnS w base v ss) : ShS w v ss := by
  unfold ShS
  rw [strs_length]
  exact Shows.of_own h
theorem OwnS.nil (w : World) (base : Nat) : OwnS w base (.slice none 0 0) [] := World.ownsRow_nil _ _ _ _
theorem own_grow {w : World} {base e size n : Nat} {v : Value} {xs : List Value} (h : w.ownsRow base e size v n xs) (os : Array Obj) : (grow w os).ownsRow base e size v n xs := by
  refine ⟨h.1, ?_⟩
  rcases h.2 with hv | ⟨g, cap, cur, hv, h1, h2, h3⟩
  · exact .inl hv
  · refine .inr ⟨g, cap, cur, hv, h1, ?_, h3⟩
    have hlt : g < w.heap.size := (Array.getElem?_eq_some_iff.1 h2).1
    rw [heap_grow_old w os hlt]; exact h2
theorem below_grow {B : Nat} {w0 w : World} (h : Below B w0 w) (os : Array Obj) (hB : B ≤ w.heap.size) : Below B w0 (grow w os) :=
  ⟨h.os, h.tape, h.output, by have := h.size; simp [grow]; omega, fun k hk => by rw [heap_grow_old w os (by omega)]; exact h.block k hk⟩
theorem sort_own (w : World) (base : Nat) (v : Value) (ss ts : List ByteArray) (h : OwnS w base v ss) (hb : base ≤ w.heap.size) (hn : ss.length ≤ 1000000000)
    (ht : (ss.map (·.data.toList)).mergeSort (fun x y => decide (x ≤ y)) = ts.map (·.data.toList)) :
    Calls Tryd.prog 25 #[v] w fun e w' => e = .returned (.tuple #[]) ∧ OwnS w' base v ts ∧ Below base w w' ∧ w.grownBy w' v.ownBlock := by
  by_cases hv : v = .slice none 0 0
  · subst hv
    have h0 : ss = [] := by
      rcases h.2 with ⟨_, h0⟩ | ⟨g, cap, cur, hv, _⟩
      · simpa [strs] using h0
      · cases hv
    subst h0
    have ht0 : ts = [] := by
      simp only [List.map_nil, List.mergeSort_nil] at ht
      exact List.map_eq_nil_iff.1 ht.symm
    subst ht0
    exact (Tryd.slices_Sort_string_none none 0 w).mono fun e w' ⟨h1, h2⟩ => by subst h2; exact ⟨h1, OwnS.nil _ _, Below.refl _ _, ⟨rfl, rfl, rfl, Nat.le_refl _, fun _ _ _ => rfl⟩⟩
  · have h' : w.ownsRow base 9 1 v ss.length ((ss.map (·.data.toList)).map encStr) := by rw [map_encStr]; exact h
    obtain ⟨g, cap, rfl, h1, h2, h3, h4, h5, h6⟩ := holds_of_ownsRow h' hv
    have hlen : ts.length = ss.length := by
      have := congrArg List.length ht
      rw [List.length_mergeSort, List.length_map, List.length_map] at this
      exact this.symm
    have := Tryd.slices_Sort_string g 0 cap (ss.map (·.data.toList)) w h6 h2 (by rw [List.length_map]; omega)
    rw [List.length_map, ht] at this
    refine this.mono fun e w' ⟨he, n, os, hw⟩ => ?_
    subst hw
    have ho := ownsRow_putRow (q := n) (k := ss.length) (ys := ts.map (·.data.toList)) h' (by rw [List.length_map]; exact hlen) (Nat.le_refl _)
    rw [List.take_of_length_le (by rw [List.length_map]; omega), map_encStr] at ho
    refine ⟨he, ?_, ?_, ?_⟩
    · unfold OwnS
      rw [hlen]
      exact own_grow ho os
    · exact below_grow (below_putRow (Below.refl _ _) h1) os (by simp; omega)
    · refine ⟨rfl, rfl, rfl, by simp [grow], fun k hk hne => ?_⟩
      rw [heap_grow_old _ os (by simpa using hk)]
      have hgk : g ≠ k := fun e => hne (by subst e; rfl)
      simp [putRow, mapBlock, Sort.ahead, Array.getElem?_modify, hgk]
end Go.Proofs.YticabllkadpmeaaDoor
