/- Package tree: Paths. -/
import Derived.Test.YticabllkadpmeaaGreatDoorPth
import Derived.Test.YticabllkadpmeaaGreatDoorRPut
namespace Go.Proofs.YticabllkadpmeaaGreatDoor
set_option linter.unusedVariables false
set_option linter.unusedSimpArgs false
set_option linter.unnecessarySimpa false
open Go.RowKit Go.Shelf
set_option maxRecDepth 100000
set_option maxHeartbeats 4000000
attribute [local go_sem] Oper.semAt_some

/-- The call owns the row behind v, of slices of numbers: the lists Ps. -/
def PL (w : World) (B : Nat) (v : Value) (Ps : List (List Int)) : Prop :=
  ∃ vs : List Value, w.ownsRow B 23 1 v vs.length vs ∧ vs.length = Ps.length ∧ ∀ j, j < vs.length → OwnN w 0 (vs.getD j undef) (Ps.getD j [])
theorem PL.nil (w : World) (B : Nat) : PL w B (.slice none 0 0) [] := ⟨[], World.ownsRow_nil _ _ _ _, rfl, fun j hj => by simp at hj⟩
theorem PL.cel {A B : World} {base : Nat} {v : Value} {Ps : List (List Int)} (h : PL A base v Ps) (hk : Cel A B) : PL B base v Ps := by
  obtain ⟨vs, h1, h2, h3⟩ := h
  refine ⟨vs, ⟨h1.1, ?_⟩, h2, fun j hj => (h3 j hj).cel hk⟩
  rcases h1.2 with hv | ⟨g, cap, cur, hv, a1, a2, a3⟩
  · exact .inl hv
  · exact .inr ⟨g, cap, cur, hv, a1, hk.same g _ a2 rfl, a3⟩
theorem PL.below {A B : World} {base N : Nat} {v : Value} {Ps : List (List Int)} (h : PL A base v Ps) (hb : Below N A B) (hN : A.heap.size ≤ N) : PL B base v Ps := h.cel (Cel.of_below (hb.mono hN))
theorem own_form1 {w : World} {B e : Nat} {v : Value} {n : Nat} {xs : List Value} (h : w.ownsRow B e 1 v n xs) : ∃ a n c, v = .slice a n c := by
  rcases h.2 with ⟨h, -⟩ | ⟨g, cap, cur, h, -⟩
  · exact ⟨_, _, _, h⟩
  · exact ⟨_, _, _, h⟩
theorem slice_info : (Tryz.prog.info? 23).map (fun i => (i.zero, i.size, i.bytes)) = some (some (.slice none 0 0), 1, 24) := by kernel_rfl
/-- One more list, at the end: what lies where behind it. -/
theorem PL.snoc {w w' : World} {B : Nat} {v v' : Value} {Ps : List (List Int)} {vs : List Value} {x : Value} {P : List Int} (h1 : w.ownsRow B 23 1 v vs.length vs) (h2 : vs.length = Ps.length) (h3 : ∀ j, j < vs.length → OwnN w 0 (vs.getD j undef) (Ps.getD j [])) (hx : OwnN w 0 x P)
    (h4 : w'.ownsRow B 23 1 v' (vs.length + 1) (vs ++ [x])) (hk : Kpt Sp w w') : PL w' B v' (Ps ++ [P]) := by
  have ho : ∀ {v : Value} {l : List Int}, OwnN w 0 v l → OwnN w' 0 v l := fun {v l} h => by
    refine ⟨h.1, ?_⟩
    rcases h.2 with hv | ⟨g, cap, cur, hv, a1, a2, a3⟩
    · exact .inl hv
    · exact .inr ⟨g, cap, cur, hv, a1, hk.rows g cur _ (by unfold Sp; decide) a2, a3⟩
  refine ⟨vs ++ [x], by simpa using h4, by simp [h2], fun j hj => ?_⟩
  by_cases hjl : j < vs.length
  · rw [show (vs ++ [x]).getD j undef = vs.getD j undef from by simp [List.getD, List.getElem?_append_left hjl], show (Ps ++ [P]).getD j [] = Ps.getD j [] from by simp [List.getD, List.getElem?_append_left (show j < Ps.length by omega)]]
    exact ho (h3 j hjl)
  · have : j = vs.length := by simp at hj; omega
    subst this
    rw [show (vs ++ [x]).getD vs.length undef = x from by simp [List.getD], show (Ps ++ [P]).getD vs.length [] = P from by rw [h2]; simp [List.getD]]
    exact ho hx
theorem own_setBox {w : World} {B e b t : Nat} {v u : Value} {n : Nat} {xs C : List Value} (h : w.ownsRow B e 1 v n xs) (hr : Row w b t C) (ht : t ≠ e) : (w.setCell ⟨b, 0, none⟩ u).ownsRow B e 1 v n xs := by
  refine ⟨h.1, ?_⟩
  rcases h.2 with hv | ⟨g, cap, cur, hv, a1, a2, a3⟩
  · exact .inl hv
  · refine .inr ⟨g, cap, cur, hv, a1, (heap_setCell_other w ⟨b, 0, none⟩ g u ?_).trans a2, a3⟩
    rintro rfl
    unfold Row at hr
    rw [a2] at hr
    simp only [Option.some.injEq, Obj.cells.injEq] at hr
    exact ht hr.2.1.symm
theorem own_apart {w : World} {B e b t : Nat} {v : Value} {n : Nat} {xs C : List Value} (h : w.ownsRow B e 1 v n xs) (hr : Row w b t C) (ht : t ≠ e) : some b ≠ v.ownBlock := fun hb => by
  rcases h.2 with ⟨hv, -⟩ | ⟨g, cap, cur, hv, a1, a2, a3⟩
  · rw [hv] at hb; cases hb
  · rw [hv] at hb
    have : b = g := by simpa [Value.ownBlock] using hb
    subst this
    unfold Row at hr
    rw [a2] at hr
    simp only [Option.some.injEq, Obj.cells.injEq] at hr
    exact ht hr.2.1.symm
theorem own_block {w : World} {B e : Nat} {v : Value} {n : Nat} {xs : List Value} (h : w.ownsRow B e 1 v n xs) : ∀ r, v.ownBlock = some r → ∃ cs f, w.heap[r]? = some (.cells cs e f) := fun r hr => by
  rcases h.2 with ⟨hv, -⟩ | ⟨g, cap, cur, hv, a1, a2, a3⟩
  · rw [hv] at hr; cases hr
  · rw [hv] at hr
    have : g = r := by simpa [Value.ownBlock] using hr
    subst this
    exact ⟨_, _, a2⟩
/-- All paths of fewer than n numbers. -/
def psTo (n : Nat) : List (List Int) := (List.range n).flatMap fun i => (List.range (4 ^ i)).map (pth i)
theorem psTo_succ (n : Nat) : psTo (n + 1) = psTo n ++ (List.range (4 ^ n)).map (pth n) := by simp [psTo, List.range_succ]
theorem psTo_len (j : Nat) (hj : j ≤ 3) : (psTo j).length + 4 ^ j ≤ 1000000 := by
  rcases (show j = 0 ∨ j = 1 ∨ j = 2 ∨ j = 3 by omega) with rfl | rfl | rfl | rfl <;> decide
end Go.Proofs.YticabllkadpmeaaGreatDoor
namespace Go.Proofs.YticabllkadpmeaaGreatDoor
set_option linter.unusedVariables false
set_option linter.unusedSimpArgs false
set_option linter.unnecessarySimpa false
open Go.RowKit
open Tre (It)
set_option maxRecDepth 100000
set_option maxHeartbeats 8000000

/-- An item, its name cut. -/
def cutN (x : It) : It := if 60 < x.name.size then { x with name := x.name.extract 0 60 } else x
def fewL (l : List It) : List It := (l.take 8).map cutN
theorem cutN_size (x : It) : (cutN x).name.size ≤ 60 := by
  unfold cutN
  split
  · simp only [ByteArray.size_extract]; omega
  · omega
theorem cutN_ok {x : It} (h : ItOk x) : ItS (cutN x) := by
  have h1 := cutN_size x
  refine ⟨⟨?_, ?_, ?_⟩, by omega⟩
  · unfold cutN; split
    · exact h.1
    · exact h.1
  · unfold cutN; split
    · exact h.2.1
    · exact h.2.1
  · unfold maxLen; omega
theorem fewL_its {l : List It} (h : Oks l) : ∀ x ∈ fewL l, ItS x := fun x hx => by
  simp only [fewL, List.mem_map] at hx
  obtain ⟨y, hy, rfl⟩ := hx
  exact cutN_ok (h y (List.mem_of_mem_take hy))
theorem fewL_length (l : List It) : (fewL l).length ≤ 8 := by simp [fewL]; omega
end Go.Proofs.YticabllkadpmeaaGreatDoor
