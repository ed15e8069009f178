/- Whole structs in boxes: stored, loaded, handed back. Of any program. -/
import Derived.Test.YtojoeaaodomfnaaGreatDoorDsk0
import Derived.Deep.MidRow
import Derived.Laws.ResultCell
namespace Go.Proofs.YtojoeaaodomfnaaGreatDoor
set_option linter.unusedVariables false
set_option linter.unusedSimpArgs false
set_option linter.unnecessarySimpa false
open Go.RowKit
variable {P : Program}

theorem Row.over {b : Nat} {t : TypeId} : ∀ (cs D C : List Value) {w : World}, Row w b t (D ++ C) → cs.length ≤ C.length → Row (w.setCells b D.length cs) b t (D ++ cs ++ C.drop cs.length)
  | [], D, C, w, h, _ => by simpa [World.setCells] using h
  | v :: r, D, [], w, h, hl => by simp at hl
  | v :: r, D, c :: C, w, h, hl => by
    have h1 := h.set D.length v
    have e : (D ++ c :: C).set D.length v = (D ++ [v]) ++ C := by simp [List.set_append]
    rw [e] at h1
    have h2 := Row.over r (D ++ [v]) C h1 (by simpa using hl)
    rw [World.setCells]
    simpa using h2
theorem Row.setAll {b : Nat} {t : TypeId} {cs C : List Value} {w : World} (h : Row w b t C) (hl : cs.length = C.length) : Row (w.setCells b 0 cs) b t cs := by
  have := Row.over cs [] C (by simpa using h) (by omega)
  simpa [hl] using this
theorem Row.there' {w : World} {b : Nat} {t : TypeId} {C : List Value} (h : Row w b t C) (o n : Nat) (hn : o + n ≤ C.length) : w.there b o n := fun j hj =>
  ⟨by rw [h.cell, List.getElem?_eq_getElem (by omega)]; rfl, h.frozen _⟩
theorem Row.rangeAt {w : World} {b : Nat} {t : TypeId} {C : List Value} (h : Row w b t C) : w.rangeAt b 0 C := fun j v hv => by rw [Nat.zero_add, h.cell]; exact hv
theorem upd_setCells (b : Nat) : ∀ (cs : List Value) (o : Nat) (w : World), Upd b w (w.setCells b o cs)
  | [], _, w => Upd.refl b w
  | v :: r, o, w => by
    rw [World.setCells]
    exact (Upd.set b o w v).trans (upd_setCells b r (o + 1) _)
theorem Upd.below' {p B : Nat} {a b c : World} (h0 : Below B a b) (h : Upd p b c) (hp : B ≤ p) (hB : B ≤ b.heap.size) : Below B a c := h0.trans (h.below hp hB)
/-- A struct is stored into a box. -/
theorem store_box {w : World} {ops : Array Oper} {rest : List Oper} {o : Oper} {a : Act} {Q : Exit → Act → World → Prop} (hgd : o.guard = none) (ty : TypeId) (x y : Operand) (ho : o.op = .store ty x y)
    (b : Nat) (hx : a.eval x = .pointer (some ⟨b, 0, none⟩)) (cs : List Value) (hy : a.eval y = .agg cs.toArray) (t : TypeId) (C : List Value) (hr : Row w b t C) (hl : cs.length = C.length)
    (hi : (P.info? ty).map (·.size) = some cs.length) (h1 : ∀ u ∈ cs, u.oneCell' = true)
    (h : ∀ w', Row w' b t cs → Upd b w w' → wpList P ops Q rest (a.put o.dst undef) w') : wpList P ops Q (o :: rest) a w :=
  wpList_store_mid hgd ty x y ho b 0 cs.toArray hx hy (hr.there' 0 _ (by simp; omega)) (by rw [hi]; simp) (all_oneCell_toArray h1) (h _ (hr.setAll hl) (upd_setCells b cs 0 w))
/-- A struct is loaded out of a box. -/
theorem load_box {w : World} {ops : Array Oper} {rest : List Oper} {o : Oper} {a : Act} {Q : Exit → Act → World → Prop} (hgd : o.guard = none) (ty : TypeId) (x : Operand) (ho : o.op = .load ty x)
    (b : Nat) (hx : a.eval x = .pointer (some ⟨b, 0, none⟩)) (cs : List Value) (t : TypeId) (hr : Row w b t cs) (d : TypeDesc) (hu : P.underlying ty = some d) (hd : d.isRow = true)
    (hi : (P.info? ty).map (·.size) = some cs.length) (h : wpList P ops Q rest (a.put o.dst (.agg cs.toArray)) w) : wpList P ops Q (o :: rest) a w :=
  wpList_load_mid hgd ty x ho b 0 hx cs d hr.rangeAt hu hd hi h
/-- A box and a slot are handed back. -/
theorem ret_box {fn : Func} {p q : Tmp} {ty t : TypeId} {d : TypeDesc} (h : fn.results = #[.cell p ty, .tmp q]) {R : Ending → World → Prop} {a : Act} {w : World} (hdf : a.defers = []) (g : Nat) (hp : a.tmps.getD p undef = .pointer (some ⟨g, 0, none⟩)) (cs : List Value) (hr : Row w g t cs)
    (hu : P.underlying ty = some d) (hrow : d.isRow) (hs : (P.info? ty).map (·.size) = some cs.length) (hR : R (.returned (.tuple #[.agg cs.toArray, a.tmps.getD q undef])) w) : bodyPost P fn R .ret a w := by
  refine bodyPost_ret (v := .tuple #[.agg cs.toArray, a.tmps.getD q undef]) ?_ hdf hR
  have h1 := run_loadVar_mid (P := P) w g 0 ty cs d hr.rangeAt hu hrow hs
  rw [results_cell_tmp h, hp]
  simp [asAddr, h1, Result.andThen]
end Go.Proofs.YtojoeaaodomfnaaGreatDoor
