/- Of no program: a call that writes one block alone. -/
import Derived.Test.YtojoeaaodomfnaaGreatDoorBase
import Derived.Test.YtojoeaaodomfnaaGreatDoorArr
import Derived.Test.YtojoeaaodomfnaaGreatDoorRegion
namespace Go.Proofs.YtojoeaaodomfnaaGreatDoor
set_option linter.unusedVariables false
set_option linter.unusedSimpArgs false
set_option linter.unnecessarySimpa false
open Go.RowKit

/-- Of what was there block p alone is another. -/
def Upd (p : Nat) (w w' : World) : Prop := w.grownBy w' (some p)
theorem Upd.refl (p : Nat) (w : World) : Upd p w w := ⟨rfl, rfl, rfl, Nat.le_refl _, fun _ _ _ => rfl⟩
theorem Upd.trans {p : Nat} {a b c : World} (h : Upd p a b) (k : Upd p b c) : Upd p a c :=
  ⟨k.os.trans h.os, k.tape.trans h.tape, k.output.trans h.output, Nat.le_trans h.size k.size, fun i hi hp => (k.block i (Nat.lt_of_lt_of_le hi h.size) hp).trans (h.block i hi hp)⟩
theorem Upd.of_below {p : Nat} {a b : World} (h : Below a.heap.size a b) : Upd p a b := bgrow h _
theorem Upd.sizeLe {p : Nat} {a b : World} (h : Upd p a b) : a.heap.size ≤ b.heap.size := h.size
theorem Upd.below {p B : Nat} {a b : World} (h : Upd p a b) (hp : B ≤ p) (hB : B ≤ a.heap.size) : Below B a b :=
  ⟨h.os, h.tape, h.output, h.size, fun k hk => h.block k (by omega) (fun e => by simp at e; omega)⟩
theorem Upd.set (p j : Nat) (w : World) (u : Value) : Upd p w (w.setCell ⟨p, j, none⟩ u) :=
  ⟨rfl, rfl, rfl, by simp [World.setCell], fun k _ hk => Below.heap_setCell _ _ _ _ (fun e => hk (by simp [e]))⟩
theorem Upd.row {p q t : Nat} {C : List Value} {a b : World} (h : Upd p a b) (hr : Row a q t C) (hq : q ≠ p) : Row b q t C := (h.block q hr.lt (fun e => hq (by simpa using e))).trans hr
theorem Upd.own {p t e : Nat} {C : List Value} {v : Value} {l : List UInt8} {B : Nat} {a b : World} (h : Upd p a b) (ho : Own a B e v l) (hr : Row a p t C) (he : e ≠ t) : Own b B e v l := by
  refine World.ownsRow.kept ho h ?_
  rcases ho.2 with ⟨rfl, _⟩ | ⟨g, cap, cur, rfl, _, hg, _⟩
  · exact .inl rfl
  · refine .inr fun hc => ?_
    simp only [Value.ownBlock, Option.some.injEq] at hc
    subst hc
    unfold Row at hr
    rw [hg] at hr
    simp only [Option.some.injEq, Obj.cells.injEq] at hr
    exact he hr.2.1
theorem Own.belowAny {w w' : World} {e B : Nat} {v : Value} {l : List UInt8} (h : Own w B e v l) (hb : Below w.heap.size w w') : Own w' B e v l := h.below hb
end Go.Proofs.YtojoeaaodomfnaaGreatDoor
