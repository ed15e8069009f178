/- Of no program: a range over a function whose iterator tells what lies in memory where it yields. -/
import Derived.RangeFuncNested
import Derived.RangeFuncBound
import Derived.RangeFuncCalls
import Derived.RangeFuncLeaves
import Derived.Test.YticabllkadpmeaaGreatDoorBase
namespace Go.Proofs.YticabllkadpmeaaGreatDoor
set_option linter.unusedVariables false
set_option linter.unusedSimpArgs false
set_option linter.unnecessarySimpa false
open Go.RowKit

/-- What is cells lies as it lay. -/
structure Cel (A B : World) : Prop where
  size : A.heap.size ≤ B.heap.size
  same : ∀ (k : Nat) (o : Obj), A.heap[k]? = some o → o.isCells = true → B.heap[k]? = some o
/-- What is no cells lies as it lay, and so do cells of the types S. -/
structure Kpt (S : TypeId → Prop) (A B : World) : Prop where
  size : A.heap.size ≤ B.heap.size
  same : ∀ (k : Nat) (o : Obj), A.heap[k]? = some o → o.isCells = false → B.heap[k]? = some o
  rows : ∀ (k : Nat) (cs : Array Value) (T : TypeId), S T → A.heap[k]? = some (.cells cs T (0, 0)) → B.heap[k]? = some (.cells cs T (0, 0))
theorem Cel.refl (A : World) : Cel A A := ⟨Nat.le_refl _, fun _ _ h _ => h⟩
theorem Cel.trans {A B C : World} (h : Cel A B) (k : Cel B C) : Cel A C := ⟨Nat.le_trans h.size k.size, fun i o hi ho => k.same i o (h.same i o hi ho) ho⟩
theorem Cel.of_below {A B : World} (h : Below A.heap.size A B) : Cel A B := ⟨h.size, fun k o hk _ => (h.block k (Array.getElem?_eq_some_iff.1 hk).1).trans hk⟩
theorem Cel.putObj {A : World} {l : Nat} {o : Obj} (o' : Obj) (hl : A.heap[l]? = some o) (ho : o.isCells = false) : Cel A (A.putObj l o') :=
  ⟨by simp, fun k x hk hx => by
    by_cases e : k = l
    · subst e; rw [hl] at hk; cases hk; rw [ho] at hx; cases hx
    · exact (World.putObj_heap_other e).trans hk⟩
theorem Kpt.refl (S : TypeId → Prop) (A : World) : Kpt S A A := ⟨Nat.le_refl _, fun _ _ h _ => h, fun _ _ _ _ h => h⟩
theorem Kpt.trans {S : TypeId → Prop} {A B C : World} (h : Kpt S A B) (k : Kpt S B C) : Kpt S A C := ⟨Nat.le_trans h.size k.size, fun i o hi ho => k.same i o (h.same i o hi ho) ho, fun i cs T hT hi => k.rows i cs T hT (h.rows i cs T hT hi)⟩
theorem Kpt.of_below {S : TypeId → Prop} {A B : World} (h : Below A.heap.size A B) : Kpt S A B :=
  ⟨h.size, fun k o hk _ => (h.block k (Array.getElem?_eq_some_iff.1 hk).1).trans hk, fun k cs T _ hk => (h.block k (Array.getElem?_eq_some_iff.1 hk).1).trans hk⟩
/-- A step that turns one block of cells of another type. -/
theorem Kpt.grown {S : TypeId → Prop} {T' : TypeId} {A B : World} {row : Option Nat} (h : A.grownBy B row) (hr : ∀ r, row = some r → ∃ cs f, A.heap[r]? = some (.cells cs T' f)) (hT : ¬ S T') : Kpt S A B :=
  ⟨h.size, fun k o hk ho => (h.block k (Array.getElem?_eq_some_iff.1 hk).1 (fun e => by
      obtain ⟨cs, f, h2⟩ := hr k e.symm
      rw [hk] at h2; cases h2; simp [Obj.isCells] at ho)).trans hk,
    fun k cs T hS hk => (h.block k (Array.getElem?_eq_some_iff.1 hk).1 (fun e => by
      obtain ⟨cs', f, h2⟩ := hr k e.symm
      rw [hk] at h2; cases h2; exact hT hS)).trans hk⟩
theorem Kpt.setCell {S : TypeId → Prop} {T' : TypeId} {A : World} {b j : Nat} {cs : Array Value} {f : Nat × Nat} (h : A.heap[b]? = some (.cells cs T' f)) (hT : ¬ S T') (v : Value) : Kpt S A (A.setCell ⟨b, j, none⟩ v) := by
  have hs : ∀ k, k ≠ b → (A.setCell ⟨b, j, none⟩ v).heap[k]? = A.heap[k]? := fun k hk => heap_setCell_other A ⟨b, j, none⟩ k v hk
  refine ⟨by simp, fun k o hk ho => (hs k fun e => ?_).trans hk, fun k cs' T hS hk => (hs k fun e => ?_).trans hk⟩
  · subst e; rw [h] at hk; cases hk; simp [Obj.isCells] at ho
  · subst e; rw [h] at hk; cases hk; exact hT hS

section
variable {P : Program}
/-- An iterator of m yields: at the k-th, of v, holds G k v. A round keeps what is no cells, and rows of the type T. -/
def Gives (P : Program) (S : TypeId → Prop) (g : Nat) (lb : Array Value) (m : Nat) (G : Nat → Value → World → Prop) (w0 : World) : Prop :=
  ∀ (n l : Nat) (J : Nat → World → Prop) (W : World), Below w0.heap.size w0 W →
    (∀ k A B, J k A → Cel A B → Below W.heap.size A B → J k B) →
    (∀ k v W1, k < m → J k W1 → G k v W1 → YieldAt Fence.wide n P l #[v] W1 fun e W' => e = .returned (.bool true) ∧ J (k + 1) W' ∧ Kpt S W1 W') →
    J 0 W → CallsIn Fence.wide n P g (#[.func (.yield l) #[] #[]] ++ lb) W fun e W' => (∃ v, e = .returned v) ∧ J m W'
/-- How a round's body is left: off its end. -/
def offEnd (R : World → Prop) : Exit → Act → World → Prop
  | .normal, _, W => R W
  | _, _, _ => False
/-- A range over such an iterator, in a function's own frame, of one loop variable; no round leaves it. -/
theorem wpIn_range {S : TypeId → Prop} {g : Operand} {ps : Array Tmp} {assign body : Code} {Q : Exit → Act → World → Prop} {a : Act} {w : World} {n : Nat} {gf : Nat} {lb : Array Value}
    (hg : a.eval g = .func (.func gf) #[] lb) (eg : ∀ args w, (callFunc gf args).run P w = .ok (.enter gf args) w) {m : Nat} {G : Nat → Value → World → Prop} {w0 : World}
    (hseq : Gives P S gf lb m G w0) (hb0 : Below w0.heap.size w0 w) (hps : ps.size = 1) (hG : ∀ k v A B, G k v A → Cel A B → G k v B)
    (I : Nat → World → Prop) (hI : ∀ k A B, I k A → Cel A B → Below w.heap.size A B → I k B) (h0 : I 0 w) (a₁ : Value → Act)
    (hassign : ∀ (n l : Nat) (v : Value) (W : World) (K : Act → World → Prop), K (a₁ v) W →
      assign.wpIn (Fence.wide.inRound l) n P (Exit.then K (fun _ _ _ => False)) { tmps := (ps.zip #[v]).foldl (fun t (p, v) => t.setIfInBounds p v) a.tmps, defers := [] } W)
    (hbody : ∀ (n l k : Nat) (v : Value) (W : World), k < m → I k W → G k v W → body.wpIn (Fence.wide.inRound l) n P (offEnd fun W' => Kpt S W W' ∧ I (k + 1) W') (a₁ v) W)
    (hdone : ∀ (D : Nat) (W : World), w.heap.size ≤ D → I m W → W.heap[D]? = some (.deferred (some [])) → Q .normal { a with defers := { target := .collected D, args := #[] } :: a.defers } W) :
    (Code.rangeFunc g ps assign body).wpIn Fence.wide n P Q a w := by
  refine wpIn_rangeFunc fun fn _ => ?_
  show ∃ l mark w₁ d w₁' f args w₂, (Instr.enterLoop fn a.tmps ps assign body none).run P w = .ok (l, mark) w₁ ∧ _
  let D := w.heap.size
  let L := w.heap.size + 1
  let rec_ : LoopState → Loop := fun st => { state := st, pending := none, fn, tmps := a.tmps, params := ps, assign, body, defers := w.heap.size }
  obtain ⟨W1, hW1⟩ : ∃ W1, (w.alloc (.deferred (some []))).alloc (.loop (rec_ .ready)) = W1 := ⟨_, rfl⟩
  have hsz : W1.heap.size = w.heap.size + 2 := by rw [← hW1]; simp
  have hL1 : W1.heap[L]? = some (.loop (rec_ .ready)) := by
    rw [← hW1]; have := World.alloc_heap_new (w.alloc (.deferred (some []))) (.loop (rec_ .ready)); rwa [World.size_alloc] at this
  have hD1 : W1.heap[D]? = some (.deferred (some [])) := by
    rw [← hW1]; exact (Below.heap_alloc _ _ _ (by simp [D])).trans (World.alloc_heap_new w _)
  have hB1 : Below w.heap.size w W1 := by rw [← hW1]; exact ((Below.refl _ w).alloc (Nat.le_refl _) _).alloc (by simp) _
  have hI1 : I 0 W1 := hI _ _ _ h0 (Cel.of_below hB1) hB1
  refine ⟨L, [{ target := .collected D, args := #[] }], W1, { target := .fn (.func gf) lb, args := #[.func (.yield L) #[] #[]] }, W1, gf, #[.func (.yield L) #[] #[]] ++ lb, W1, ?_, ?_, fun _ _ => trivial, ?_, (fun h => by cases h), ?_⟩
  · rw [← hW1]; exact run_enterLoop_outer _ _ _ _ _
  · simp only [resolve, hg]
    simp [go_sem]
  · simp [invoke, go_sem, eg]
  refine (hseq _ L (fun k W => I k W ∧ W.heap[L]? = some (.loop (rec_ .ready)) ∧ W.heap[D]? = some (.deferred (some []))) W1 (hb0.trans (hB1.mono hb0.size)) ?_ ?_ ⟨hI1, hL1, hD1⟩).mono ?_
  · rintro k A B ⟨hi, hl, hd⟩ hc hb
    exact ⟨hI k A B hi hc (hb.mono (by omega)), (hb.block L (by omega)).trans hl, (hb.block D (by omega)).trans hd⟩
  · rintro k v W hk ⟨hi, hl, hd⟩ hgv
    have hlt : L < W.heap.size := (Array.getElem?_eq_some_iff.1 hl).1
    refine ⟨fn, _, assign, body, run_yield (P := P) (args := #[v]) hl (by simp [rec_, hps]), roundIn_of_wpIn trivial (hassign _ L v W _ ⟨_, run_beginRound hl rfl, ?_⟩)⟩
    obtain ⟨W2, hW2⟩ : ∃ W2, W.putObj L (.loop { rec_ .ready with state := .busy }) = W2 := ⟨_, rfl⟩
    have hl2 : W2.heap[L]? = some (.loop { rec_ .ready with state := .busy }) := by rw [← hW2]; exact World.putObj_heap_same hlt
    have hd2 : W2.heap[D]? = some (.deferred (some [])) := by rw [← hW2]; exact (World.putObj_heap_other (by simp [D, L])).trans hd
    have hc2 : Cel W W2 := by rw [← hW2]; exact Cel.putObj _ hl rfl
    have hb2 : Below w.heap.size W W2 := by rw [← hW2]; exact (Below.refl _ W).grown (grownBy_putObj' W L _) (by omega) (fun k e => by cases e; omega)
    show body.wpIn _ _ P _ _ (W.putObj L _)
    rw [hW2]
    refine wpIn_mono (hbody _ L k v W2 hk (hI _ _ _ hi hc2 hb2) (hG _ _ _ _ hgv hc2)) ?_
    rintro e a3 W3 hp
    cases e with
    | normal =>
      obtain ⟨hk3, hi3⟩ := hp
      have hl3 := hk3.same L _ hl2 rfl
      have hd3 := hk3.same D _ hd2 rfl
      have hlt3 : L < W3.heap.size := (Array.getElem?_eq_some_iff.1 hl3).1
      obtain ⟨W4, hW4⟩ : ∃ W4, W3.putObj L (.loop (rec_ .ready)) = W4 := ⟨_, rfl⟩
      have hc4 : Cel W3 W4 := by rw [← hW4]; exact Cel.putObj _ hl3 rfl
      have hb4 : Below w.heap.size W3 W4 := by rw [← hW4]; exact (Below.refl _ W3).grown (grownBy_putObj' W3 L _) (by omega) (fun k e => by cases e; omega)
      have hl4 : W4.heap[L]? = some (.loop (rec_ .ready)) := by rw [← hW4]; exact World.putObj_heap_same hlt3
      have ho4 : ∀ k, k ≠ L → W4.heap[k]? = W3.heap[k]? := fun k hk => by rw [← hW4]; exact World.putObj_heap_other hk
      have ho2 : ∀ k, k ≠ L → W2.heap[k]? = W.heap[k]? := fun k hk => by rw [← hW2]; exact World.putObj_heap_other hk
      refine ⟨.bool true, W4, ?_, rfl, ⟨hI _ _ _ hi3 hc4 hb4, hl4, (ho4 D (by simp [D, L])).trans hd3⟩, ?_⟩
      · have := run_endRound (P := P) none hl3
        rw [← hW4]; exact this
      · refine ⟨Nat.le_trans hc2.size (Nat.le_trans hk3.size hc4.size), fun j o hj ho => ?_, fun j cs T hS hj => ?_⟩
        · by_cases e : j = L
          · subst e; rw [hl] at hj; cases hj; exact hl4
          · exact (ho4 j e).trans (hk3.same j o ((ho2 j e).trans hj) ho)
        · have e : j ≠ L := fun e => by subst e; rw [hl] at hj; cases hj
          exact (ho4 j e).trans (hk3.rows j cs T hS ((ho2 j e).trans hj))
    | _ => exact hp.elim
  · rintro e W2 ⟨⟨v, rfl⟩, hi, hl, hd⟩
    have hlt : L < W2.heap.size := (Array.getElem?_eq_some_iff.1 hl).1
    
    refine ⟨none, _, run_endLoop (P := P) hl (by simp [rec_]), hdone D _ (Nat.le_refl _) (hI _ _ _ hi (Cel.putObj _ hl rfl) ?_) ((World.putObj_heap_other (by simp [D, L])).trans hd)⟩
    exact (Below.refl _ W2).grown (grownBy_putObj' W2 L _) (by omega) (fun k e => by cases e; omega)
end
end Go.Proofs.YticabllkadpmeaaGreatDoor
