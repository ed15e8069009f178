/- Of no program: an operation of a region that draws may be taken first, where what it reads stands until another one, that waits for one that waits for it, comes up. (after the kit's OrdersHeld: there one condition has to hold behind every operation; here it may hang on which ones have come up) -/
import Derived.OrdersHeld
import Derived.Deep.RegionHeld
namespace Go.Proofs.YticabllkadpmeaaGreatDoor
set_option linter.unusedVariables false
set_option linter.unusedSimpArgs false
set_option linter.unnecessarySimpa false

section
variable {P : Program} {ops : Array Oper} {Q : Exit → Act → World → Prop} {md : Region.Mode} {S : Array Bool → World → Prop} {Si : World → Prop}
/-- Whatever order is picked from here on; behind each operation S holds, of those that have come up and of the world. -/
def wpAnyL (P : Program) (md : Region.Mode) (ops : Array Oper) (Q : Exit → Act → World → Prop) (S : Array Bool → World → Prop) : Nat → Array Bool → Act → World → Prop
  | 0, listed, a, w => Region.ready md ops listed = [] ∧ Q .normal a w
  | fuel + 1, listed, a, w =>
    (Region.ready md ops listed = [] → Q .normal a w) ∧
    ∀ i ∈ Region.ready md ops listed, wpOp P ops Q i (fun a' w' => S (listed.setIfInBounds i true) w' ∧ wpAnyL P md ops Q S fuel (listed.setIfInBounds i true) a' w') a w
theorem wpAny_of_L : ∀ (fuel : Nat) (listed : Array Bool) (a : Act) (w : World), wpAnyL P md ops Q S fuel listed a w → wpAny P md ops Q fuel listed a w
  | 0, _, _, _, h => h
  | fuel + 1, _, _, _, h => ⟨h.1, fun i hi => wpOp_mono (fun a' w' h' => wpAny_of_L fuel _ a' w' h'.2) (h.2 i hi)⟩
theorem no_wait {i : Nat} {oj : Oper} {listed : Array Bool} (hiu : listed.getD i true = false) (hall : ∀ e ∈ oj.after, Region.binds md e = true → listed.getD e.on false = true) : ∀ e ∈ oj.after, Region.binds md e = true → e.on ≠ i := fun e he hb heq => by
  have h1 := hall e he hb
  rw [heq] at h1
  rcases Nat.lt_or_ge i listed.size with h' | h'
  · simp [h'] at hiu h1; rw [hiu] at h1; cases h1
  · simp [Array.getElem?_eq_none h'] at hiu
/-- Which of the operations have not come up yet, that hold the condition up. -/
def Chain (md : Region.Mode) (ops : Array Oper) : List Nat → Nat → Prop
  | [], _ => True
  | m :: ms, i => (m ≠ i ∧ ∃ om, ops[m]? = some om ∧ ∃ e ∈ om.after, Region.binds md e = true ∧ e.on = i) ∧ Chain md ops ms m
def Un (listed : Array Bool) (ms : List Nat) : Prop := ∀ m ∈ ms, listed.getD m true = false
/-- What comes up is none of a chain whose first one waits for one that has not come up. -/
theorem Chain.apart : ∀ {ms : List Nat} {i : Nat} (h : Chain md ops ms i) {listed : Array Bool} (hi : listed.getD i true = false) (hu : Un listed ms) {j : Nat} {oj : Oper} (hoj : ops[j]? = some oj) (hall : ∀ e ∈ oj.after, Region.binds md e = true → listed.getD e.on false = true), ∀ m ∈ ms, m ≠ j
  | [], _, _, _, _, _, _, _, _, _, m, hm => by cases hm
  | m :: ms, i, h, listed, hi, hu, j, oj, hoj, hall, x, hx => by
    obtain ⟨⟨hmi, om, hom, e, he, hb, hon⟩, hc⟩ := h
    rcases List.mem_cons.1 hx with rfl | hx
    · intro hxj
      subst hxj
      rw [hom] at hoj
      cases hoj
      exact no_wait hi hall e he hb hon
    · exact Chain.apart hc (hu m (by simp)) (fun y hy => hu y (by simp [hy])) hoj hall x hx
theorem wpAnyL_first {i : Nat} {ms : List Nat} {oi : Oper} {v : Value} (hi : ops[i]? = some oi) (hch : Chain md ops ms i) (hni : ∀ m ∈ ms, m ≠ i) (hset : ∀ l w, S (l.setIfInBounds i true) w ↔ S l w) (hSi : ∀ l w, Un l ms → S l w → Si w)
    (hsel : ∀ (j : Nat) (o : Oper) cs b, ops[j]? = some o → o.op ≠ .select cs b) (hQ : ∀ c a w, Q (.panic c) (a.put oi.dst v) w → Q (.panic c) a w) :
    ∀ (fuel : Nat) (listed : Array Bool) (a : Act) (w : World),
      (∀ j oj, ops[j]? = some oj → j ≠ i → listed.getD j true = false → (∀ e ∈ oj.after, Region.binds md e = true → e.on ≠ i) → oi.apart ops oj = true) →
      i ∈ Region.ready md ops listed → Un listed ms → YieldsIf P ops Si oi v a → S listed w →
      wpAnyL P md ops Q S fuel (listed.setIfInBounds i true) (a.put oi.dst v) w → wpAnyL P md ops Q S (fuel + 1) listed a w := by
  intro fuel
  induction fuel with
  | zero =>
    intro listed a w _ hr hu hy hS H
    refine ⟨fun h => (by rw [h] at hr; cases hr), fun j hj => ?_⟩
    by_cases hji : j = i
    · subst hji; exact hy.wpOp hi (hSi _ _ hu hS) ⟨(hset _ _).2 hS, H⟩
    · have := ready_mono hj hji
      rw [H.1] at this
      cases this
  | succ fuel ih =>
    intro listed a w hfree hr hu hy hS H
    refine ⟨fun h => (by rw [h] at hr; cases hr), fun j hj => ?_⟩
    by_cases hji : j = i
    · subst hji; exact hy.wpOp hi (hSi _ _ hu hS) ⟨(hset _ _).2 hS, H⟩
    · have h1 := H.2 j (ready_mono hj hji)
      obtain ⟨hjun, oj, hoj, hall⟩ := mem_ready.1 hj
      have hiu := (mem_ready.1 hr).1
      have hnot := no_wait hiu hall
      have hap := hch.apart hiu hu hoj hall
      have h2 := wpOp_putIf (S := Si) hoj (hfree j oj hoj hji hjun hnot) (fun cs b => hsel i oi cs b hi) (fun cs b => hsel j oj cs b hoj) hQ hy h1
      have hfree' : ∀ m om, ops[m]? = some om → m ≠ i → (listed.setIfInBounds j true).getD m true = false →
          (∀ e ∈ om.after, Region.binds md e = true → e.on ≠ i) → oi.apart ops om = true := fun m om hm hmi hun hno => by
        refine hfree m om hm hmi ?_ hno
        by_cases hjm : j = m
        · subst hjm; exact hjun
        · rw [getD_set_ne true hjm] at hun; exact hun
      have hu' : Un (listed.setIfInBounds j true) ms := fun m hm => by rw [getD_set_ne true (fun e => hap m hm e.symm)]; exact hu m hm
      have hsw : (listed.setIfInBounds i true).setIfInBounds j true = (listed.setIfInBounds j true).setIfInBounds i true := Array.setIfInBounds_comm _ _ (Ne.symm hji)
      refine wpOp_mono (fun a' w' h3 => ?_) h2
      have hSw : S (listed.setIfInBounds j true) w' := (hset _ _).1 (by rw [← hsw]; exact h3.2.1)
      refine ⟨hSw, ih (listed.setIfInBounds j true) a' w' hfree' (ready_mono hr (Ne.symm hji)) hu' h3.1 hSw ?_⟩
      rw [← hsw]
      exact h3.2.2
theorem wpAnyL_take {i : Nat} {ms : List Nat} {oi : Oper} {v : Value} {fuel : Nat} {listed : Array Bool} {a : Act} {w : World} (hi : ops[i]? = some oi) (hs : Region.noSelect ops = true) (hf : Region.free md ops listed i = true) (hr : (Region.ready md ops listed).contains i = true)
    (hQ : ∀ c a w, Q (.panic c) (a.put oi.dst v) w → Q (.panic c) a w) (hch : Chain md ops ms i) (hni : ∀ m ∈ ms, m ≠ i) (hset : ∀ l w, S (l.setIfInBounds i true) w ↔ S l w) (hSi : ∀ l w, Un l ms → S l w → Si w) (hu : Un listed ms) (hy : YieldsIf P ops Si oi v a) (hS : S listed w)
    (h : wpAnyL P md ops Q S fuel (listed.setIfInBounds i true) (a.put oi.dst v) w) : wpAnyL P md ops Q S (fuel + 1) listed a w :=
  wpAnyL_first hi hch hni hset hSi (Region.noSelect_spec hs) hQ fuel listed a w (Region.free_spec hi hf) (by simpa using hr) hu hy hS h
def AllReadyL (P : Program) (md : Region.Mode) (ops : Array Oper) (Q : Exit → Act → World → Prop) (S : Array Bool → World → Prop) (fuel : Nat) (listed : Array Bool) (a : Act) (w : World) (rs : List Nat) : Prop :=
  ∀ i ∈ rs, wpOp P ops Q i (fun a' w' => S (listed.setIfInBounds i true) w' ∧ wpAnyL P md ops Q S fuel (listed.setIfInBounds i true) a' w') a w
theorem AllReadyL.nil {fuel : Nat} {listed : Array Bool} {a : Act} {w : World} : AllReadyL P md ops Q S fuel listed a w [] := fun _ h => by cases h
theorem AllReadyL.cons {fuel : Nat} {listed : Array Bool} {a : Act} {w : World} {i : Nat} {o : Oper} {rs : List Nat} (ho : ops[i]? = some o)
    (h : ∀ K' : Act → World → Prop, Shut (∀ a w, S (listed.setIfInBounds i true) w → (S (listed.setIfInBounds i true) w → wpAnyL P md ops Q S fuel (listed.setIfInBounds i true) a w) → K' a w) → if Region.wanted o (yielded ops a.tmps) = true then Oper.wp P o a w K' Q else K' (a.put o.dst undef) w)
    (hs : AllReadyL P md ops Q S fuel listed a w rs) : AllReadyL P md ops Q S fuel listed a w (i :: rs) := fun j hj => by
  rcases List.mem_cons.1 hj with rfl | hj
  · exact wpOp_step ho (fun K' hK => h K' (fun a w hS hW => hK a w ⟨hS, hW hS⟩))
  · exact hs j hj
theorem wpAnyL_ready {rs : List Nat} {fuel : Nat} {listed : Array Bool} {a : Act} {w : World} (hr : Region.ready md ops listed = rs) (hne : rs ≠ []) (h : AllReadyL P md ops Q S fuel listed a w rs) : wpAnyL P md ops Q S (fuel + 1) listed a w :=
  ⟨fun h0 => absurd (hr ▸ h0) hne, hr ▸ h⟩
theorem wpAnyL_done {listed : Array Bool} {a : Act} {w : World} (hr : Region.ready md ops listed = []) (h : Q .normal a w) : ∀ fuel, wpAnyL P md ops Q S fuel listed a w
  | 0 => ⟨hr, h⟩
  | _ + 1 => ⟨fun _ => h, by rw [hr]; simp⟩
theorem wp_region_L {id : Nat} {a : Act} {w : World} (hm : P.follows .mixedOrders = true) (hS : S (Array.replicate ops.size false) w.drew)
    (h : S (Array.replicate ops.size false) w.drew → wpAnyL P .any ops Q S ops.size (Array.replicate ops.size false) a w.drew) : (Code.region id ops true).wp P Q a w :=
  wp_region_any hm (wpAny_of_L _ _ _ _ (h hS))
def chainB (md : Region.Mode) (ops : Array Oper) : List Nat → Nat → Bool
  | [], _ => true
  | m :: ms, i => (m != i) && (match ops[m]? with | some om => om.after.any (fun e => Region.binds md e && e.on == i) | none => false) && chainB md ops ms m
theorem Chain.of : ∀ {ms : List Nat} {i : Nat}, chainB md ops ms i = true → Chain md ops ms i
  | [], _, _ => trivial
  | m :: ms, i, h => by
    simp only [chainB, Bool.and_eq_true] at h
    obtain ⟨⟨h1, h2⟩, h3⟩ := h
    refine ⟨⟨by simpa using h1, ?_⟩, Chain.of h3⟩
    cases hm : ops[m]? with
    | none => rw [hm] at h2; cases h2
    | some om =>
      rw [hm] at h2
      simp only [Array.any_eq_true'] at h2
      obtain ⟨e, he, hb⟩ := h2
      simp only [Bool.and_eq_true, beq_iff_eq] at hb
      exact ⟨om, rfl, e, he, hb.1, hb.2⟩
theorem Un.of {listed : Array Bool} {ms : List Nat} (h : ms.all (fun m => listed.getD m true == false) = true) : Un listed ms := fun m hm => by simpa using List.all_eq_true.1 h m hm
/-- Two conditions, each as long as an operation has not come up. -/
def Held2 (k1 : Nat) (p1 : World → Prop) (k2 : Nat) (p2 : World → Prop) (l : Array Bool) (w : World) : Prop := (l.getD k1 true = false → p1 w) ∧ (l.getD k2 true = false → p2 w)
theorem Held2.set {k1 k2 i : Nat} {p1 p2 : World → Prop} (h1 : i ≠ k1) (h2 : i ≠ k2) : ∀ (l : Array Bool) (w : World), Held2 k1 p1 k2 p2 (l.setIfInBounds i true) w ↔ Held2 k1 p1 k2 p2 l w := fun l w => by
  unfold Held2
  rw [getD_set_ne true h1, getD_set_ne true h2]
end
end Go.Proofs.YticabllkadpmeaaGreatDoor
