/- Of no program: operations of a region behind a test that failed ('a && b && ..'): what is guarded by it is passed over, what picks out of it is false. -/
import Derived.WalkKit
namespace Go.Proofs.YtojoeaaodomfnaaGreatDoor
set_option linter.unusedVariables false
set_option linter.unusedSimpArgs false
set_option linter.unnecessarySimpa false
open Go.RowKit
def deadDst (n : Nat) (F : List Nat) (k : Nat) (o : Oper) : Option (List Nat) :=
  match o.dst with
  | some d => if F.contains k && decide (d < n) then some (d :: F) else none
  | none => none
def skipOk (F : List Nat) (d : Option Nat) : Bool := match d with | some d => !F.contains d | none => true
/-- One operation: which temporaries are false behind it, if it is passed over or false out of what is false. -/
def deadOp (n : Nat) (ops : Array Oper) (F : List Nat) (o : Oper) : Option (List Nat) :=
  match o.guard with
  | some (j, b) =>
    match b, (ops[j]?).bind (·.dst) with
    | true, some k => if (F.contains k && skipOk F o.dst) = true then some F else none
    | _, _ => none
  | none =>
    match o.op with
    | .move (.tmp k) => deadDst n F k o
    | .assign (.tmp k) => deadDst n F k o
    | .pick (.tmp k) _ (.const (.bool false)) => deadDst n F k o
    | _ => none
def deadRun (n : Nat) (ops : Array Oper) : List Nat → List Oper → Option (List Nat)
  | F, [] => some F
  | F, o :: rest => match deadOp n ops F o with
    | some F' => deadRun n ops F' rest
    | none => none
/-- These temporaries are false. -/
def Dead (a : Act) (n : Nat) (F : List Nat) : Prop := a.tmps.size = n ∧ ∀ k ∈ F, a.tmps[k]? = some (.bool false)
theorem Dead.eval {a : Act} {n : Nat} {F : List Nat} (h : Dead a n F) {k : Nat} (hk : k ∈ F) : a.eval (.tmp k) = .bool false := by
  have := h.2 k hk
  show a.tmps.getD k undef = _
  simp [Array.getD_eq_getD_getElem?, this]
theorem Dead.put {a : Act} {n : Nat} {F : List Nat} (h : Dead a n F) (d : Nat) (hd : d < n) : Dead (a.put (some d) (.bool false)) n (d :: F) := by
  refine ⟨by simp [Act.put, h.1], fun k hk => ?_⟩
  simp only [Act.put]
  by_cases e : d = k
  · subst e; simp [h.1, hd]
  · rcases List.mem_cons.1 hk with rfl | hk
    · exact absurd rfl e
    · rw [Array.getElem?_setIfInBounds_ne e]; exact h.2 k hk
theorem Dead.skip {a : Act} {n : Nat} {F : List Nat} (h : Dead a n F) (o : Option Nat) (ho : skipOk F o = true) (v : Value) : Dead (a.put o v) n F := by
  cases o with
  | none => exact h
  | some d =>
    refine ⟨by simp [Act.put, h.1], fun k hk => ?_⟩
    simp only [Act.put]
    have e : d ≠ k := fun e => by subst e; simp [skipOk, List.contains_iff_mem, hk] at ho
    rw [Array.getElem?_setIfInBounds_ne e]; exact h.2 k hk
theorem put_defers (a : Act) (d : Option Nat) (v : Value) : (a.put d v).defers = a.defers := by cases d <;> rfl
theorem wpList_dead {P : Program} {ops : Array Oper} {Q : Exit → Act → World → Prop} {w : World} {n : Nat} {F' : List Nat} : ∀ (l : List Oper) (F : List Nat) (a : Act), Dead a n F → deadRun n ops F l = some F' →
    (∀ a', Dead a' n F' → a'.defers = a.defers → Q .normal a' w) → wpList P ops Q l a w
  | [], F, a, hd, hr, hQ => by
    simp only [deadRun, Option.some.injEq] at hr
    subst hr
    exact hQ a hd rfl
  | o :: rest, F, a, hd, hr, hQ => by
    unfold deadRun at hr
    split at hr
    · rename_i F1 h1
      have step : ∀ d v, Dead (a.put d v) n F1 → wpList P ops Q rest (a.put d v) w := fun d v hx => wpList_dead rest F1 _ hx hr (fun a' h1 h2 => hQ a' h1 (h2.trans (put_defers _ _ _)))
      unfold deadOp at h1
      split at h1
      · rename_i j b hg
        split at h1
        · rename_i k hk
          split at h1
          · rename_i hc
            simp only [Option.some.injEq] at h1
            subst h1
            simp only [Bool.and_eq_true] at hc
            have hm : k ∈ F := by simpa [List.contains_iff_mem] using hc.1
            refine wpList_skip ?_ (step _ _ (hd.skip _ hc.2 _))
            simp only [Region.wanted, hg]
            have hy : yielded ops a.tmps j = some false := by
              unfold yielded
              rw [hk]
              simp [hd.2 k hm]
            rw [hy]; rfl
          · cases h1
        · cases h1
      · rename_i hg
        have plain : ∀ k, k ∈ F → ∀ v : Value, v = .bool false → (∀ d, o.dst = some d → deadDst n F k o = some F1) → o.dst.isSome → wpList P ops Q rest (a.put o.dst v) w := fun k hk v hv hx hs => by
          subst hv
          obtain ⟨d, hdd⟩ := Option.isSome_iff_exists.1 hs
          have h2 := hx d hdd
          unfold deadDst at h2
          rw [hdd] at h2 ⊢
          simp only at h2
          split at h2
          · rename_i hc
            simp only [Option.some.injEq] at h2
            subst h2
            simp only [Bool.and_eq_true, decide_eq_true_eq] at hc
            exact step _ _ (hd.put d hc.2)
          · cases h2
        have some_ : ∀ k, deadDst n F k o = some F1 → o.dst.isSome ∧ k ∈ F := fun k h2 => by
          unfold deadDst at h2
          split at h2
          · rename_i d hdd
            split at h2
            · rename_i hc
              simp only [Bool.and_eq_true] at hc
              exact ⟨by rw [hdd]; rfl, by simpa [List.contains_iff_mem] using hc.1⟩
            · cases h2
          · cases h2
        split at h1
        · rename_i k ho
          obtain ⟨s1, s2⟩ := some_ k h1
          refine wpList_plain hg fun K hK => ?_
          unfold Oper.wp execOp
          simp only [ho, Sem.run_pure]
          exact hK _ _ (plain k s2 _ (hd.eval s2) (fun _ _ => h1) s1)
        · rename_i k ho
          obtain ⟨s1, s2⟩ := some_ k h1
          refine wpList_plain hg fun K hK => ?_
          unfold Oper.wp execOp
          simp only [ho, Sem.run_pure]
          exact hK _ _ (plain k s2 _ (hd.eval s2) (fun _ _ => h1) s1)
        · rename_i k x ho
          obtain ⟨s1, s2⟩ := some_ k h1
          refine wpList_plain hg fun K hK => ?_
          unfold Oper.wp execOp
          simp only [ho, hd.eval s2, asBool, Sem.run_bind, Sem.run_pure, Result.andThen_ok]
          exact hK _ _ (plain k s2 _ rfl (fun _ _ => h1) s1)
        · cases h1
    · cases hr
theorem wpList_dead1 {P : Program} {ops : Array Oper} {Q : Exit → Act → World → Prop} {w : World} (n k r : Nat) {l : List Oper} {a : Act} (hs : a.tmps.size = n) (hk : a.tmps[k]? = some (.bool false))
    (hr : ((deadRun n ops [k] l).any fun F => F.contains r) = true) (hQ : ∀ a' : Act, a'.tmps[r]? = some (.bool false) → a'.defers = a.defers → Q .normal a' w) : wpList P ops Q l a w := by
  obtain ⟨F', hF⟩ : ∃ F', deadRun n ops [k] l = some F' := by
    cases h : deadRun n ops [k] l with
    | none => rw [h] at hr; cases hr
    | some F => exact ⟨F, rfl⟩
  rw [hF] at hr
  refine wpList_dead l [k] a ⟨hs, fun q hq => by rw [List.mem_singleton.1 hq]; exact hk⟩ hF fun a' h1 h2 => hQ a' (h1.2 r (by simpa [List.contains_iff_mem] using hr)) h2
theorem dead_ret {P : Program} {fn : Func} {R : Ending → World → Prop} {K : Act → World → Prop} {a : Act} {w : World} {r : Nat} {v : Value} (hK : ∀ a w, Code.wp P .ret (bodyPost P fn R) a w → K a w) (hres : fn.results = #[.tmp r])
    (h : a.tmps[r]? = some v) (hd : a.defers = []) (hR : R (.returned v) w) : Exit.then K (bodyPost P fn R) .normal a w := by
  refine hK a w (wp_ret (bodyPost_ret ?_ hd hR))
  rw [results_tmp hres]
  simp [Array.getD_eq_getD_getElem?, h]
end Go.Proofs.YtojoeaaodomfnaaGreatDoor
