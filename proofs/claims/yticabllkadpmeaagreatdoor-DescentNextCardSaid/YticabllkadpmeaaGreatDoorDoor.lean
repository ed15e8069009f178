/- What a door row's condition gives the walks: the two variables of package sha, and that a third block lies there. -/
import Derived.Test.YticabllkadpmeaaGreatDoorSha2
import Derived.Test.YticabllkadpmeaaGreatDoorRows
import Derived.Test.YticabllkadpmeaaGreatDoorOpenArr
import Derived.ProofKit
import Derived.LaidMore
import Derived.OpenShut
import Derived.Stop.Joined
namespace Go.Proofs.YticabllkadpmeaaGreatDoor
set_option linter.unusedVariables false
set_option linter.unusedSimpArgs false
set_option linter.unnecessarySimpa false
open Go.RowKit Go.ChangeShapes Go.WideShapes Go.ChangeAt Go.Deep
set_option maxRecDepth 100000
set_option maxHeartbeats 4000000
noncomputable section
namespace Door
abbrev laid : List (String × DataW Unit) := [("suffragan/sha.first", Rows.laid_suffragan_sha_first), ("suffragan/sha.roots", Rows.laid_suffragan_sha_roots)]
theorem own : ownKnob Tryz.prog.godebug = none := by kernel_rfl
theorem laidOut : laidOutB Tryz.prog = true := by kernel_rfl
theorem gFirst : Tryz.prog.globalNamed "suffragan/sha.first" = some 0 := by kernel_rfl
theorem gRoots : Tryz.prog.globalNamed "suffragan/sha.roots" = some 1 := by kernel_rfl
theorem tFirst : (Tryz.prog.globals[0]?).map (·.type) = some 91 := by kernel_rfl
theorem tRoots : (Tryz.prog.globals[1]?).map (·.type) = some 106 := by kernel_rfl
theorem door_met (os : Os) (args : Array Value) : laidMetH Tryz.prog laid ((World.doorLaid Tryz.prog 400 os).forCall (fun _ _ => 0) ⟨#[], args, []⟩).memory :=
  laidMetH_of_parts3 (fuel := 8) (laidMet_of_run' 8 (by kernel_rfl) (by kernel_rfl)) (by kernel_rfl) (by kernel_rfl)
theorem firstD : (Rows.laid_suffragan_sha_first : DataW Unit) = .agg (Sha.first.map fun x => .lit (.int .u32 (u x))) := by kernel_rfl
theorem rootsD : (Rows.laid_suffragan_sha_roots : DataW Unit) = .agg (Sha.roots.map fun x => .lit (.int .u32 (u x))) := by kernel_rfl
/-- An array of numbers that reads so. -/
theorem open_told {H : Type} {enc : TypeId × Value → H} {P : Program} {W : World} {t e : TypeId} {n : Nat} {k : IntKind} (ht : P.underlying t = some (.array n e)) (he : P.underlying e = some (.int k)) (hc : P.cellsOf e = 1)
    {b0 : Nat} {sp : Nat → Bool} {held : Bool} {fuel : Nat} {cs : List Value} {ds : List (DataW H)} {p : List MemPlace} (hf : DataW.trod enc P W b0 sp held fuel t cs = some (.agg ds, p))
    (j : Nat) (hj : j < n) (a : Int) (hd : ds[j]? = some (.lit (.int k a))) : cs[j]? = some (.int k a) := by
  obtain ⟨xs, m, _, hx, hl, hlen, hi⟩ := DataW.trod_array ht hf
  simp only [Prod.mk.injEq, DataW.agg.injEq] at hx
  have h1 := hi j hj
  obtain ⟨y, hy⟩ : ∃ y, xs[j]? = some y := ⟨_, List.getElem?_eq_getElem (by omega)⟩
  rw [hc, hy] at h1
  obtain ⟨b, e1, e2, _⟩ := DataW.trod_int he h1
  have hd' := hd
  rw [hx.1, List.getElem?_map, hy] at hd'
  simp only [Option.map_some, Option.some.injEq] at hd'
  rw [e2] at hd'
  simp only [DataW.lit.injEq, Lit.int.injEq, true_and] at hd'
  subst hd'
  simp only [Nat.mul_one] at e1
  have h2 : ((cs.drop j).take 1)[0]? = some (.int k b) := by rw [e1]; rfl
  simpa using h2
theorem of_laid {W : World} (h : laidMetH Tryz.prog laid W) (h3 : 3 ≤ W.heap.size) : Glob W := by
  rw [MakeChecks.laidMetH_plain _ _ _ (by kernel_rfl)] at h
  obtain ⟨ps, ⟨g0, t0, cs0, f0, p0, q0, hg0, ht0, hv0, hd0, ⟨g1, t1, cs1, f1, p1, q1, hg1, ht1, hv1, hd1, _, _⟩, _⟩, _, _⟩ := h
  obtain rfl := Option.some.inj (gFirst.symm.trans hg0)
  obtain rfl := Option.some.inj (gRoots.symm.trans hg1)
  obtain rfl := Option.some.inj (tFirst.symm.trans ht0)
  obtain rfl := Option.some.inj (tRoots.symm.trans ht1)
  rw [firstD] at hd0
  rw [rootsD] at hd1
  refine ⟨h3, fun j hj => ?_, fun j hj => ?_⟩
  · have hl : j < Sha.first.length := hj
    have := open_told Tryz.underlying91 Tryz.underlying90 (by kernel_rfl) hd0 j hj (u (Sha.first.getD j 0)) (by rw [List.getElem?_map, List.getElem?_eq_getElem hl]; simp [List.getD, hl])
    rw [World.var?_cell hg0 hv0 j]
    simpa using this
  · have hl : j < Sha.roots.length := hj
    have := open_told Tryz.underlying106 Tryz.underlying90 (by kernel_rfl) hd1 j hj (u (Sha.roots.getD j 0)) (by rw [List.getElem?_map, List.getElem?_eq_getElem hl]; simp [List.getD, hl])
    rw [World.var?_cell hg1 hv1 j]
    simpa using this
/-- The third variable's block. -/
theorem third {W : World} (h : W.ShapedOpen Tryz.prog) : 3 ≤ W.heap.size := by
  obtain ⟨zero, t, hz⟩ : ∃ zero t, ((begin Tryz.prog (fun _ _ => 0) default).world.heap[2]?).bind Obj.row? = some (zero, t) := by
    have : (((begin Tryz.prog (fun _ _ => 0) default).world.heap[2]?).bind Obj.row?).isSome = true := by kernel_rfl
    obtain ⟨⟨z, t⟩, hx⟩ := Option.isSome_iff_exists.1 this
    exact ⟨z, t, hx⟩
  obtain ⟨cs, hcs, -⟩ := h.1 2 zero t (of_decide_eq_true (by kernel_rfl)) hz
  obtain ⟨h2, -⟩ := Array.getElem?_eq_some_iff.1 hcs
  omega
/-- How a row with laid variables is lifted, its world's blocks told. -/
theorem lift {H : Type} {enc : TypeId × Value → H} {os : Os} {f : FuncId} {fn : Func} {s : ChangeSpec} {apart fresh handsOn again : Bool} (started : os.Started) (noInit : Tryz.checked.prog.inits.idxOf? f = none) (hfn : Tryz.checked.prog.funcs[f]? = some fn)
    (args0 : Array Value)
    (hok : Input.okWideB Tryz.checked.prog ((World.doorLaid Tryz.prog 400 os).forCall (fun _ _ => 0) ⟨#[], args0, []⟩) f ⟨#[], args0, []⟩ = true)
    (hpre : s.preB enc Tryz.checked.prog fn [] apart ((World.doorLaid Tryz.prog 400 os).forCall (fun _ _ => 0) ⟨#[], args0, []⟩).memory args0 8 = true)
    (hsz : s.sizedB enc Tryz.checked.prog fn apart ((World.doorLaid Tryz.prog 400 os).forCall (fun _ _ => 0) ⟨#[], args0, []⟩).memory args0 8 = true)
    (hsh : ((World.doorLaid Tryz.prog 400 os).forCall (fun _ _ => 0) ⟨#[], args0, []⟩).Shaped Tryz.checked.prog)
    (contract : ∀ (W : World) (base : Nat) (args : Array Value) (ds gs : List (DataW H)) (before : List MemPlace),
      (∀ (j : Nat) t v, fn.params[j]? = some t → args[j]? = some v → Value.okWide Tryz.checked.prog W .any base t v) →
      DataW.Whole enc Tryz.checked.prog fn.params.toList s.vars apart W args.toList ds gs before →
      (DataW.weightsEach Tryz.checked.prog (fn.params.toList ++ s.plain.varTypes Tryz.checked.prog) (ds ++ gs)).all (· ≤ reachBytes) = true → Glob W →
      Calls Tryz.checked.prog f args W fun e W' => ∃ v, e = .returned v ∧ s.post enc Tryz.checked.prog fn apart fresh handsOn again W args v W') :
    ReturnsInHanded {} Tryz.checked os f .any (fun w args => (s.pre enc Tryz.checked.prog fn [] apart w args ∧ laidMetH Tryz.prog laid w) ∧ sizedMet enc Tryz.checked.prog fn (OpenSpec.ofChange s) apart w args) (s.post enc Tryz.checked.prog fn apart fresh handsOn again) := by
  refine returnsInHanded_of_calls own started noInit (ChangeSpec.witness_shaped (enc := enc) (C := Tryz.checked) (os := os) (X := fun w _ => laidMetH Tryz.prog laid w) false (World.doorLaid Tryz.prog 400 os) args0 8 rfl hsh hok hpre hsz (door_met os _)) ?_
  intro w tape i _ hopen _ hin hp hholds
  obtain ⟨_, _, _, fn', hfn', _, _, _, _, hval⟩ := hin
  obtain rfl : fn' = fn := Option.some.inj (hfn'.symm.trans hfn)
  obtain ⟨⟨⟨ds, gs, before, hw, hc⟩, hx⟩, hz⟩ := hp
  have hw' := DataW.Whole.of_heap (w' := w.forCall tape i) (by rfl) hw
  have hx' : laidMetH Tryz.prog laid (w.forCall tape i) := hx.of_heap (by rfl)
  refine (contract (w.forCall tape i) w.heap.size i.args ds gs before hval hw' (hz.weights hw) (of_laid hx' (third hopen))).mono fun e W' ⟨v, he, hp⟩ => ?_
  subst he
  exact ChangeSpec.post_blind hp
end Door
end
end Go.Proofs.YticabllkadpmeaaGreatDoor
