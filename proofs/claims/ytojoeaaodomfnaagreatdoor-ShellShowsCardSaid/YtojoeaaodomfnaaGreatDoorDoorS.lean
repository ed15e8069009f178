/- What a row of chapter 28 says of the package variables when the call begins, as the walks want it. -/
import Derived.Test.YtojoeaaodomfnaaGreatDoorShl1
import Derived.Test.YtojoeaaodomfnaaGreatDoorRows
import Derived.ProofKit
import Derived.LaidMore
import Derived.LaidHandle
import Derived.OpenShut
import Derived.Stop.Joined
import Derived.Shelf.Vars
import Derived.Lib.LaidTab
import Derived.Lay
namespace Go.Proofs.YtojoeaaodomfnaaGreatDoor
set_option linter.unusedVariables false
set_option linter.unusedSimpArgs false
set_option linter.unnecessarySimpa false
open Go.RowKit Go.ChangeShapes Go.WideShapes Go.ChangeAt Go.Deep
set_option maxRecDepth 100000
set_option maxHeartbeats 4000000
noncomputable section
namespace Door
abbrev laid : List (String × DataW Unit) := [("math/bits.deBruijn32tab", Rows.laid_math_bits_deBruijn32tab), ("math/bits.deBruijn64tab", Rows.laid_math_bits_deBruijn64tab), ("internal/strconv.uint64pow10", Rows.laid_internal_strconv_uint64pow10), ("unicode/utf8.acceptRanges", Rows.laid_unicode_utf8_acceptRanges), ("errors.errorType", Rows.laid_errors_errorType), ("strconv.ErrRange", Rows.laid_strconv_ErrRange), ("strconv.ErrSyntax", Rows.laid_strconv_ErrSyntax), ("suffragan/policy.names", Rows.laid_suffragan_policy_names), ("suffragan/shell.verbs", Rows.laid_suffragan_shell_verbs), ("unicode/utf8.first", Rows.laid_unicode_utf8_first)]
theorem own : ownKnob Tryz.prog.godebug = none := by kernel_rfl
theorem laidOut : laidOutB Tryz.prog = true := by kernel_rfl
/-- What the condition says of one variable. -/
theorem laid_each {P : Program} {W : World} : ∀ (l : List (String × DataW Unit)) (ps : List MemPlace), DataW.LaidVars P W l ps → ∀ x ∈ l,
    ∃ g t cs fuel p, P.globalNamed x.1 = some g ∧ (P.globals[g]?).map (·.type) = some t ∧ W.var? P x.1 = some cs ∧ DataW.trod (fun _ => ()) P W 0 (fun _ => true) false fuel t cs.toList = some (x.2, p)
  | [], _, _, x, hx => by cases hx
  | (n, d) :: r, ps, h, x, hx => by
    obtain ⟨g, t, cs, fuel, p, q, h1, h2, h3, h4, h5, -⟩ := h
    rcases List.mem_cons.1 hx with rfl | hx
    · exact ⟨g, t, cs, fuel, p, h1, h2, h3, h4⟩
    · exact laid_each r q h5 x hx
theorem parts {W : World} (h : laidMetH Tryz.prog laid W) : laidMet Tryz.prog (laid.filter fun x => x.2.handleName?.isNone) W ∧ handlesMet Tryz.prog [("errors.errorType", Rows.laid_errors_errorType)] W := by
  have e : (laid.filter fun x => x.2.handleName?.isSome) = [("errors.errorType", Rows.laid_errors_errorType)] := by kernel_rfl
  unfold laidMetH at h
  rw [e] at h
  exact h
theorem one {W : World} (h : laidMetH Tryz.prog laid W) {n : String} {d : DataW Unit} (hm : (n, d) ∈ laid) (hn : d.handleName?.isNone = true) {g t : Nat} (hg : Tryz.prog.globalNamed n = some g) (ht : (Tryz.prog.globals[g]?).map (·.type) = some t) :
    ∃ cs fuel p, W.var? Tryz.prog n = some cs ∧ (∀ j, W.cell? ⟨g, j, none⟩ = cs.toList[j]?) ∧ DataW.trod (fun _ => ()) Tryz.prog W 0 (fun _ => true) false fuel t cs.toList = some (d, p) := by
  obtain ⟨ps, hl, -⟩ := (parts h).1
  obtain ⟨g', t', cs, fuel, p, h1, h2, h3, h4⟩ := laid_each _ _ hl (n, d) (List.mem_filter.2 ⟨hm, hn⟩)
  obtain rfl := Option.some.inj (hg.symm.trans h1)
  obtain rfl := Option.some.inj (ht.symm.trans h2)
  exact ⟨cs, fuel, p, h3, fun j => by rw [World.var?_cell hg h3 j]; simp, h4⟩
/-- Elements of so many cells, one behind the other. -/
theorem chunks {A : Type} (f : A → List Value) (k : Nat) (hk : ∀ a, (f a).length = k) : ∀ (l : List A) (cs : List Value), cs.length = l.length * k → (∀ i a, l[i]? = some a → (cs.drop (i * k)).take k = f a) → cs = l.flatMap f
  | [], cs, h, _ => by
    rw [List.length_nil, Nat.zero_mul, List.length_eq_zero_iff] at h
    subst h; rfl
  | a :: l, cs, h, hi => by
    have h0 := hi 0 a rfl
    rw [Nat.zero_mul, List.drop_zero] at h0
    have h1 := chunks f k hk l (cs.drop k) (by rw [List.length_drop, h, List.length_cons, Nat.succ_mul]; omega) (fun i b hb => by
      have := hi (i + 1) b (by simpa using hb)
      rw [List.drop_drop, ← this, Nat.succ_mul, Nat.add_comm])
    rw [List.flatMap_cons, ← h0, ← h1, List.take_append_drop]
theorem arr_of {f : Nat} {A : Type} {W : World} {t e : TypeId} {n k : Nat} (ht : Tryz.prog.underlying t = some (.array n e)) (hc : Tryz.prog.cellsOf e = k) (hct : Tryz.prog.cellsOf t = n * k) (l : List A) (hl : l.length = n) (d : A → DataW Unit) (v : A → List Value) (hv : ∀ a, (v a).length = k)
    {cs : List Value} {p : List MemPlace} (h : DataW.trod (fun _ => ()) Tryz.prog W 0 (fun _ => true) false f t cs = some (.agg (l.map d), p))
    (he : ∀ m a cs' p', DataW.trod (fun _ => ()) Tryz.prog W 0 (fun _ => true) false m e cs' = some (d a, p') → cs' = v a) : cs = l.flatMap v := by
  obtain ⟨xs, m, -, hx, hlen, hxl, hi⟩ := DataW.trod_array ht h
  simp only [Prod.mk.injEq, DataW.agg.injEq] at hx
  refine chunks v k hv l cs (by rw [hlen, hct, hl]) (fun i a ha => ?_)
  have hin : i < n := by rw [← hl]; exact (List.getElem?_eq_some_iff.1 ha).1
  have h1 := hi i hin
  rw [hc] at h1
  obtain ⟨y, hy⟩ : ∃ y, xs[i]? = some y := ⟨_, List.getElem?_eq_getElem (by omega)⟩
  rw [hy] at h1
  have hd := congrArg (fun l => l[i]?) hx.1
  simp only [List.getElem?_map, ha, hy, Option.map_some, Option.some.injEq] at hd
  exact he m a _ y.2 (by rw [h1, hd])
theorem str_of {f : Nat} {W : World} {t : TypeId} (ht : Tryz.prog.underlying t = some .string) {cs : List Value} {s : List UInt8} {p : List MemPlace} (h : DataW.trod (fun _ => ()) Tryz.prog W 0 (fun _ => true) false f t cs = some (.lit (.string s), p)) : cs = [.string (bs s)] := by
  obtain ⟨b, h1, h2, -⟩ := DataW.trod_string ht h
  simp only [Prod.mk.injEq, DataW.lit.injEq, Lit.string.injEq] at h2
  rw [h1, h2.1]; rfl
theorem int_of {f : Nat} {W : World} {t : TypeId} {k : IntKind} (ht : Tryz.prog.underlying t = some (.int k)) {cs : List Value} {n : Int} {p : List MemPlace} (h : DataW.trod (fun _ => ()) Tryz.prog W 0 (fun _ => true) false f t cs = some (.lit (.int k n), p)) : cs = [.int k n] := by
  obtain ⟨b, h1, h2, -⟩ := DataW.trod_int ht h
  simp only [Prod.mk.injEq, DataW.lit.injEq, Lit.int.injEq, true_and] at h2
  rw [h1, h2.1]
theorem iface_of {f : Nat} {W : World} {t : TypeId} {ms : Array (String × TypeId)} (ht : Tryz.prog.underlying t = some (.interface ms)) {cs : List Value} {nm : String} {d : DataW Unit} {p : List MemPlace} (h : DataW.trod (fun _ => ()) Tryz.prog W 0 (fun _ => true) false f t cs = some (.iface nm d, p)) : ∃ u v, cs = [.iface u v] := by
  cases f with
  | zero => simp [DataW.trod] at h
  | succ n =>
    unfold DataW.trod at h
    rw [ht] at h
    split at h <;> first | exact ⟨_, _, rfl⟩ | simp_all
def verbD (v : Shl.Verb) : DataW Unit := .agg [.lit (.string v.name), .lit (.int .i64 v.kind), .lit (.int .i64 v.cmd), .lit (.string v.pat)]
theorem verbsD : (Rows.laid_suffragan_shell_verbs : DataW Unit) = .agg (Shl.verbs.map verbD) := by kernel_rfl
theorem namesD : (Rows.laid_suffragan_policy_names : DataW Unit) = .agg (Shl.pols.map fun s => .lit (.string s)) := by kernel_rfl
theorem powD : (Rows.laid_internal_strconv_uint64pow10 : DataW Unit) = Lib.tabData .u64 Lib.pow10Tab := by kernel_rfl
theorem verb_of {f : Nat} {W : World} (v : Shl.Verb) {cs : List Value} {p : List MemPlace} (h : DataW.trod (fun _ => ()) Tryz.prog W 0 (fun _ => true) false f 48 cs = some (verbD v, p)) : cs = verbV v := by
  obtain ⟨xs, n, -, hx, hlen, hxl, hi⟩ := DataW.trod_struct Tryz.underlying48 h
  simp only [Prod.mk.injEq, verbD, DataW.agg.injEq] at hx
  have hcl : Tryz.prog.cellsOf 48 = 4 := by kernel_rfl
  have cS : Tryz.prog.cellsOf 9 = 1 := by kernel_rfl
  have cI : Tryz.prog.cellsOf 3 = 1 := by kernel_rfl
  rw [hcl] at hlen
  obtain ⟨c0, c1, c2, c3, rfl⟩ : ∃ c0 c1 c2 c3, cs = [c0, c1, c2, c3] := by
    match cs, hlen with
    | [a, b, c, d], _ => exact ⟨a, b, c, d, rfl⟩
  obtain ⟨x0, x1, x2, x3, rfl⟩ : ∃ c0 c1 c2 c3, xs = [c0, c1, c2, c3] := by
    have hl4 : xs.length = 4 := by have := congrArg List.length hx.1; simpa using this.symm
    match xs, hl4 with
    | [a, b, c, d], _ => exact ⟨a, b, c, d, rfl⟩
  have h0 := hi 0 _ rfl
  have h1 := hi 1 _ rfl
  have h2 := hi 2 _ rfl
  have h3 := hi 3 _ rfl
  simp only [List.map_cons, List.map_nil, List.cons.injEq, and_true] at hx
  obtain ⟨⟨e0, e1, e2, e3⟩, -⟩ := hx
  have r0 := str_of (s := v.name) (p := x0.2) Tryz.underlying9 (h0.trans (congrArg some (Prod.ext e0.symm rfl)))
  have r0 := (List.cons.inj r0).1
  have r1 := int_of (k := .i64) (n := v.kind) (p := x1.2) Tryz.underlying3 (h1.trans (congrArg some (Prod.ext e1.symm rfl)))
  have r1 := (List.cons.inj r1).1
  have r2 := int_of (k := .i64) (n := v.cmd) (p := x2.2) Tryz.underlying3 (h2.trans (congrArg some (Prod.ext e2.symm rfl)))
  have r2 := (List.cons.inj r2).1
  have r3 := str_of (s := v.pat) (p := x3.2) Tryz.underlying9 (h3.trans (congrArg some (Prod.ext e3.symm rfl)))
  have r3 := (List.cons.inj r3).1
  rw [r0, r1, r2, r3]; rfl
theorem blocks {W : World} (h : W.ShapedOpen Tryz.prog) : 11 ≤ W.heap.size := by
  obtain ⟨zero, t, hz⟩ : ∃ zero t, ((begin Tryz.prog (fun _ _ => 0) default).world.heap[10]?).bind Obj.row? = some (zero, t) := by
    have : (((begin Tryz.prog (fun _ _ => 0) default).world.heap[10]?).bind Obj.row?).isSome = true := by kernel_rfl
    obtain ⟨⟨z, t⟩, hx⟩ := Option.isSome_iff_exists.1 this
    exact ⟨z, t, hx⟩
  obtain ⟨cs, hcs, -⟩ := h.1 10 zero t (of_decide_eq_true (by kernel_rfl)) hz
  obtain ⟨h2, -⟩ := Array.getElem?_eq_some_iff.1 hcs
  omega
theorem maxLen {W : World} (h : W.ShapedOpen Tryz.prog) : ∃ m, W.cell? ⟨4, 0, none⟩ = some (.int .i64 m) :=
  cell_of_shapedOpen_int (P := Tryz.prog) (g := 4) (t := 3) (zero := #[.int .i64 0]) h (of_decide_eq_true (by kernel_rfl)) (by kernel_rfl) rfl (by kernel_rfl) (by kernel_rfl) Tryz.underlying3
theorem oneRow : ((List.range Tryz.prog.types.size).filter fun t => Tryz.prog.rowNamed t [101, 114, 114, 111, 114]) = [33] := by kernel_rfl
theorem rtype : (Tryz.prog.cutTypes.find? (·.1 == "internal/reflectlite.rtype")).map (·.2) = some 97 := by kernel_rfl
theorem handle {W : World} (h : laidMetH Tryz.prog laid W) : W.cell? ⟨2, 0, none⟩ = some (.iface 97 (.agg #[.pointer (some ⟨11, 33, none⟩)])) := by
  obtain ⟨name, u, ty, e1, e2, e3, e4, e5⟩ := (parts h).2 _ (List.mem_singleton.2 rfl)
  have en : name = [101, 114, 114, 111, 114] := (Option.some.inj e1).symm
  subst en
  obtain rfl := Option.some.inj (rtype.symm.trans e2)
  have hm : ty ∈ (List.range Tryz.prog.types.size).filter fun t => Tryz.prog.rowNamed t [101, 114, 114, 111, 114] := List.mem_filter.2 ⟨List.mem_range.2 e3, e4⟩
  rw [oneRow] at hm
  obtain rfl := List.mem_singleton.1 hm
  have hh : typeHandle Tryz.prog 33 = .pointer (some ⟨11, 33, none⟩) := by kernel_rfl
  rw [hh] at e5
  simpa using World.var?_cell (show Tryz.prog.globalNamed "errors.errorType" = some 2 by kernel_rfl) e5 0
theorem of_laid {W : World} (h : laidMetH Tryz.prog laid W) (hs : W.ShapedOpen Tryz.prog) : Gl W where
  sz := blocks hs
  vb := by
    obtain ⟨cs, f, p, -, hc, hd⟩ := one h (n := "suffragan/shell.verbs") (d := Rows.laid_suffragan_shell_verbs) (g := 0) (t := 49) (by simp only [laid, List.mem_cons, true_or, or_true]) (by kernel_rfl) (by kernel_rfl) (by kernel_rfl)
    rw [verbsD] at hd
    have e := arr_of Tryz.underlying49 (k := 4) (by kernel_rfl) (by kernel_rfl) Shl.verbs rfl verbD verbV (fun _ => rfl) hd (fun m a cs' p' hh => verb_of a hh)
    intro j u hu
    rw [hc, e]; exact hu
  nm := by
    obtain ⟨cs, f, p, -, hc, hd⟩ := one h (n := "suffragan/policy.names") (d := Rows.laid_suffragan_policy_names) (g := 1) (t := 68) (by simp only [laid, List.mem_cons, true_or, or_true]) (by kernel_rfl) (by kernel_rfl) (by kernel_rfl)
    rw [namesD] at hd
    have e := arr_of Tryz.underlying68 (k := 1) (by kernel_rfl) (by kernel_rfl) Shl.pols rfl (fun s => .lit (.string s)) (fun s => [.string (bs s)]) (fun _ => rfl) hd (fun m a cs' p' hh => str_of Tryz.underlying9 hh)
    intro j hj
    rw [hc, e]
    exact (show ∀ j, j < 7 → (Shl.pols.flatMap fun s => [Value.string (bs s)])[j]? = some (.string (bs (Shl.pols.getD j []))) by
      intro j hj
      match j, hj with
      | 0, _ => rfl
      | 1, _ => rfl
      | 2, _ => rfl
      | 3, _ => rfl
      | 4, _ => rfl
      | 5, _ => rfl
      | 6, _ => rfl) j hj
  et := handle h
  tab := by
    obtain ⟨cs, f, p, hv, hc, hd⟩ := one h (n := "internal/strconv.uint64pow10") (d := Rows.laid_internal_strconv_uint64pow10) (g := 3) (t := 128) (by simp only [laid, List.mem_cons, true_or, or_true]) (by kernel_rfl) (by kernel_rfl) (by kernel_rfl)
    rw [powD] at hd
    have e := Lib.cells_of_tab Tryz.underlying128 Tryz.underlying22 (by kernel_rfl) (by kernel_rfl) hd
    unfold Lib.TabIs
    rw [hv, ← e]
  ml := maxLen hs
  es := by
    obtain ⟨cs, f, p, -, hc, hd⟩ := one h (n := "strconv.ErrSyntax") (d := Rows.laid_strconv_ErrSyntax) (g := 9) (t := 33) (by simp only [laid, List.mem_cons, true_or, or_true]) (by kernel_rfl) (by kernel_rfl) (by kernel_rfl)
    obtain ⟨u, v, e⟩ := iface_of Tryz.underlying33 hd
    exact ⟨u, v, by rw [hc, e]; rfl⟩
  er := by
    obtain ⟨cs, f, p, -, hc, hd⟩ := one h (n := "strconv.ErrRange") (d := Rows.laid_strconv_ErrRange) (g := 10) (t := 33) (by simp only [laid, List.mem_cons, true_or, or_true]) (by kernel_rfl) (by kernel_rfl) (by kernel_rfl)
    obtain ⟨u, v, e⟩ := iface_of Tryz.underlying33 hd
    exact ⟨u, v, by rw [hc, e]; rfl⟩
/-- A start that meets the condition: all is laid, the handle too. -/
noncomputable def wit (os : Os) : World :=
  let w0 := World.laidAll Tryz.prog os (laid.filter fun x => x.2.handleName?.isNone)
  { w0 with heap := w0.heap.modify 2 fun
      | .cells _ t frozen => .cells #[.iface 97 (.agg #[.pointer (some ⟨11, 33, none⟩)])] t frozen
      | o => o }
theorem door_met (os : Os) (args : Array Value) : laidMetH Tryz.prog laid ((wit os).forCall (fun _ _ => 0) ⟨#[], args, []⟩).memory :=
  laidMetH_of_parts3 (fuel := 8) (laidMet_of_run' 8 (by kernel_rfl) (by kernel_rfl)) (by kernel_rfl) (by kernel_rfl)
/-- How a row with laid variables is lifted. -/
theorem lift {H : Type} {enc : TypeId × Value → H} {os : Os} {f : FuncId} {fn : Func} {s : ChangeSpec} {apart fresh handsOn again : Bool} (started : os.Started) (noInit : Tryz.checked.prog.inits.idxOf? f = none) (hfn : Tryz.checked.prog.funcs[f]? = some fn)
    (args0 : Array Value)
    (hok : Input.okWideB Tryz.checked.prog ((wit os).forCall (fun _ _ => 0) ⟨#[], args0, []⟩) f ⟨#[], args0, []⟩ = true)
    (hpre : s.preB enc Tryz.checked.prog fn [] apart ((wit os).forCall (fun _ _ => 0) ⟨#[], args0, []⟩).memory args0 8 = true)
    (hsz : s.sizedB enc Tryz.checked.prog fn apart ((wit os).forCall (fun _ _ => 0) ⟨#[], args0, []⟩).memory args0 8 = true)
    (hsh : ((wit os).forCall (fun _ _ => 0) ⟨#[], args0, []⟩).Shaped Tryz.checked.prog)
    (contract : ∀ (W : World) (base : Nat) (args : Array Value) (ds gs : List (DataW H)) (before : List MemPlace),
      (∀ (j : Nat) t v, fn.params[j]? = some t → args[j]? = some v → Value.okWide Tryz.checked.prog W .any base t v) →
      DataW.Whole enc Tryz.checked.prog fn.params.toList s.vars apart W args.toList ds gs before →
      (DataW.weightsEach Tryz.checked.prog (fn.params.toList ++ s.plain.varTypes Tryz.checked.prog) (ds ++ gs)).all (· ≤ reachBytes) = true → Gl W →
      Calls Tryz.checked.prog f args W fun e W' => ∃ v, e = .returned v ∧ s.post enc Tryz.checked.prog fn apart fresh handsOn again W args v W') :
    ReturnsInHanded {} Tryz.checked os f .any (fun w args => (s.pre enc Tryz.checked.prog fn [] apart w args ∧ laidMetH Tryz.prog laid w) ∧ sizedMet enc Tryz.checked.prog fn (OpenSpec.ofChange s) apart w args) (s.post enc Tryz.checked.prog fn apart fresh handsOn again) := by
  refine returnsInHanded_of_calls own started noInit (ChangeSpec.witness_shaped (enc := enc) (C := Tryz.checked) (os := os) (X := fun w _ => laidMetH Tryz.prog laid w) false (wit os) args0 8 (World.laidAll_os _ _ _) hsh hok hpre hsz (door_met os _)) ?_
  intro w tape i _ hopen _ hin hp hholds
  obtain ⟨_, _, _, fn', hfn', _, _, _, _, hval⟩ := hin
  obtain rfl : fn' = fn := Option.some.inj (hfn'.symm.trans hfn)
  obtain ⟨⟨⟨ds, gs, before, hw, hc⟩, hx⟩, hz⟩ := hp
  have hw' := DataW.Whole.of_heap (w' := w.forCall tape i) (by rfl) hw
  have hx' : laidMetH Tryz.prog laid (w.forCall tape i) := hx.of_heap (by rfl)
  refine (contract (w.forCall tape i) w.heap.size i.args ds gs before hval hw' (hz.weights hw) (of_laid hx' hopen)).mono fun e W' ⟨v, he, hp⟩ => ?_
  subst he
  exact ChangeSpec.post_blind hp
end Door
end
end Go.Proofs.YtojoeaaodomfnaaGreatDoor
