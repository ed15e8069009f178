/-
  DescentNext: at which paths below a path sums are others, as the document says. No condition beyond the form's own; the two variables of package sha are tied to the program's text.
-/
import Derived.Test.YticabllkadpmeaaGreatDoorDes12
import Derived.Test.YticabllkadpmeaaGreatDoorOpenI
import Derived.Test.YticabllkadpmeaaGreatDoorOpenArr
import Derived.Test.YticabllkadpmeaaGreatDoorDoor
import Derived.Test.YticabllkadpmeaaGreatDoorTie
import Derived.Test.YticabllkadpmeaaGreatDoorCards
import Derived.SevenTiedAt
namespace Go.Proofs.YticabllkadpmeaaGreatDoor.descentNextDone
set_option linter.unusedVariables false
set_option linter.unusedSimpArgs false
set_option linter.unnecessarySimpa false
open Go.ChangeShapes Go.WideShapes Go.ChangeAt Go.RowKit
open Go.ChangeMaps (open_string shut_string)
open Go.Joins

theorem open_ns {H : Type} {enc : TypeId × Value → H} {P : Program} {W : World} {base : Nat} {t e : TypeId} {v : Value} {d : DataW H} {p : List MemPlace} (ht : P.underlying t = some (.slice e)) (he : P.underlying e = some (.int .i64)) (hc : P.cellsOf e = 1)
    (hv : Value.okWide P W .any base t v) (h : DataW.Trod enc P W 0 (fun _ => true) true t v d p) : ∃ l : List Int, Ns W v l ∧ l.length ≤ dlen d := by
  obtain ⟨a, len, cap, rfl⟩ := okWide_slice ht hv
  obtain ⟨fuel, hf⟩ := h
  rcases open_ints ht he hc hf with ⟨hcs, hx⟩ | ⟨x, l, c, zs, hcs, _, hl, hm, hz, hx, hcell, hwz⟩
  · simp [Value.cells] at hcs
    obtain ⟨rfl, rfl, rfl⟩ := hcs
    exact ⟨[], Shows.nil _ _, Nat.zero_le _⟩
  · simp [Value.cells] at hcs
    obtain ⟨rfl, rfl, rfl⟩ := hcs
    simp only [Prod.mk.injEq] at hx
    simp only [if_true] at hz
    have e1 : (zs.take len).length = len := by simp; omega
    refine ⟨zs.take len, ?_, ?_⟩
    · unfold Ns
      rw [e1]
      refine ⟨by rw [nums_length, e1]; simp, _, _, rfl, hl, hm, fun h => by simp at h, ?_⟩
      intro y hy j u hu
      simp only [Option.some.injEq] at hy
      subst hy
      by_cases hj : j < len
      · rw [nums_get _ _ _ (by rw [e1]; exact hj)] at hu
        simp only [Option.some.injEq] at hu
        subst hu
        have hj' : j < zs.length := by omega
        rw [hcell j hj']
        simp [List.getD, List.getElem?_take, hj, List.getElem?_eq_getElem hj']
      · rw [List.getElem?_eq_none (by rw [nums_length, e1]; omega)] at hu; cases hu
    · rw [e1, hx.1]
      simp [dlen, lits]; omega
theorem sums_of {L : List (List Int)} (h1 : ∀ A ∈ L, A.length = 32) (h2 : ∀ i, i < L.length → ∀ j, j < 32 → (Lit.int .u8 ((L.getD i []).getD j 0)).wf = true) : ∃ S : List (List UInt8), flat .u8 L = sumsC S ∧ L32 S ∧ S.length = L.length := by
  induction L with
  | nil => exact ⟨[], rfl, fun x hx => (by cases hx), rfl⟩
  | cons A L ih =>
    obtain ⟨S, e1, e2, e3⟩ := ih (fun B hB => h1 B (List.mem_cons_of_mem _ hB)) (fun i hi => h2 (i + 1) (by simpa using hi))
    have hA := h1 A (List.mem_cons_self ..)
    obtain ⟨x, ex, hx⟩ := bytes_of_nums (A := A) (fun j hj => h2 0 (by simp) j (by omega))
    refine ⟨x :: S, ?_, ?_, by simp [e3]⟩
    · show nums .u8 A ++ flat .u8 L = bytes x ++ sumsC S
      rw [e1, ex]
    · intro y hy
      rcases List.mem_cons.1 hy with rfl | hy
      · omega
      · exact e2 y hy
set_option maxRecDepth 100000 in
theorem contract (H : Type) (enc : TypeId × Value → H) (W : World) (base : Nat) (args : Array Value) (ds gs : List (DataW H)) (before : List MemPlace)
    (hval : ∀ (j : Nat) t v, Tryz.f3.params[j]? = some t → args[j]? = some v → Value.okWide Tryz.prog W .any base t v)
    (hW : DataW.Whole enc Tryz.prog Tryz.f3.params.toList Rows.descentNextSpec.vars false W args.toList ds gs before)
    (hsz : (DataW.weightsEach Tryz.prog (Tryz.f3.params.toList ++ Rows.descentNextSpec.plain.varTypes Tryz.prog) (ds ++ gs)).all (· ≤ reachBytes) = true) (hG : Glob W) :
    Calls Tryz.prog 3 args W fun e W' => ∃ v, e = .returned v ∧ Rows.descentNextSpec.post enc Tryz.prog Tryz.f3 false true false false W args v W' := by
  have hW' := hW
  obtain ⟨p, q, hA0, hV, rfl, hfz, hnd⟩ := hW
  have hA : DataW.TrodAll enc Tryz.prog W 0 (fun _ => true) true Tryz.f3.params.toList args.toList ds p := hA0
  rw [Tryz.params3] at hA hval hsz
  obtain ⟨v0, vs0, d0, ds0, p0, q0, hargs, rfl, rfl, h0, r0⟩ := trodAll_cons hA
  obtain ⟨v1, vs1, d1, ds1, p1, q1, rfl, rfl, rfl, h1, r1⟩ := trodAll_cons r0
  obtain ⟨v2, vs2, d2, ds2, p2, q2, rfl, rfl, rfl, h2, r2⟩ := trodAll_cons r1
  obtain ⟨rfl, rfl, rfl⟩ := trodAll_nil r2
  obtain rfl : args = #[v0, v1, v2] := by cases args; simp_all
  obtain ⟨rfl, rfl⟩ := trodVars_none hV
  have k0 := h0
  have lt0 : ∀ x ∈ p0, x.block < W.heap.size := by obtain ⟨m, hm⟩ := k0; exact DataW.trod_lt m _ _ _ hm
  obtain ⟨l0, sh0, ok0, ln0⟩ := open_items (hval 0 22 v0 rfl rfl) h0
  have rc0 := reach_slice (d := d0) hsz (j := 0) rfl rfl Tryz.underlying22 (k := 56) (by kernel_rfl)
  have k1 := h1
  have lt1 : ∀ x ∈ p1, x.block < W.heap.size := by obtain ⟨m, hm⟩ := k1; exact DataW.trod_lt m _ _ _ hm
  obtain ⟨l1, sh1, ln1⟩ := open_ns Tryz.underlying23 Tryz.underlying3 (by kernel_rfl) (hval 1 23 v1 rfl rfl) h1
  have rc1 := reach_slice (d := d1) hsz (j := 1) rfl rfl Tryz.underlying23 (k := 8) (by kernel_rfl)
  have k2 := h2
  have lt2 : ∀ x ∈ p2, x.block < W.heap.size := by obtain ⟨m, hm⟩ := k2; exact DataW.trod_lt m _ _ _ hm
  obtain ⟨L2, sh2, al2, ln2, wf2⟩ := open_numss (n := 32) (by decide) Tryz.underlying24 Tryz.underlying36 Tryz.underlying5 (by kernel_rfl) (by kernel_rfl) (hval 2 24 v2 rfl rfl) h2
  obtain ⟨S2, eS, e32, eL⟩ := sums_of al2 wf2
  have rc2 := reach_slice (d := d2) hsz (j := 2) rfl rfl Tryz.underlying24 (k := 32) (by kernel_rfl)
  clear hA0
  refine (DescentNext_walk v0 v1 v2 l0 l1 S2 W hG sh0 ok0 (by omega) sh1 (by omega) (by unfold Sms; rw [eL, ← eS]; exact sh2) e32 (by omega)).mono fun e W' ⟨he, bel⟩ => ?_
  subst he
  exact ⟨_, rfl, _, _, _, [], _, [], hW', trodAll_mk1 (shut_bool Tryz.underlying4 _), (trodAll_cons_mk (Below.trod Door.laidOut (by kernel_rfl) (of_decide_eq_true (by kernel_rfl)) k0 bel lt0) (trodAll_cons_mk (Below.trod Door.laidOut (by kernel_rfl) (of_decide_eq_true (by kernel_rfl)) k1 bel lt1) (trodAll_cons_mk (Below.trod Door.laidOut (by kernel_rfl) (of_decide_eq_true (by kernel_rfl)) k2 bel lt2) trodAll_mk0))), rfl, bel.frame _, fun h => by cases h⟩

set_option maxRecDepth 100000 in
theorem lifted (os : Os) (started : os.Started) (H : Type) (enc : TypeId × Value → H) :
    ReturnsInHanded {} Tryz.checked os 3 .any (fun w args => (Rows.descentNextSpec.pre enc Tryz.prog Tryz.f3 [] false w args ∧ laidMetH Tryz.prog Door.laid w) ∧ sizedMet enc Tryz.prog Tryz.f3 (OpenSpec.ofChange Rows.descentNextSpec) false w args) (Rows.descentNextSpec.post enc Tryz.prog Tryz.f3 false true false false) :=
  Door.lift started (by kernel_rfl) Tryz.func3 #[.slice none 0 0, .slice none 0 0, .slice none 0 0] (by kernel_rfl) (by kernel_rfl) (by kernel_rfl) (World.shaped_of_RefB (by kernel_rfl) (by kernel_rfl))
    (fun W base args ds gs before hval hW hsz hG => contract H enc W base args ds gs before hval hW hsz hG)

/-- The row's own statement. -/
theorem said : Rows.DescentNextSaid :=
  OpenClaim.holds_of_wide 3 Tryz.f3 rfl rfl rfl rfl rfl rfl rfl ⟨rfl, rfl, rfl, rfl, rfl⟩ rfl rfl rfl rfl rfl (by kernel_rfl) Tryz.func3 (by kernel_rfl)
    (of_decide_eq_true (by kernel_rfl)) (by unfold Func.isWrapper; first | (rw [if_pos (by decide +kernel)]; kernel_rfl) | (rw [if_neg (by decide +kernel)]; exact ⟨rfl, rfl⟩))
    (fun os started H enc _ => lifted os started H enc)
/-- The tied card. -/
theorem proved : Rows.DescentNextCardSaid :=
  Claim7.holds_tied_plain_at .later [] [.data, .data] true (true, "4a9a233486865f18b9dea86c0c95b8dd85cf0fe8673db1ff737205aefed7b46c") false
    said (fun _ h => by cases h) (by kernel_rfl) (fun _ h => by cases h) descentNext_row_tie rfl ⟨rfl, rfl⟩ (by kernel_rfl) rfl
    (fun f fn hf hfn => by
      obtain rfl : f = 3 := Option.some.inj ((show Tryz.prog.funcNamed "suffragan/suffraganlaw22.DescentNext" = some 3 by kernel_rfl).symm.trans hf) |>.symm
      obtain rfl : fn = Tryz.f3 := (Option.some.inj (Tryz.func3.symm.trans hfn)).symm
      exact ⟨by kernel_rfl, fun j t ht => by
        rw [Tryz.params3] at ht
        have hm : t ∈ [22, 23, 24] := by simpa using Array.mem_of_getElem? ht
        have hall : ([22, 23, 24].all fun u => !Tryz.prog.wantsStandIn u) = true := by kernel_rfl
        exact (show Tryz.prog.wantsStandIn t = false by simpa using List.all_eq_true.1 hall t hm)⟩)
    (by kernel_rfl)
#print axioms proved
end Go.Proofs.YticabllkadpmeaaGreatDoor.descentNextDone
