/- An event, as an argument's reading gives it. -/
import Derived.Test.YtojoeaaodomfnaaGreatDoorEvW
import Derived.Test.YtojoeaaodomfnaaGreatDoorRows
import Derived.ProofKit
import Derived.OpenShut
import Derived.ChangeArms
import Derived.Stop.Joined
namespace Go.Proofs.YtojoeaaodomfnaaGreatDoor
set_option linter.unusedVariables false
set_option linter.unusedSimpArgs false
set_option linter.unnecessarySimpa false
open Go.RowKit Go.ChangeShapes Go.WideShapes Go.ChangeAt
set_option maxRecDepth 100000
section
variable {H : Type} {enc : TypeId × Value → H} {W : World} {base : Nat} {v : Value} {d : DataW H} {p : List MemPlace}
theorem wf_i64E {a : Int} (h : (Lit.int .i64 a).wf = true) : -9223372036854775808 ≤ a ∧ a ≤ 9223372036854775807 := by
  simp [Lit.wf, IntKind.min, IntKind.max, IntKind.bits, IntKind.signed] at h; omega
theorem slice_core {t e : TypeId} {b0 fuel : Nat} {sp : Nat → Bool} {held : Bool} {c : Value} {x : DataW H × List MemPlace} (ht : Tryz.prog.underlying t = some (.slice e)) (hf : DataW.trod enc Tryz.prog W b0 sp held fuel t [c] = some x) :
    ∃ a n cap, c = .slice a n cap ∧ n ≤ 9223372036854775807 ∧ cap ≤ 9223372036854775807 ∧ (a = none → cap = 0) := by
  rcases DataW.trod_slice ht hf with ⟨h, -⟩ | ⟨a, len, cap, el, re, m, -, h, -, -, h1, h2, -⟩
  · simp only [List.cons.injEq, and_true] at h
    exact ⟨none, 0, 0, h, by omega, by omega, fun _ => rfl⟩
  · simp only [List.cons.injEq, and_true] at h
    exact ⟨some a, len, cap, h, by simp only [maxLen] at h2; omega, by simp only [maxLen] at h2; omega, fun h => by cases h⟩
theorem open_ev_core {b0 fuel : Nat} {sp : Nat → Bool} {held : Bool} {cs : List Value} {x : DataW H × List MemPlace} (hf : DataW.trod enc Tryz.prog W b0 sp held fuel 28 cs = some x) :
    ∃ (e : Shl.Ev) (at_ ep : Int) (ae : Option Addr) (ne ce : Nat) (at2 : Option Addr) (nt ct : Nat), cs = evW e at_ ep (.slice ae ne ce) (.slice at2 nt ct) ∧ EvOk e ∧ (ne ≤ 9223372036854775807 ∧ ce ≤ 9223372036854775807 ∧ (ae = none → ce = 0)) ∧ (nt ≤ 9223372036854775807 ∧ ct ≤ 9223372036854775807 ∧ (at2 = none → ct = 0)) ∧ e.subj.length ∈ x.1.weights Tryz.prog 28 ∧ e.text.length ∈ x.1.weights Tryz.prog 28 := by
  obtain ⟨xs, n, -, hx, hlen, hxl, hi⟩ := DataW.trod_struct Tryz.underlying28 hf
  have hcl : Tryz.prog.cellsOf 28 = 11 := by kernel_rfl
  have cS : Tryz.prog.cellsOf 9 = 1 := by kernel_rfl
  have cI : Tryz.prog.cellsOf 3 = 1 := by kernel_rfl
  have cC : Tryz.prog.cellsOf 25 = 7 := by kernel_rfl
  have cB : Tryz.prog.cellsOf 26 = 1 := by kernel_rfl
  have cU : Tryz.prog.cellsOf 22 = 1 := by kernel_rfl
  have cE : Tryz.prog.cellsOf 23 = 1 := by kernel_rfl
  rw [hcl] at hlen
  obtain ⟨c0, c1, c2, c3, c4, c5, c6, c7, c8, c9, c10, rfl⟩ : ∃ c0 c1 c2 c3 c4 c5 c6 c7 c8 c9 c10, cs = [c0, c1, c2, c3, c4, c5, c6, c7, c8, c9, c10] := by
    match cs, hlen with
    | [c0, c1, c2, c3, c4, c5, c6, c7, c8, c9, c10], _ => exact ⟨c0, c1, c2, c3, c4, c5, c6, c7, c8, c9, c10, rfl⟩
  obtain ⟨x0, x1, x2, x3, x4, rfl⟩ : ∃ c0 c1 c2 c3 c4, xs = [c0, c1, c2, c3, c4] := by
    have hl5 : xs.length = 5 := hxl
    match xs, hl5 with
    | [a, b, c, d, e], _ => exact ⟨a, b, c, d, e, rfl⟩
  have h0 := hi 0 _ rfl
  have h1 := hi 1 _ rfl
  have h2 := hi 2 _ rfl
  have h3 := hi 3 _ rfl
  have h4 := hi 4 _ rfl
  simp only [cS, cI, cC, cB, List.drop_zero, List.drop_succ_cons, List.take_succ_cons, List.take_zero, List.getElem?_cons_zero, List.getElem?_cons_succ] at h0 h1 h2 h3 h4
  obtain ⟨k, e0, -, -⟩ := DataW.trod_int Tryz.underlying3 h0
  obtain ⟨A, e1, -, w1⟩ := DataW.trod_int Tryz.underlying3 h1
  obtain ⟨B, e2, -, w2⟩ := DataW.trod_int Tryz.underlying3 h2
  obtain ⟨at2, nt, ct, e10, g10⟩ := slice_core Tryz.underlying26 h4
  obtain ⟨ys, m, -, hy, -, hyl, hj⟩ := DataW.trod_struct Tryz.underlying25 h3
  obtain ⟨y0, y1, y2, y3, y4, y5, y6, rfl⟩ : ∃ c0 c1 c2 c3 c4 c5 c6, ys = [c0, c1, c2, c3, c4, c5, c6] := by
    have hl7 : ys.length = 7 := hyl
    match ys, hl7 with
    | [a, b, c, d, e, f, g], _ => exact ⟨a, b, c, d, e, f, g, rfl⟩
  have j0 := hj 0 _ rfl
  have j1 := hj 1 _ rfl
  have j2 := hj 2 _ rfl
  have j3 := hj 3 _ rfl
  have j4 := hj 4 _ rfl
  have j5 := hj 5 _ rfl
  have j6 := hj 6 _ rfl
  simp only [List.drop_zero, List.drop_succ_cons, List.take_succ_cons, List.take_zero, List.getElem?_cons_zero, List.getElem?_cons_succ] at j0 j1 j2 j3 j4 j5 j6
  obtain ⟨ck, e3, -, -⟩ := DataW.trod_int Tryz.underlying3 j0
  obtain ⟨s, e4, f4, s4⟩ := DataW.trod_string Tryz.underlying9 j1
  obtain ⟨t, e5, f5, s5⟩ := DataW.trod_string Tryz.underlying9 j2
  obtain ⟨N, e6, -, w6⟩ := DataW.trod_int Tryz.underlying3 j3
  obtain ⟨at_, e7, -, -⟩ := DataW.trod_int Tryz.underlying3 j4
  obtain ⟨ep, e8, -, -⟩ := DataW.trod_int Tryz.underlying22 j5
  obtain ⟨ae, ne, ce, e9, g9⟩ := slice_core Tryz.underlying23 j6
  have e0 := (List.cons.inj e0).1
  have e1 := (List.cons.inj e1).1
  have e2 := (List.cons.inj e2).1
  have e3 := (List.cons.inj e3).1
  have e4 := (List.cons.inj e4).1
  have e5 := (List.cons.inj e5).1
  have e6 := (List.cons.inj e6).1
  have e7 := (List.cons.inj e7).1
  have e8 := (List.cons.inj e8).1
  refine ⟨⟨k, A, B, ck, s.data.toList, t.data.toList, N⟩, at_, ep, ae, ne, ce, at2, nt, ct, ?_, ⟨wf_i64E w1, wf_i64E w2, wf_i64E w6, ?_, ?_⟩, g9, g10, ?_, ?_⟩
  · rw [e0, e1, e2, e3, e4, e5, e6, e7, e8, e9, e10]; rfl
  · have : s.data.toList.length = s.size := rfl
    show s.data.toList.length ≤ _
    simp only [maxLen] at s4; omega
  · have : t.data.toList.length = t.size := rfl
    show t.data.toList.length ≤ _
    simp only [maxLen] at s5; omega
  · rw [hx]; simp [DataW.weights, Tryz.underlying28, DataW.weightsEach, hy, Tryz.underlying25, f4]
  · rw [hx]; simp [DataW.weights, Tryz.underlying28, DataW.weightsEach, hy, Tryz.underlying25, f5]
theorem open_event (hv : Value.okWide Tryz.prog W .any base 28 v) (h : DataW.Trod enc Tryz.prog W 0 (fun _ => true) true 28 v d p) :
    ∃ (e : Shl.Ev) (at_ ep : Int) (ae : Option Addr) (ne ce : Nat) (at2 : Option Addr) (nt ct : Nat), v = .agg (evW e at_ ep (.slice ae ne ce) (.slice at2 nt ct)).toArray ∧ EvOk e ∧ (ne ≤ 9223372036854775807 ∧ ce ≤ 9223372036854775807 ∧ (ae = none → ce = 0)) ∧ (nt ≤ 9223372036854775807 ∧ ct ≤ 9223372036854775807 ∧ (at2 = none → ct = 0)) ∧ e.subj.length ∈ d.weights Tryz.prog 28 ∧ e.text.length ∈ d.weights Tryz.prog 28 := by
  have hv' := hv
  simp only [Value.okWide, Tryz.underlying28] at hv'
  obtain ⟨cs, rfl, -⟩ := hv'
  obtain ⟨fuel, hf⟩ := h
  obtain ⟨e, at_, ep, ae, ne, ce, at2, nt, ct, hX, hok⟩ := open_ev_core hf
  refine ⟨e, at_, ep, ae, ne, ce, at2, nt, ct, ?_, hok⟩
  rw [← hX]; simp [Value.cells]
theorem ev_small {ts : List TypeId} {ds : List (DataW H)} (h : (DataW.weightsEach Tryz.prog ts ds).all (· ≤ reachBytes) = true) {j : Nat} {t : TypeId} {d : DataW H} (ht : ts[j]? = some t) (hd : ds[j]? = some d) {n : Nat} (hn : n ∈ d.weights Tryz.prog t) : n ≤ 140737488351232 := by
  have := List.all_eq_true.1 h _ (DataW.weights_mem_each ht hd _ hn)
  have h2 := of_decide_eq_true this
  simpa [reachBytes] using h2
end
end Go.Proofs.YtojoeaaodomfnaaGreatDoor
