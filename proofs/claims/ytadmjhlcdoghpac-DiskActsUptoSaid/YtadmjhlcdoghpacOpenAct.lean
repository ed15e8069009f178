/- A call of the disk's laws as an argument's reading gives it. -/
import Derived.Test.YtadmjhlcdoghpacOpenBss
namespace Go.Proofs.Ytadmjhlcdoghpac
set_option linter.unusedVariables false
set_option linter.unusedSimpArgs false
set_option linter.unnecessarySimpa false
open Go.RowKit Go.ChangeShapes Go.WideShapes Go.ChangeAt Go.Deep

def isInt (a : Int) : Prop := -9223372036854775808 ≤ a ∧ a ≤ 9223372036854775807
section
variable {H : Type} {enc : TypeId × Value → H} {W : World} {base : Nat} {v : Value} {d : DataW H} {p : List MemPlace}
theorem open_act (hv : Value.okWide Try.prog W .any base 25 v) (h : DataW.Trod enc Try.prog W 0 (fun _ => true) true 25 v d p) :
    ∃ (K F N : Int) (ov : Value) (l : List UInt8) (a b c y : DataW H), v = .agg #[.int .i64 K, .int .i64 F, .int .i64 N, ov] ∧ Sh W ov l ∧ isInt K ∧ isInt F ∧ isInt N ∧ d = .agg [a, b, c, y] ∧ l.length ≤ dlen y := by
  obtain ⟨v0, v1, v2, v3, y0, y1, y2, y3, n, rfl, rfl, rfl, h0, h1, h2, h3⟩ := Joins.open_agg4 Try.underlying25 (by kernel_rfl) (by kernel_rfl) hv h
  obtain ⟨K, e0, rfl, w0⟩ := DataW.trod_int Try.underlying3 h0
  obtain ⟨F, e1, rfl, w1⟩ := DataW.trod_int Try.underlying3 h1
  obtain ⟨N, e2, rfl, w2⟩ := DataW.trod_int Try.underlying3 h2
  obtain ⟨u, l, e3, hs, hl⟩ := open_bytes_core Try.underlying23 Try.underlying5 (by kernel_rfl) h3
  simp only [List.cons.injEq, and_true] at e0 e1 e2 e3
  subst e0 e1 e2 e3
  exact ⟨K, F, N, v3, l, _, _, _, y3.1, rfl, hs, wf_i64 w0, wf_i64 w1, wf_i64 w2, rfl, hl⟩
/-- The form's own reach, of a call's bytes. -/
theorem reach_act {ts : List TypeId} {ds : List (DataW H)} (h : (DataW.weightsEach Try.prog ts ds).all (· ≤ reachBytes) = true) {j : Nat} {a b c y : DataW H} (ht : ts[j]? = some 25) (hd : ds[j]? = some (.agg [a, b, c, y])) : dlen y ≤ 140737488351232 := by
  cases y with
  | slice es sp =>
    have hb : Try.prog.bytesOf 5 = 1 := by kernel_rfl
    have h1 : (es.length + sp.length) * Try.prog.bytesOf 5 ∈ (DataW.slice es sp).weights Try.prog 23 := by simp [DataW.weights, Try.underlying23]
    have h3 : (es.length + sp.length) * Try.prog.bytesOf 5 ∈ (DataW.agg [a, b, c, .slice es sp]).weights Try.prog 25 := by
      unfold DataW.weights
      rw [Try.underlying25]
      exact DataW.weights_mem_each (j := 3) rfl rfl _ h1
    have := List.all_eq_true.1 h _ (DataW.weights_mem_each ht hd _ h3)
    rw [hb] at this
    simpa [dlen, reachBytes] using this
  | _ => simp [dlen]
end
end Go.Proofs.Ytadmjhlcdoghpac
