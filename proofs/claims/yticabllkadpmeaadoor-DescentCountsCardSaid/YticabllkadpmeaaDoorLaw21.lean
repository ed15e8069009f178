/- The laws of chapter 21: few, lives. (printed by gen/law21.py) -/
import Derived.Test.YticabllkadpmeaaDoorRPut
import Derived.Test.YticabllkadpmeaaDoorPth2
namespace Go.Proofs.YticabllkadpmeaaDoor
set_option linter.unusedVariables false
set_option linter.unusedSimpArgs false
set_option linter.unnecessarySimpa false
open Go.RowKit
open Tre (It)
set_option maxRecDepth 100000
set_option maxHeartbeats 8000000

/-- An item, its name cut. -/
def cutN (x : It) : It := if 60 < x.name.size then { x with name := x.name.extract 0 60 } else x
def fewL (l : List It) : List It := (l.take 8).map cutN
theorem cutN_size (x : It) : (cutN x).name.size ≤ 60 := by
  unfold cutN
  split
  · simp only [ByteArray.size_extract]; omega
  · omega
theorem cutN_ok {x : It} (h : ItOk x) : ItS (cutN x) := by
  have h1 := cutN_size x
  refine ⟨⟨?_, ?_, ?_⟩, by omega⟩
  · unfold cutN; split
    · exact h.1
    · exact h.1
  · unfold cutN; split
    · exact h.2.1
    · exact h.2.1
  · unfold maxLen; omega
theorem fewL_its {l : List It} (h : Oks l) : ∀ x ∈ fewL l, ItS x := fun x hx => by
  simp only [fewL, List.mem_map] at hx
  obtain ⟨y, hy, rfl⟩ := hx
  exact cutN_ok (h y (List.mem_of_mem_take hy))
theorem fewL_length (l : List It) : (fewL l).length ≤ 8 := by simp [fewL]; omega
end Go.Proofs.YticabllkadpmeaaDoor
namespace Go.Proofs.YticabllkadpmeaaDoor
set_option linter.unusedVariables false
set_option linter.unusedSimpArgs false
set_option linter.unnecessarySimpa false
open Go.RowKit
open Tre (It)
set_option maxRecDepth 100000
set_option maxHeartbeats 8000000

theorem Sum_good (w : World) (B b : Nat) (T : TS) (A : List It) (v : Value) (P : List Int) (h : Tr w B b T) (hA : IsT T A) (hs : Ns w v P) (hg : goodP P = true) :
    Calls Tryd.prog 39 #[.pointer (some ⟨b, 0, none⟩), v] w fun e w' => e = .returned (.tuple #[sumV (Tre.sumAt A P), .bool true]) ∧ Below w.heap.size w w' := by
  rcases good_cases hg with rfl | ⟨k, hk, rfl⟩ | ⟨k, m, hk, hm, rfl⟩
  · have := Sum_0 w B b T v h hs
    rw [hA.r] at this
    exact this
  · have := Sum_1 w B b T v k hk h hs
    rw [hA.a k hk] at this
    exact this
  · have := Sum_2 w B b T v k m hk hm h hs
    rw [hA.s (4 * k + m) (by omega)] at this
    exact this
theorem sumAt_length (A : List It) (P : List Int) : (Tre.sumAt A P).length = 32 := by
  unfold Tre.sumAt
  split
  · exact Tre.rootAt_length _
  · exact Tre.nodeAt_length _ _
  · exact Tre.leafAt_length _ _
  · exact nought_len
/-- A fresh box for a sum, and the sum put into it. -/
theorem boxS (w : World) (x : List UInt8) (hx : x.length = 32) : Row (w.alloc (.cells #[.int .u8 0, .int .u8 0, .int .u8 0, .int .u8 0, .int .u8 0, .int .u8 0, .int .u8 0, .int .u8 0, .int .u8 0, .int .u8 0, .int .u8 0, .int .u8 0, .int .u8 0, .int .u8 0, .int .u8 0, .int .u8 0, .int .u8 0, .int .u8 0, .int .u8 0, .int .u8 0, .int .u8 0, .int .u8 0, .int .u8 0, .int .u8 0, .int .u8 0, .int .u8 0, .int .u8 0, .int .u8 0, .int .u8 0, .int .u8 0, .int .u8 0, .int .u8 0] 33)) w.heap.size 33 (bytes Tre0) ∧
    ∃ W, (w.alloc (.cells #[.int .u8 0, .int .u8 0, .int .u8 0, .int .u8 0, .int .u8 0, .int .u8 0, .int .u8 0, .int .u8 0, .int .u8 0, .int .u8 0, .int .u8 0, .int .u8 0, .int .u8 0, .int .u8 0, .int .u8 0, .int .u8 0, .int .u8 0, .int .u8 0, .int .u8 0, .int .u8 0, .int .u8 0, .int .u8 0, .int .u8 0, .int .u8 0, .int .u8 0, .int .u8 0, .int .u8 0, .int .u8 0, .int .u8 0, .int .u8 0, .int .u8 0, .int .u8 0] 33)).setRow w.heap.size (bytes x).toArray = W ∧ Row W w.heap.size 33 (bytes x) ∧ Below w.heap.size w W :=
  ⟨Row.new w 33 (bytes Tre0), _, rfl, setRow_heap _ _ _ _ _ _ (Row.new w 33 (bytes Tre0)), below_setRow (balloc (Below.refl _ _) _) (Nat.le_refl _) _⟩
theorem exec_eql_sum {ρ : Operand → Value} {o : Oper} (x y : Operand) (ho : o.op = .binOp .eql 33 x y 33) (A B : List UInt8) (hx : ρ x = sumV A) (hy : ρ y = sumV B) (hA : A.length = 32) (hB : B.length = 32) (w : World) :
    (execOp ρ o).run Tryd.prog w = .ok (.value (.bool (A == B))) w := by
  have h1 := run_eqGuard_agg w .eql 33 x y (bytes A).toArray (bytes B).toArray eqG_sum
  have h2 := run_eql_struct (P := Tryd.prog) w 33 (bytes A).toArray (bytes B).toArray
  have h3 := eq_sum A B hA hB w
  unfold sumV at h3 hx hy
  rw [h3] at h2
  unfold execOp
  rw [ho]
  simp only [hx, hy, Sem.run_bind, h1, h2, Result.andThen_ok, Sem.run_pure]
/-- The same three under a guard. -/
theorem load_sum_g {w : World} {ops : Array Oper} {rest : List Oper} {o : Oper} {a : Act} {Q : Exit → Act → World → Prop} (hw : Region.wanted o (yielded ops a.tmps) = true) (x : Operand) (ho : o.op = .load 33 x)
    (b off : Nat) (hx : a.eval x = .pointer (some ⟨b, off, none⟩)) (l : List UInt8) (hl : l.length = 32) (hr : w.rangeAt b off (bytes l))
    (h : wpList Tryd.prog ops Q rest (a.put o.dst (sumV l)) w) : wpList Tryd.prog ops Q (o :: rest) a w :=
  BigFrame.wpList_want hw fun K hK => wp_load_mid 33 x ho b off hx (bytes l) _ hr Tryd.underlying33 rfl (by rw [size_sum]; simp [hl]) (hK _ _ h)
theorem neq_sum_g {w : World} {ops : Array Oper} {rest : List Oper} {o : Oper} {a : Act} {Q : Exit → Act → World → Prop} (hw : Region.wanted o (yielded ops a.tmps) = true) (x y : Operand) (ho : o.op = .binOp .neq 33 x y 33) (A B : List UInt8) (hx : a.eval x = sumV A) (hy : a.eval y = sumV B) (hA : A.length = 32) (hB : B.length = 32) (b : Bool) (hb : (A == B) = b)
    (h : wpList Tryd.prog ops Q rest (a.put o.dst (.bool (!b))) w) : wpList Tryd.prog ops Q (o :: rest) a w :=
  BigFrame.wpList_want hw fun K hK => by
    unfold Oper.wp
    rw [exec_neq_sum x y ho A B hx hy hA hB w, hb]
    exact hK _ _ h
theorem eql_sum_g {w : World} {ops : Array Oper} {rest : List Oper} {o : Oper} {a : Act} {Q : Exit → Act → World → Prop} (hw : Region.wanted o (yielded ops a.tmps) = true) (x y : Operand) (ho : o.op = .binOp .eql 33 x y 33) (A B : List UInt8) (hx : a.eval x = sumV A) (hy : a.eval y = sumV B) (hA : A.length = 32) (hB : B.length = 32) (b : Bool) (hb : (A == B) = b)
    (h : wpList Tryd.prog ops Q rest (a.put o.dst (.bool b)) w) : wpList Tryd.prog ops Q (o :: rest) a w :=
  BigFrame.wpList_want hw fun K hK => by
    unfold Oper.wp
    rw [exec_eql_sum x y ho A B hx hy hA hB w, hb]
    exact hK _ _ h
/-! ### lives -/
def sIt : It := ⟨⟨#[115]⟩, 1, Tre.nought⟩
theorem sIt_ok : ItS sIt := ⟨⟨by decide, by decide, by decide⟩, by decide⟩
theorem builtS : Tryd.prog.built 35 [(0, .string ⟨#[115]⟩), (1, .int .u64 1)] = some (itC sIt).toArray := by kernel_rfl
theorem build_s {w : World} {ops : Array Oper} {rest : List Oper} {o : Oper} {a : Act} {Q : Exit → Act → World → Prop} (z : It) (hz : z = sIt) (hgd : o.guard = none) (ho : o.op = .build 35 #[(0, .const (.string ⟨#[115]⟩)), (1, .const (.int .u64 1))])
    (h : wpList Tryd.prog ops Q rest (a.put o.dst (.agg (itC z).toArray)) w) : wpList Tryd.prog ops Q (o :: rest) a w :=
  wpList_plain hgd fun K hK => by
    unfold Oper.wp execOp
    subst hz
    have e : (Array.map (fun (x : Nat × Operand) => (x.1, a.eval x.2)) #[(0, .const (.string ⟨#[115]⟩)), (1, .const (.int .u64 1))]).toList = [(0, .string ⟨#[115]⟩), (1, .int .u64 1)] := by simp; exact ⟨rfl, rfl⟩
    have := run_build (P := Tryd.prog) w 35 (Array.map (fun (x : Nat × Operand) => (x.1, a.eval x.2)) #[(0, .const (.string ⟨#[115]⟩)), (1, .const (.int .u64 1))]) _ (by rw [e]; exact builtS)
    simp only [ho, Sem.run_bind, this, Result.andThen_ok, Sem.run_pure]
    exact hK _ _ h
theorem root_nil : (Tre.sumAt [] [] == Tre.nought) = true := by decide +kernel
theorem root_s : (Tre.sumAt [sIt] [] == Tre.nought) = false := by decide +kernel
theorem PL.len {w : World} {B : Nat} {v : Value} {Ps : List (List Int)} (h : PL w B v Ps) : ∃ a c, v = .slice a Ps.length c := by
  obtain ⟨vs, h1, h2, -⟩ := h
  rcases h1.2 with ⟨hv, h0⟩ | ⟨g, cap, cur, hv, -⟩
  · rw [h0] at h2; rw [← h2]; exact ⟨_, _, hv⟩
  · rw [h2] at hv; exact ⟨_, _, hv⟩
end Go.Proofs.YticabllkadpmeaaDoor
namespace Go.Proofs.YticabllkadpmeaaDoor
set_option linter.unusedVariables false
set_option linter.unusedSimpArgs false
set_option linter.unnecessarySimpa false
open Go.RowKit
open Tre (It)
set_option maxRecDepth 100000
set_option maxHeartbeats 8000000

theorem all_its {l : List It} (h : ∀ x ∈ l, ItS x) : ∀ x ∈ Tre.all l, ItS x := by
  have : ∀ (l a : List It), (∀ x ∈ l, ItS x) → (∀ x ∈ a, ItS x) → ∀ x ∈ l.foldl Tre.put a, ItS x := by
    intro l
    induction l with
    | nil => intro a _ ha; exact ha
    | cons x r ih => intro a h ha; exact ih _ (fun y hy => h y (List.mem_cons_of_mem _ hy)) (put_its ha (h x (List.mem_cons_self ..)))
  exact this l [] h (fun y hy => by cases hy)
theorem all_self {A : List It} (h : Tre.Rise A) : Tre.all A = A := Tre.any_order A A h (fun _ h => h) (fun _ h => h)
theorem psTo_good : ∀ P ∈ psTo 3, goodP P = true := by decide
theorem PL.at {w : World} {B : Nat} {a : Option Addr} {n c : Nat} {Ps : List (List Int)} (h : PL w B (.slice a n c) Ps) (j : Nat) (hj : j < Ps.length) : ∃ b o u, a = some ⟨b, o, none⟩ ∧ w.cell? ⟨b, o + j, none⟩ = some u ∧ OwnN w 0 u (Ps.getD j []) := by
  obtain ⟨vs, h1, h2, h3⟩ := h
  have hs : Shows w 1 (.slice a n c) vs.length vs := Shows.of_own h1
  have hn : n = vs.length := by obtain ⟨_, _, _, e, _⟩ := hs; simp only [Value.slice.injEq] at e; exact e.2.1
  subst hn
  obtain ⟨b, o, rfl, hc⟩ := hs.cells1 (by omega)
  exact ⟨b, o, vs.getD j undef, rfl, hc j _ (by simp [List.getD, List.getElem?_eq_getElem (show j < vs.length by omega)]), h3 j (by omega)⟩
end Go.Proofs.YticabllkadpmeaaDoor
