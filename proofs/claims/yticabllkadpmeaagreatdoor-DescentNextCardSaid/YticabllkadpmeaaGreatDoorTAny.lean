/- The laws of chapter 21: lives. (printed by gen/liv.py) -/
import Derived.Test.YticabllkadpmeaaGreatDoorLaw21
namespace Go.Proofs.YticabllkadpmeaaGreatDoor
set_option linter.unusedVariables false
set_option linter.unusedSimpArgs false
set_option linter.unnecessarySimpa false
open Go.RowKit
open Tre (It)
set_option maxRecDepth 100000
set_option maxHeartbeats 8000000

theorem Sum_good (w : World) (B b : Nat) (T : TS) (A : List It) (v : Value) (P : List Int) (h : Tr w B b T) (hA : IsT T A) (hs : Ns w v P) (hg : goodP P = true) :
    Calls Tryz.prog 36 #[.pointer (some ⟨b, 0, none⟩), v] w fun e w' => e = .returned (.tuple #[sumV (Tre.sumAt A P), .bool true]) ∧ Below w.heap.size w w' := by
  rcases good_cases hg with rfl | ⟨k, hk, rfl⟩ | ⟨k, m, hk, hm, rfl⟩
  · have := Sum_0 w B b T v h hs
    rw [hA.r] at this
    exact this
  · have := Sum_1 w B b T v k hk h hs
    rw [hA.a k hk] at this
    exact this
  · have := Sum_2 w B b T v k m hk hm h hs
    rw [hA.s (4 * k + m) (by omega)] at this
    exact this
theorem sumAt_length (A : List It) (P : List Int) : (Tre.sumAt A P).length = 32 := by
  unfold Tre.sumAt
  split
  · exact Tre.rootAt_length _
  · exact Tre.nodeAt_length _ _
  · exact Tre.leafAt_length _ _
  · exact nought_len
/-- A fresh box for a sum, and the sum put into it. -/
theorem boxS (w : World) (x : List UInt8) (hx : x.length = 32) : Row (w.alloc (.cells #[.int .u8 0, .int .u8 0, .int .u8 0, .int .u8 0, .int .u8 0, .int .u8 0, .int .u8 0, .int .u8 0, .int .u8 0, .int .u8 0, .int .u8 0, .int .u8 0, .int .u8 0, .int .u8 0, .int .u8 0, .int .u8 0, .int .u8 0, .int .u8 0, .int .u8 0, .int .u8 0, .int .u8 0, .int .u8 0, .int .u8 0, .int .u8 0, .int .u8 0, .int .u8 0, .int .u8 0, .int .u8 0, .int .u8 0, .int .u8 0, .int .u8 0, .int .u8 0] 36)) w.heap.size 36 (bytes Tre0) ∧
    ∃ W, (w.alloc (.cells #[.int .u8 0, .int .u8 0, .int .u8 0, .int .u8 0, .int .u8 0, .int .u8 0, .int .u8 0, .int .u8 0, .int .u8 0, .int .u8 0, .int .u8 0, .int .u8 0, .int .u8 0, .int .u8 0, .int .u8 0, .int .u8 0, .int .u8 0, .int .u8 0, .int .u8 0, .int .u8 0, .int .u8 0, .int .u8 0, .int .u8 0, .int .u8 0, .int .u8 0, .int .u8 0, .int .u8 0, .int .u8 0, .int .u8 0, .int .u8 0, .int .u8 0, .int .u8 0] 36)).setRow w.heap.size (bytes x).toArray = W ∧ Row W w.heap.size 36 (bytes x) ∧ Below w.heap.size w W :=
  ⟨Row.new w 36 (bytes Tre0), _, rfl, setRow_heap _ _ _ _ _ _ (Row.new w 36 (bytes Tre0)), below_setRow (balloc (Below.refl _ _) _) (Nat.le_refl _) _⟩
theorem exec_eql_sum {ρ : Operand → Value} {o : Oper} (x y : Operand) (ho : o.op = .binOp .eql 36 x y 36) (A B : List UInt8) (hx : ρ x = sumV A) (hy : ρ y = sumV B) (hA : A.length = 32) (hB : B.length = 32) (w : World) :
    (execOp ρ o).run Tryz.prog w = .ok (.value (.bool (A == B))) w := by
  have h1 := run_eqGuard_agg w .eql 36 x y (bytes A).toArray (bytes B).toArray eqG_sum
  have h2 := run_eql_struct (P := Tryz.prog) w 36 (bytes A).toArray (bytes B).toArray
  have h3 := eq_sum A B hA hB w
  unfold sumV at h3 hx hy
  rw [h3] at h2
  unfold execOp
  rw [ho]
  simp only [hx, hy, Sem.run_bind, h1, h2, Result.andThen_ok, Sem.run_pure]
/-- The same three under a guard. -/
theorem load_sum_g {w : World} {ops : Array Oper} {rest : List Oper} {o : Oper} {a : Act} {Q : Exit → Act → World → Prop} (hw : Region.wanted o (yielded ops a.tmps) = true) (x : Operand) (ho : o.op = .load 36 x)
    (b off : Nat) (hx : a.eval x = .pointer (some ⟨b, off, none⟩)) (l : List UInt8) (hl : l.length = 32) (hr : w.rangeAt b off (bytes l))
    (h : wpList Tryz.prog ops Q rest (a.put o.dst (sumV l)) w) : wpList Tryz.prog ops Q (o :: rest) a w :=
  BigFrame.wpList_want hw fun K hK => wp_load_mid 36 x ho b off hx (bytes l) _ hr Tryz.underlying36 rfl (by rw [size_sum]; simp [hl]) (hK _ _ h)
theorem neq_sum_g {w : World} {ops : Array Oper} {rest : List Oper} {o : Oper} {a : Act} {Q : Exit → Act → World → Prop} (hw : Region.wanted o (yielded ops a.tmps) = true) (x y : Operand) (ho : o.op = .binOp .neq 36 x y 36) (A B : List UInt8) (hx : a.eval x = sumV A) (hy : a.eval y = sumV B) (hA : A.length = 32) (hB : B.length = 32) (b : Bool) (hb : (A == B) = b)
    (h : wpList Tryz.prog ops Q rest (a.put o.dst (.bool (!b))) w) : wpList Tryz.prog ops Q (o :: rest) a w :=
  BigFrame.wpList_want hw fun K hK => by
    unfold Oper.wp
    rw [exec_neq_sum x y ho A B hx hy hA hB w, hb]
    exact hK _ _ h
theorem eql_sum_g {w : World} {ops : Array Oper} {rest : List Oper} {o : Oper} {a : Act} {Q : Exit → Act → World → Prop} (hw : Region.wanted o (yielded ops a.tmps) = true) (x y : Operand) (ho : o.op = .binOp .eql 36 x y 36) (A B : List UInt8) (hx : a.eval x = sumV A) (hy : a.eval y = sumV B) (hA : A.length = 32) (hB : B.length = 32) (b : Bool) (hb : (A == B) = b)
    (h : wpList Tryz.prog ops Q rest (a.put o.dst (.bool b)) w) : wpList Tryz.prog ops Q (o :: rest) a w :=
  BigFrame.wpList_want hw fun K hK => by
    unfold Oper.wp
    rw [exec_eql_sum x y ho A B hx hy hA hB w, hb]
    exact hK _ _ h
/-! ### lives -/
def sIt : It := ⟨⟨#[115]⟩, 1, Tre.nought⟩
theorem sIt_ok : ItS sIt := ⟨⟨by decide, by decide, by decide⟩, by decide⟩
theorem builtS : Tryz.prog.built 38 [(0, .string ⟨#[115]⟩), (1, .int .u64 1)] = some (itC sIt).toArray := by kernel_rfl
theorem build_s {w : World} {ops : Array Oper} {rest : List Oper} {o : Oper} {a : Act} {Q : Exit → Act → World → Prop} (z : It) (hz : z = sIt) (hgd : o.guard = none) (ho : o.op = .build 38 #[(0, .const (.string ⟨#[115]⟩)), (1, .const (.int .u64 1))])
    (h : wpList Tryz.prog ops Q rest (a.put o.dst (.agg (itC z).toArray)) w) : wpList Tryz.prog ops Q (o :: rest) a w :=
  wpList_plain hgd fun K hK => by
    unfold Oper.wp execOp
    subst hz
    have e : (Array.map (fun (x : Nat × Operand) => (x.1, a.eval x.2)) #[(0, .const (.string ⟨#[115]⟩)), (1, .const (.int .u64 1))]).toList = [(0, .string ⟨#[115]⟩), (1, .int .u64 1)] := by simp; exact ⟨rfl, rfl⟩
    have := run_build (P := Tryz.prog) w 38 (Array.map (fun (x : Nat × Operand) => (x.1, a.eval x.2)) #[(0, .const (.string ⟨#[115]⟩)), (1, .const (.int .u64 1))]) _ (by rw [e]; exact builtS)
    simp only [ho, Sem.run_bind, this, Result.andThen_ok, Sem.run_pure]
    exact hK _ _ h
theorem root_nil : (Tre.sumAt [] [] == Tre.nought) = true := by decide +kernel
theorem root_s : (Tre.sumAt [sIt] [] == Tre.nought) = false := by decide +kernel
theorem PL.len {w : World} {B : Nat} {v : Value} {Ps : List (List Int)} (h : PL w B v Ps) : ∃ a c, v = .slice a Ps.length c := by
  obtain ⟨vs, h1, h2, -⟩ := h
  rcases h1.2 with ⟨hv, h0⟩ | ⟨g, cap, cur, hv, -⟩
  · rw [h0] at h2; rw [← h2]; exact ⟨_, _, hv⟩
  · rw [h2] at hv; exact ⟨_, _, hv⟩
end Go.Proofs.YticabllkadpmeaaGreatDoor
namespace Go.Proofs.YticabllkadpmeaaGreatDoor
set_option linter.unusedVariables false
set_option linter.unusedSimpArgs false
set_option linter.unnecessarySimpa false
open Go.RowKit
open Tre (It)
set_option maxRecDepth 100000
set_option maxHeartbeats 8000000

/-- The four sums below a path. -/
def belowAt (L : List It) : List Int → List (List UInt8)
  | [] => [Tre.nodeAt L 0, Tre.nodeAt L 1, Tre.nodeAt L 2, Tre.nodeAt L 3]
  | [k] => [Tre.leafAt L (4 * k.toNat), Tre.leafAt L (4 * k.toNat + 1), Tre.leafAt L (4 * k.toNat + 2), Tre.leafAt L (4 * k.toNat + 3)]
  | _ => []
theorem list4 {α : Type} {L : List α} {d : α} (h : L.length = 4) : L = [L.getD 0 d, L.getD 1 d, L.getD 2 d, L.getD 3 d] := by
  match L, h with
  | [a, b, c, e], _ => rfl
theorem belowAt_32 (A : List It) (P : List Int) : L32 (belowAt A P) := by
  intro x hx
  unfold belowAt at hx
  split at hx
  · simp only [List.mem_cons, List.not_mem_nil, or_false] at hx
    rcases hx with rfl | rfl | rfl | rfl <;> exact Tre.nodeAt_length _ _
  · simp only [List.mem_cons, List.not_mem_nil, or_false] at hx
    rcases hx with rfl | rfl | rfl | rfl <;> exact Tre.leafAt_length _ _
  · cases hx
theorem four_getD (T : TS) (k j : Nat) (hj : j < 4) : (T.four k).getD j [] = T.S.getD (4 * k + j) [] := by
  unfold TS.four
  simp only [List.getD, List.getElem?_take, List.getElem?_drop, if_pos hj]
theorem Below_good (w : World) (B b : Nat) (T : TS) (A : List It) (v : Value) (P : List Int) (h : Tr w B b T) (hA : IsT T A) (hs : Ns w v P) (hg : goodP P = true) :
    Calls Tryz.prog 22 #[.pointer (some ⟨b, 0, none⟩), v] w (SmsQ w (belowAt A P) (decide (P.length < 2))) := by
  rcases good_cases hg with rfl | ⟨k, hk, rfl⟩ | ⟨k, m, hk, hm, rfl⟩
  · have := Below_0 w B b T v h hs
    have e : T.A = belowAt A [] := by
      rw [list4 (d := []) h.ok.nA, hA.a 0 (by omega), hA.a 1 (by omega), hA.a 2 (by omega), hA.a 3 (by omega)]; rfl
    rw [e] at this
    exact this
  · have := Below_1 w B b T v k hk h hs
    have e : T.four k = belowAt A [(k : Int)] := by
      rw [list4 (d := []) (TS.four_length h.ok k hk), four_getD _ _ _ (by omega), four_getD _ _ _ (by omega), four_getD _ _ _ (by omega), four_getD _ _ _ (by omega), hA.s _ (by omega), hA.s _ (by omega), hA.s _ (by omega), hA.s _ (by omega)]
      simp [belowAt]
    rw [e] at this
    exact this
  · exact Below_2 w B b T v k m hk hm h hs
theorem own_cel {A B : World} {base e size n : Nat} {v : Value} {xs : List Value} (h : A.ownsRow base e size v n xs) (hk : Cel A B) : B.ownsRow base e size v n xs := by
  refine ⟨h.1, ?_⟩
  rcases h.2 with hv | ⟨g, cap, cur, hv, h1, h2, h3⟩
  · exact .inl hv
  · exact .inr ⟨g, cap, cur, hv, h1, hk.same g _ h2 rfl, h3⟩
theorem own_mono {w : World} {base base' e size n : Nat} {v : Value} {xs : List Value} (h : w.ownsRow base e size v n xs) (hb : base' ≤ base) : w.ownsRow base' e size v n xs := by
  refine ⟨h.1, ?_⟩
  rcases h.2 with h | ⟨g, cap, cur, r1, r2, r3⟩
  · exact .inl h
  · exact .inr ⟨g, cap, cur, r1, Nat.le_trans hb r2, r3⟩
end Go.Proofs.YticabllkadpmeaaGreatDoor
namespace Go.Proofs.YticabllkadpmeaaGreatDoor
set_option linter.unusedVariables false
set_option linter.unusedSimpArgs false
set_option linter.unnecessarySimpa false
open Go.RowKit
open Tre (It)
set_option maxRecDepth 100000
set_option maxHeartbeats 8000000

theorem all_its {l : List It} (h : ∀ x ∈ l, ItS x) : ∀ x ∈ Tre.all l, ItS x := by
  have : ∀ (l a : List It), (∀ x ∈ l, ItS x) → (∀ x ∈ a, ItS x) → ∀ x ∈ l.foldl Tre.put a, ItS x := by
    intro l
    induction l with
    | nil => intro a _ ha; exact ha
    | cons x r ih => intro a h ha; exact ih _ (fun y hy => h y (List.mem_cons_of_mem _ hy)) (put_its ha (h x (List.mem_cons_self ..)))
  exact this l [] h (fun y hy => by cases hy)
theorem all_self {A : List It} (h : Tre.Rise A) : Tre.all A = A := Tre.any_order A A h (fun _ h => h) (fun _ h => h)
theorem psTo_good : ∀ P ∈ psTo 3, goodP P = true := by decide
theorem PL.at {w : World} {B : Nat} {a : Option Addr} {n c : Nat} {Ps : List (List Int)} (h : PL w B (.slice a n c) Ps) (j : Nat) (hj : j < Ps.length) : ∃ b o u, a = some ⟨b, o, none⟩ ∧ w.cell? ⟨b, o + j, none⟩ = some u ∧ OwnN w 0 u (Ps.getD j []) := by
  obtain ⟨vs, h1, h2, h3⟩ := h
  have hs : Shows w 1 (.slice a n c) vs.length vs := Shows.of_own h1
  have hn : n = vs.length := by obtain ⟨_, _, _, e, _⟩ := hs; simp only [Value.slice.injEq] at e; exact e.2.1
  subst hn
  obtain ⟨b, o, rfl, hc⟩ := hs.cells1 (by omega)
  exact ⟨b, o, vs.getD j undef, rfl, hc j _ (by simp [List.getD, List.getElem?_eq_getElem (show j < vs.length by omega)]), h3 j (by omega)⟩
end Go.Proofs.YticabllkadpmeaaGreatDoor
