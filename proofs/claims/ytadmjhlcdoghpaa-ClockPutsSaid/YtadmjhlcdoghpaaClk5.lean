/- Clocks: the living call; the reference's Order; the laws. -/
import Derived.Test.YtadmjhlcdoghpaaClk4
import Derived.Test.YtadmjhlcdoghpaaConv
namespace Go.Proofs.Ytadmjhlcdoghpaa
set_option linter.unusedVariables false
set_option linter.unusedSimpArgs false
set_option linter.unnecessarySimpa false
open Go.RowKit
set_option maxRecDepth 100000
set_option maxHeartbeats 2000000

theorem build_clock_of {w : World} {ops : Array Oper} {rest : List Oper} {o : Oper} {a : Act} {Q : Exit → Act → World → Prop} (hgd : o.guard = none) (parts : Array (Nat × Operand)) (ho : o.op = .build 24 parts)
    (A : List Int) (hb : Try.prog.built 24 (parts.map fun (i, x) => (i, a.eval x)).toList = some (nums .u64 A).toArray)
    (h : wpList Try.prog ops Q rest (a.put o.dst (clockV A)) w) : wpList Try.prog ops Q (o :: rest) a w := by
  refine wpList_build hgd 24 parts ho (by rw [hb]; rfl) ?_
  rw [hb]
  exact h

theorem lives13 (w : World) : Calls Try.prog 11 #[] w fun e w' => e = .returned (.bool true) ∧ Below w.heap.size w w' := by
  have e1 : putC [2, 0, 1, 0, 0, 0, 0, 0] = [5, 2, 1] := by decide +kernel
  have e2 : ord [1, 0, 0, 0, 0, 0, 0, 0] [2, 0, 0, 0, 0, 0, 0, 0] = 1 := by decide +kernel
  have e0 : ∀ j, j < 8 → 0 ≤ ([2, 0, 1, 0, 0, 0, 0, 0] : List Int).getD j 0 ∧ ([2, 0, 1, 0, 0, 0, 0, 0] : List Int).getD j 0 < 4611686018427387904 := by decide +kernel
  have E0 := Lib.hid e0
  clear e0
  go_enter Try.func11, Try.ntmps11
  go_wp2_with (first
    | (with_reducible refine build_clock_of rfl _ rfl [2, 0, 1, 0, 0, 0, 0, 0] (by kernel_rfl) ?_)
    | (go_at_call 17; go_loud (refine (putC_any _ [] [2, 0, 1, 0, 0, 0, 0, 0] rfl E0.out _ (Sh.nil _) (by simp)).mono ?_; rintro e w1 ⟨v1, rfl, ho1, hb1⟩; have hcv := conv_run ho1.sh))
    | (go_at_call 10; refine (order_any [1, 0, 0, 0, 0, 0, 0, 0] [2, 0, 0, 0, 0, 0, 0, 0] rfl rfl _).mono ?_; rintro e w2 ⟨rfl, hb2⟩))
  go_ret
  exact ⟨rfl, hb1.trans (hb2.mono hb1.size)⟩
theorem eqG_clock : Try.prog.eqGuardType Try.prog.depth 24 = false := by kernel_rfl
theorem exec_eql {ρ : Operand → Value} {o : Oper} (x y : Operand) (ho : o.op = .binOp .eql 24 x y 24) (A B : List Int) (hx : ρ x = clockV A) (hy : ρ y = clockV B) (hA : A.length = 8) (hB : B.length = 8) (w : World) :
    (execOp ρ o).run Try.prog w = .ok (.value (.bool (A == B))) w := by
  have h1 := run_eqGuard_agg w .eql 24 x y (nums .u64 A).toArray (nums .u64 B).toArray eqG_clock
  have h2 := run_eql_struct (P := Try.prog) w 24 (nums .u64 A).toArray (nums .u64 B).toArray
  have h3 := eq_clock A B hA hB w
  unfold clockV at h3 hx hy
  rw [h3] at h2
  unfold execOp
  rw [ho]
  simp only [hx, hy, Sem.run_bind, h1, h2, Result.andThen_ok, Sem.run_pure]
theorem eql_clock {w : World} {ops : Array Oper} {rest : List Oper} {o : Oper} {a : Act} {Q : Exit → Act → World → Prop} (hgd : o.guard = none) (x y : Operand) (ho : o.op = .binOp .eql 24 x y 24) (A B : List Int) (hx : a.eval x = clockV A) (hy : a.eval y = clockV B) (hA : A.length = 8) (hB : B.length = 8) (b : Bool) (hb : (A == B) = b)
    (h : wpList Try.prog ops Q rest (a.put o.dst (.bool b)) w) : wpList Try.prog ops Q (o :: rest) a w :=
  wpList_plain hgd fun K hK => by
    unfold Oper.wp
    rw [exec_eql x y ho A B hx hy hA hB w, hb]
    exact hK _ _ h
theorem less_self (A : List Int) (n : Nat) : less A A n = false := by
  cases h : less A A n with
  | false => rfl
  | true => unfold less at h; rw [List.any_eq_true] at h; obtain ⟨i, _, hi⟩ := h; simp at hi
theorem eq_of_less {A B : List Int} (hA : A.length = 8) (hB : B.length = 8) (h1 : less A B 8 = false) (h2 : less B A 8 = false) : A = B := by
  refine List.ext_getElem (by rw [hA, hB]) fun j h3 h4 => ?_
  have e1 := less_false h1 (j := j) (by omega)
  have e2 := less_false h2 (j := j) (by omega)
  simp only [List.getD, List.getElem?_eq_getElem h3, List.getElem?_eq_getElem h4, Option.getD_some] at e1 e2
  omega
theorem refOrder_any (A B : List Int) (hA : A.length = 8) (hB : B.length = 8) (w : World) :
    Calls Try.prog 14 #[clockV A, clockV B] w fun e w' => e = .returned (.int .i64 (ord A B)) ∧ Below w.heap.size w w' := by
  have HA := Lib.hid hA
  have HB := Lib.hid hB
  have hab : (A == B) = (!less A B 8 && !less B A 8) := by
    by_cases h : A = B
    · subst h; rw [less_self]; simp
    · rw [beq_eq_false_iff_ne.2 h]
      cases h1 : less A B 8 <;> cases h2 : less B A 8 <;> simp
      exact h (eq_of_less hA hB h1 h2)
  have HAB := Lib.hid hab
  have HO := Lib.hid (show ord A B = ordB (less A B 8) (less B A 8) from rfl)
  clear hA hB hab
  unfold clockV
  go_enter Try.func14, Try.ntmps14
  go_upto_region 1 with fail
  obtain ⟨W, hW, R0, R1, Hb, -⟩ := pre2 A B w
  rw [hW]
  clear hW
  simp only [clockV_eq]
  generalize hp : less A B 8 = p at *
  generalize hq : less B A 8 = q at *
  have HP := Lib.hid hp
  have HQ := Lib.hid hq
  clear hp hq
  cases p <;> cases q
  · have hab : (A == B) = true := HAB.out
    go_wp2_with (first
      | (with_reducible refine load_clock rfl (.tmp 2) rfl _ rfl A HA.out R0.out ?_)
      | (with_reducible refine load_clock rfl (.tmp 3) rfl _ rfl B HB.out R1.out ?_)
      | (with_reducible refine eql_clock rfl (.tmp 5) (.tmp 6) rfl A B rfl rfl HA.out HB.out _ hab ?_))
    go_ret
    exact ⟨by rw [HO.out]; rfl, Hb.out⟩
  · have hab : (A == B) = false := HAB.out
    go_wp2_with (first
      | (with_reducible refine load_clock rfl (.tmp 2) rfl _ rfl A HA.out (by first | exact R0.out | exact Arr.keep R0.out hb1) ?_)
      | (with_reducible refine load_clock rfl (.tmp 3) rfl _ rfl B HB.out (by first | exact R1.out | exact Arr.keep R1.out hb1) ?_)
      | (with_reducible refine eql_clock rfl (.tmp 5) (.tmp 6) rfl A B rfl rfl HA.out HB.out _ hab ?_)
      | (go_at_call 9; with_reducible refine (upto_any A B HA.out HB.out _).mono ?_; rw [HQ.out]; rintro e w1 ⟨rfl, hb1⟩)
      | (go_at_call 9; with_reducible refine (upto_any B A HB.out HA.out _).mono ?_; rw [HP.out]; rintro e w2 ⟨rfl, hb2⟩))
    go_ret
    exact ⟨by rw [HO.out]; rfl, (bthen Hb.out hb1 (Nat.le_refl _)).trans (hb2.mono (Nat.le_trans Hb.out.size hb1.size))⟩
  · have hab : (A == B) = false := HAB.out
    go_wp2_with (first
      | (with_reducible refine load_clock rfl (.tmp 2) rfl _ rfl A HA.out (by first | exact R0.out | exact Arr.keep R0.out hb1) ?_)
      | (with_reducible refine load_clock rfl (.tmp 3) rfl _ rfl B HB.out (by first | exact R1.out | exact Arr.keep R1.out hb1) ?_)
      | (with_reducible refine eql_clock rfl (.tmp 5) (.tmp 6) rfl A B rfl rfl HA.out HB.out _ hab ?_)
      | (go_at_call 9; with_reducible refine (upto_any A B HA.out HB.out _).mono ?_; rw [HQ.out]; rintro e w1 ⟨rfl, hb1⟩)
      | (go_at_call 9; with_reducible refine (upto_any B A HB.out HA.out _).mono ?_; rw [HP.out]; rintro e w2 ⟨rfl, hb2⟩))
    go_ret
    exact ⟨by rw [HO.out]; rfl, bthen Hb.out hb1 (Nat.le_refl _)⟩
  · have hab : (A == B) = false := HAB.out
    go_wp2_with (first
      | (with_reducible refine load_clock rfl (.tmp 2) rfl _ rfl A HA.out (by first | exact R0.out | exact Arr.keep R0.out hb1) ?_)
      | (with_reducible refine load_clock rfl (.tmp 3) rfl _ rfl B HB.out (by first | exact R1.out | exact Arr.keep R1.out hb1) ?_)
      | (with_reducible refine eql_clock rfl (.tmp 5) (.tmp 6) rfl A B rfl rfl HA.out HB.out _ hab ?_)
      | (go_at_call 9; with_reducible refine (upto_any A B HA.out HB.out _).mono ?_; rw [HQ.out]; rintro e w1 ⟨rfl, hb1⟩)
      | (go_at_call 9; with_reducible refine (upto_any B A HB.out HA.out _).mono ?_; rw [HP.out]; rintro e w2 ⟨rfl, hb2⟩))
    go_ret
    exact ⟨by rw [HO.out]; rfl, (bthen Hb.out hb1 (Nat.le_refl _)).trans (hb2.mono (Nat.le_trans Hb.out.size hb1.size))⟩
end Go.Proofs.Ytadmjhlcdoghpaa
