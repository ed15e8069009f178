/- Clocks: the law ClockTicks. (printed by gen/clk7.py) -/
import Derived.Test.YtadmjhlcdoghpaaClk6
namespace Go.Proofs.Ytadmjhlcdoghpaa
set_option linter.unusedVariables false
set_option linter.unusedSimpArgs false
set_option linter.unnecessarySimpa false
open Go.RowKit
set_option maxRecDepth 100000
set_option maxHeartbeats 4000000

theorem beq_self (A : List Int) : (A == A) = true := by simp
theorem eql_clock_g {w : World} {ops : Array Oper} {rest : List Oper} {o : Oper} {a : Act} {Q : Exit → Act → World → Prop} (hw : Region.wanted o (yielded ops a.tmps) = true) (x y : Operand) (ho : o.op = .binOp .eql 24 x y 24) (A B : List Int) (hx : a.eval x = clockV A) (hy : a.eval y = clockV B) (hA : A.length = 8) (hB : B.length = 8) (b : Bool) (hb : (A == B) = b)
    (h : wpList Try.prog ops Q rest (a.put o.dst (.bool b)) w) : wpList Try.prog ops Q (o :: rest) a w :=
  wpWant hw fun K hK => by
    unfold Oper.wp
    rw [exec_eql x y ho A B hx hy hA hB w, hb]
    exact hK _ _ h
theorem ClockTicks_arg (A : List Int) (i : Int) (w : World) (hA : A.length = 8) (hi : i < 0 ∨ 7 < i) :
    Calls Try.prog 5 #[clockV A, .int .i64 i] w fun e w' => e = .returned (.bool true) ∧ Below w.heap.size w w' := by
  have HA := Lib.hid hA
  have HI := Lib.hid hi
  have he := beq_self A
  clear hA hi
  unfold clockV
  go_enter Try.func5, Try.ntmps5
  go_upto_region 1 with fail
  obtain ⟨W, hW, R0, Hb, -⟩ := pre1 A w
  rw [hW]
  clear hW
  simp only [clockV_eq]
  go_upto_region 2 with (first
    | (with_reducible refine load_clock rfl (.tmp 2) rfl _ rfl A HA.out R0.out ?_)
    | (go_at_call 12; with_reducible refine (tick_arg A HA.out i HI.out _).mono ?_; rintro e w1 ⟨rfl, hb1⟩; obtain ⟨W1, hW1, T1, Hb1, Hz1⟩ := preZ w1)
    | (with_reducible refine store_clock rfl (.tmp 5) (.tmp 12) rfl _ rfl A rfl HA.out _ zeros T1.out rfl ?_))
  have s0 := Arr.setRow_other (g := w1.heap.size) (Arr.keep (Arr.keep R0.out hb1) Hb1.out) (by have := R0.out.lt; have := hb1.size; omega) (nums .u64 A).toArray
  have s1 := Arr.setRow T1.out A
  have sb : Below w.heap.size w (W1.setRow w1.heap.size (nums .u64 A).toArray) := bsetRow (bthen (bthen Hb.out hb1 (Nat.le_refl _)) Hb1.out (Nat.le_refl _)) (Nat.le_trans Hb.out.size hb1.size) _
  have hg : w.heap.size < w1.heap.size ∧ w1.heap.size < (W1.setRow w1.heap.size (nums .u64 A).toArray).heap.size := by
    have := R0.out.lt; have := hb1.size; have := s1.lt; exact ⟨by omega, this⟩
  have S0 := Lib.hid s0
  have S1 := Lib.hid s1
  have SB := Lib.hid sb
  have HG := Lib.hid hg
  clear s0 s1 sb hg hW1 R0 T1 Hb Hb1 hb1 Hz1
  generalize W1.setRow w1.heap.size (nums .u64 A).toArray = V at *
  generalize w1.heap.size = g at *
  try simp only [Act.put]
  have hi := HI.out
  clear HI
  by_cases h0 : i < 0
  · clear hi
    go_wp2_with (first
      | (with_reducible refine load_clock_g (by with_unfolding_all rfl) (.tmp 5) rfl _ rfl A HA.out (Arr.keep S1.out (by repeat (first | with_reducible exact Below.refl _ _ | with_reducible refine bdrew ?_ | with_reducible refine balloc ?_ _ | with_reducible refine bstep ?_ (by assumption)))) ?_)
      | (with_reducible refine load_clock_g (by with_unfolding_all rfl) (.tmp 2) rfl _ rfl A HA.out (Arr.keep S0.out (by repeat (first | with_reducible exact Below.refl _ _ | with_reducible refine bdrew ?_ | with_reducible refine balloc ?_ _ | with_reducible refine bstep ?_ (by assumption)))) ?_)
      | (with_reducible refine eql_clock rfl (.tmp 20) (.tmp 21) rfl A A rfl rfl HA.out HA.out _ he ?_)
      | (go_at_call 11; with_reducible refine (lives13 _).mono ?_; rintro e wq ⟨rfl, hbq⟩))
    go_ret
    exact ⟨rfl, bthen SB.out (by repeat (first | with_reducible exact Below.refl _ _ | with_reducible refine bdrew ?_ | with_reducible refine balloc ?_ _ | with_reducible refine bstep ?_ (by assumption))) (Nat.le_refl _)⟩
  · have h7 : 7 < i := by omega
    clear hi
    go_wp2_with (first
      | (with_reducible refine load_clock_g (by with_unfolding_all rfl) (.tmp 5) rfl _ rfl A HA.out (Arr.keep S1.out (by repeat (first | with_reducible exact Below.refl _ _ | with_reducible refine bdrew ?_ | with_reducible refine balloc ?_ _ | with_reducible refine bstep ?_ (by assumption)))) ?_)
      | (with_reducible refine load_clock_g (by with_unfolding_all rfl) (.tmp 2) rfl _ rfl A HA.out (Arr.keep S0.out (by repeat (first | with_reducible exact Below.refl _ _ | with_reducible refine bdrew ?_ | with_reducible refine balloc ?_ _ | with_reducible refine bstep ?_ (by assumption)))) ?_)
      | (with_reducible refine eql_clock rfl (.tmp 20) (.tmp 21) rfl A A rfl rfl HA.out HA.out _ he ?_)
      | (go_at_call 11; with_reducible refine (lives13 _).mono ?_; rintro e wq ⟨rfl, hbq⟩))
    go_ret
    exact ⟨rfl, bthen SB.out (by repeat (first | with_reducible exact Below.refl _ _ | with_reducible refine bdrew ?_ | with_reducible refine balloc ?_ _ | with_reducible refine bstep ?_ (by assumption))) (Nat.le_refl _)⟩

theorem ClockTicks_full (A : List Int) (j : Nat) (w : World) (hA : A.length = 8) (hj : j < 8) (hf : 4611686018427387903 ≤ A.getD j 0) :
    Calls Try.prog 5 #[clockV A, .int .i64 (j : Int)] w fun e w' => e = .returned (.bool true) ∧ Below w.heap.size w w' := by
  have HA := Lib.hid hA
  have HF := Lib.hid hf
  have he := beq_self A
  clear hA hf
  unfold clockV
  go_enter Try.func5, Try.ntmps5
  go_upto_region 1 with fail
  obtain ⟨W, hW, R0, Hb, -⟩ := pre1 A w
  rw [hW]
  clear hW
  simp only [clockV_eq]
  go_upto_region 2 with (first
    | (with_reducible refine load_clock rfl (.tmp 2) rfl _ rfl A HA.out R0.out ?_)
    | (go_at_call 12; with_reducible refine (tick_full A HA.out j hj HF.out _).mono ?_; rintro e w1 ⟨rfl, hb1⟩; obtain ⟨W1, hW1, T1, Hb1, Hz1⟩ := preZ w1)
    | (with_reducible refine store_clock rfl (.tmp 5) (.tmp 12) rfl _ rfl A rfl HA.out _ zeros T1.out rfl ?_))
  have s0 := Arr.setRow_other (g := w1.heap.size) (Arr.keep (Arr.keep R0.out hb1) Hb1.out) (by have := R0.out.lt; have := hb1.size; omega) (nums .u64 A).toArray
  have s1 := Arr.setRow T1.out A
  have sb : Below w.heap.size w (W1.setRow w1.heap.size (nums .u64 A).toArray) := bsetRow (bthen (bthen Hb.out hb1 (Nat.le_refl _)) Hb1.out (Nat.le_refl _)) (Nat.le_trans Hb.out.size hb1.size) _
  have hg : w.heap.size < w1.heap.size ∧ w1.heap.size < (W1.setRow w1.heap.size (nums .u64 A).toArray).heap.size := by
    have := R0.out.lt; have := hb1.size; have := s1.lt; exact ⟨by omega, this⟩
  have S0 := Lib.hid s0
  have S1 := Lib.hid s1
  have SB := Lib.hid sb
  have HG := Lib.hid hg
  clear s0 s1 sb hg hW1 R0 T1 Hb Hb1 hb1 Hz1
  generalize W1.setRow w1.heap.size (nums .u64 A).toArray = V at *
  generalize w1.heap.size = g at *
  try simp only [Act.put]
  have hj0 : ¬ (j : Int) < 0 := by omega
  have hj7 : ¬ 7 < (j : Int) := by omega
  have hc := S0.out.cell j (by rw [HA.out]; exact hj)
  have hx : 4611686018427387902 < A.getD j 0 := by have := HF.out; omega
  clear HF
  generalize A.getD j 0 = x at *
  go_wp2_with (first
    | (with_reducible refine load_clock_g (by with_unfolding_all rfl) (.tmp 5) rfl _ rfl A HA.out (Arr.keep S1.out (by repeat (first | with_reducible exact Below.refl _ _ | with_reducible refine bdrew ?_ | with_reducible refine balloc ?_ _ | with_reducible refine bstep ?_ (by assumption)))) ?_)
    | (with_reducible refine load_clock_g (by with_unfolding_all rfl) (.tmp 2) rfl _ rfl A HA.out (Arr.keep S0.out (by repeat (first | with_reducible exact Below.refl _ _ | with_reducible refine bdrew ?_ | with_reducible refine balloc ?_ _ | with_reducible refine bstep ?_ (by assumption)))) ?_)
    | (with_reducible refine eql_clock rfl (.tmp 34) (.tmp 35) rfl A A rfl rfl HA.out HA.out _ he ?_)
    | (go_at_call 11; with_reducible refine (lives13 _).mono ?_; rintro e wq ⟨rfl, hbq⟩))
  go_ret
  exact ⟨rfl, bthen SB.out (by repeat (first | with_reducible exact Below.refl _ _ | with_reducible refine bdrew ?_ | with_reducible refine balloc ?_ _ | with_reducible refine bstep ?_ (by assumption))) (Nat.le_refl _)⟩

theorem ClockTicks_ok (A : List Int) (j : Nat) (w : World) (hA : A.length = 8) (hj : j < 8) (x : Int) (hc0 : A.getD j 0 = x) (hf : x < 4611686018427387903) (h0 : 0 ≤ x) (D : List Int) (hD : A.set j (x + 1) = D) :
    Calls Try.prog 5 #[clockV A, .int .i64 (j : Int)] w fun e w' => e = .returned (.bool true) ∧ Below w.heap.size w w' := by
  have HA := Lib.hid hA
  have hu : IntKind.u64.wrap (x + 1) = x + 1 := IntWalk.u64_in _ ⟨by omega, by omega⟩
  have hx : ¬ 4611686018427387902 < x := by omega
  have HDL := Lib.hid (show D.length = 8 by rw [← hD, List.length_set]; exact hA)
  have he := beq_self D
  have hdj : D.getD j 0 = x + 1 := by rw [← hD]; simp [List.getD, hA, hj]
  have hord : ord A D = 1 := by
    have h1 : less A D 8 = true := less_mono (j := j) (by rw [hc0, hdj]; omega) hj
    have h2 : less D A 8 = false := leq_less.2 fun k hk => by
      by_cases hkj : k = j
      · subst hkj; rw [hc0, hdj]; omega
      · rw [← hD]; simp only [List.getD]; rw [List.getElem?_set_ne (Ne.symm hkj)]; omega
    unfold ord; rw [h1, h2]; rfl
  have HO := Lib.hid hord
  have HC := Lib.hid hc0
  have HD := Lib.hid hD
  have HF := Lib.hid hf
  have H0 := Lib.hid h0
  clear hA hf h0 hc0 hD hdj hord
  unfold clockV
  go_enter Try.func5, Try.ntmps5
  go_upto_region 1 with fail
  obtain ⟨W, hW, R0, Hb, -⟩ := pre1 A w
  rw [hW]
  clear hW
  simp only [clockV_eq]
  go_upto_region 2 with (first
    | (with_reducible refine load_clock rfl (.tmp 2) rfl _ rfl A HA.out R0.out ?_)
    | (go_at_call 12; with_reducible refine (tick_ok A HA.out j hj x HC.out HF.out H0.out D HD.out _).mono ?_; rintro e w1 ⟨rfl, hb1⟩; obtain ⟨W1, hW1, T1, Hb1, Hz1⟩ := preZ w1)
    | (with_reducible refine store_clock rfl (.tmp 5) (.tmp 12) rfl _ rfl D rfl HDL.out _ zeros T1.out rfl ?_))
  have s0 := Arr.setRow_other (g := w1.heap.size) (Arr.keep (Arr.keep R0.out hb1) Hb1.out) (by have := R0.out.lt; have := hb1.size; omega) (nums .u64 D).toArray
  have s1 := Arr.setRow T1.out D
  have sb : Below w.heap.size w (W1.setRow w1.heap.size (nums .u64 D).toArray) := bsetRow (bthen (bthen Hb.out hb1 (Nat.le_refl _)) Hb1.out (Nat.le_refl _)) (Nat.le_trans Hb.out.size hb1.size) _
  have hg : w.heap.size < w1.heap.size ∧ w1.heap.size < (W1.setRow w1.heap.size (nums .u64 D).toArray).heap.size := by
    have := R0.out.lt; have := hb1.size; have := s1.lt; exact ⟨by omega, this⟩
  have S0 := Lib.hid s0
  have S1 := Lib.hid s1
  have SB := Lib.hid sb
  have HG := Lib.hid hg
  clear s0 s1 sb hg hW1 R0 T1 Hb Hb1 hb1 Hz1
  generalize W1.setRow w1.heap.size (nums .u64 D).toArray = V at *
  generalize w1.heap.size = g at *
  try simp only [Act.put]
  have hj0 : ¬ (j : Int) < 0 := by omega
  have hj7 : ¬ 7 < (j : Int) := by omega
  have hc := S0.out.cell j (by rw [HA.out]; exact hj)
  rw [HC.out] at hc
  obtain ⟨V2, hV2, T2, Hb2, Hz2⟩ := preZ V
  go_upto_region 7 with (first
  | (with_reducible refine load_clock_g (by with_unfolding_all rfl) (.tmp 2) rfl _ rfl A HA.out (Arr.keep S0.out (by repeat (first | with_reducible exact Below.refl _ _ | with_reducible refine bdrew ?_ | with_reducible refine balloc ?_ _ | with_reducible refine bstep ?_ (by assumption)))) ?_)
  | (with_reducible refine store_clock rfl (.tmp 7) (.tmp 44) rfl _ rfl A rfl HA.out _ zeros T2.out rfl ?_))
  have u0 := Arr.setRow_other (g := V.heap.size) (Arr.keep S0.out Hb2.out) (by have := HG.out; omega) (nums .u64 A).toArray
  have u1 := Arr.setRow_other (g := V.heap.size) (Arr.keep S1.out Hb2.out) (by have := HG.out; omega) (nums .u64 A).toArray
  have u2 := Arr.setRow T2.out A
  have ub : Below w.heap.size w (V2.setRow V.heap.size (nums .u64 A).toArray) := bsetRow (bthen SB.out Hb2.out (Nat.le_refl _)) SB.out.size _
  have hgg : w.heap.size < V.heap.size ∧ g < V.heap.size := by have := HG.out; omega
  have hws := SB.out.size
  clear hc hV2 S0 S1 T2 SB Hb2 Hz2 HG
  try simp only [Act.put]
  generalize V2.setRow V.heap.size (nums .u64 A).toArray = U at *
  generalize V.heap.size = h at *
  have hc := u2.cell j (by rw [HA.out]; exact hj)
  rw [HC.out] at hc
  have hfz := u2.frozen j
  have v0 := Arr.set_other (p := ⟨h, j, none⟩) u0 (by simp; omega) (.int .u64 (x + 1))
  have v1 := Arr.set_other (p := ⟨h, j, none⟩) u1 (by simp; omega) (.int .u64 (x + 1))
  have v2 := u2.set j (x + 1)
  rw [HD.out] at v2
  have S0 := Lib.hid v0
  have S1 := Lib.hid v1
  have S2 := Lib.hid v2
  have SB := Lib.hid (bset (g := h) (j := j) ub (by omega) (.int .u64 (x + 1)))
  clear u0 u1 u2 ub v0 v1 v2
  go_wp2_with (first
    | (with_reducible refine load_clock_g (by with_unfolding_all rfl) (.tmp 5) rfl _ rfl D HDL.out (Arr.keep S1.out (by repeat (first | with_reducible exact Below.refl _ _ | with_reducible refine bdrew ?_ | with_reducible refine balloc ?_ _ | with_reducible refine bstep ?_ (by assumption)))) ?_)
    | (with_reducible refine load_clock_g (by with_unfolding_all rfl) (.tmp 7) rfl _ rfl D HDL.out (Arr.keep S2.out (by repeat (first | with_reducible exact Below.refl _ _ | with_reducible refine bdrew ?_ | with_reducible refine balloc ?_ _ | with_reducible refine bstep ?_ (by assumption)))) ?_)
    | (with_reducible refine load_clock_g (by with_unfolding_all rfl) (.tmp 2) rfl _ rfl A HA.out (Arr.keep S0.out (by repeat (first | with_reducible exact Below.refl _ _ | with_reducible refine bdrew ?_ | with_reducible refine balloc ?_ _ | with_reducible refine bstep ?_ (by assumption)))) ?_)
    | (with_reducible refine eql_clock rfl (.tmp 50) (.tmp 51) rfl D D rfl rfl HDL.out HDL.out _ he ?_)
    | (go_at_call 10; with_reducible refine (order_any A D HA.out HDL.out _).mono ?_; rw [HO.out]; rintro e wq ⟨rfl, hbq⟩)
    | (go_at_call 11; with_reducible refine (lives13 _).mono ?_; rintro e wq ⟨rfl, hbq⟩))
  go_ret
  exact ⟨rfl, bthen SB.out (by repeat (first | with_reducible exact Below.refl _ _ | with_reducible refine bdrew ?_ | with_reducible refine balloc ?_ _ | with_reducible refine bstep ?_ (by assumption))) (Nat.le_refl _)⟩

theorem ClockTicks_walk (A : List Int) (i : Int) (w : World) (hA : A.length = 8) (h0 : ∀ j, j < 8 → 0 ≤ A.getD j 0 ∧ A.getD j 0 < 18446744073709551616) (_h1 : -9223372036854775808 ≤ i) (_h2 : i ≤ 9223372036854775807) :
    Calls Try.prog 5 #[clockV A, .int .i64 i] w fun e w' => e = .returned (.bool true) ∧ Below w.heap.size w w' := by
  by_cases h : i < 0 ∨ 7 < i
  · exact ClockTicks_arg A i w hA h
  · obtain ⟨j, rfl⟩ : ∃ j : Nat, i = (j : Int) := ⟨i.toNat, by omega⟩
    have hj : j < 8 := by omega
    by_cases hf : 4611686018427387903 ≤ A.getD j 0
    · exact ClockTicks_full A j w hA hj hf
    · exact ClockTicks_ok A j w hA hj _ rfl (by omega) (h0 j hj).1 _ rfl
end Go.Proofs.Ytadmjhlcdoghpaa
