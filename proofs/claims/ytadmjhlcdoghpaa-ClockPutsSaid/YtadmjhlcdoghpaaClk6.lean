/- Clocks: the laws ClockAbove, ClockTicks. -/
import Derived.Test.YtadmjhlcdoghpaaClk5
namespace Go.Proofs.Ytadmjhlcdoghpaa
set_option linter.unusedVariables false
set_option linter.unusedSimpArgs false
set_option linter.unnecessarySimpa false
open Go.RowKit
set_option maxRecDepth 100000
set_option maxHeartbeats 2000000

theorem wpWant {P : Program} {ops : Array Oper} {Q : Exit → Act → World → Prop} {a : Act} {w : World} {rest : List Oper} {o : Oper} (hw : Region.wanted o (yielded ops a.tmps) = true)
    (h : ∀ K : Act → World → Prop, (∀ a w, wpList P ops Q rest a w → K a w) → o.wp P a w K Q) : wpList P ops Q (o :: rest) a w :=
  wpList_step fun K hK => by rw [if_pos hw]; exact h K hK
/-- 'load_clock' behind a guard. -/
theorem load_clock_g {w : World} {ops : Array Oper} {rest : List Oper} {o : Oper} {a : Act} {Q : Exit → Act → World → Prop} (hw : Region.wanted o (yielded ops a.tmps) = true) (x : Operand) (ho : o.op = .load 24 x)
    (g : Nat) (hx : a.eval x = .pointer (some ⟨g, 0, none⟩)) (A : List Int) (hA : A.length = 8) (hr : Arr w g 24 .u64 A)
    (h : wpList Try.prog ops Q rest (a.put o.dst (clockV A)) w) : wpList Try.prog ops Q (o :: rest) a w :=
  wpWant hw fun K hK => wp_load_row 24 x ho g hx _ _ _ _ hr Try.underlying24 rfl (by rw [size_clock]; simp [hA]) (hK _ _ h)
/-- No number of A is above B's. -/
def Leq (A B : List Int) : Prop := ∀ j, j < 8 → A.getD j 0 ≤ B.getD j 0
theorem leq_less {A B : List Int} : less B A 8 = false ↔ Leq A B := by
  refine ⟨fun h j hj => less_false h hj, fun h => ?_⟩
  cases hl : less B A 8 with
  | false => rfl
  | true =>
    unfold less at hl
    rw [List.any_eq_true] at hl
    obtain ⟨j, hj, hd⟩ := hl
    have := h j (by simpa using hj)
    simp only [decide_eq_true_eq] at hd
    omega
theorem leq_merged1 {A B : List Int} (hA : A.length = 8) (hB : B.length = 8) : Leq A (merged A B) := fun j hj => by rw [merged_get A B hA hB j hj]; omega
theorem leq_merged2 {A B : List Int} (hA : A.length = 8) (hB : B.length = 8) : Leq B (merged A B) := fun j hj => by rw [merged_get A B hA hB j hj]; omega
theorem merged_leq {A B C : List Int} (hA : A.length = 8) (hB : B.length = 8) (h1 : Leq A C) (h2 : Leq B C) : Leq (merged A B) C := fun j hj => by
  rw [merged_get A B hA hB j hj]; have := h1 j hj; have := h2 j hj; omega
theorem merged_length {A B : List Int} (hA : A.length = 8) (hB : B.length = 8) : (merged A B).length = 8 := by simp [merged, hA, hB]

theorem pre3c (A B C : List Int) (w : World) : ∃ W, (((w.alloc (.cells (nums .u64 A).toArray 24)).alloc (.cells (nums .u64 B).toArray 24)).alloc (.cells (nums .u64 C).toArray 24)) = W ∧ Hid (Arr W w.heap.size 24 .u64 A) ∧ Hid (Arr W (w.heap.size + 1) 24 .u64 B) ∧ Hid (Arr W (w.heap.size + 1 + 1) 24 .u64 C) ∧ Hid (Below w.heap.size w W) ∧ Hid (W.heap.size = w.heap.size + 1 + 1 + 1) := by
  obtain ⟨W1, h1, a1, a1', b1, c1⟩ := pre2 A B w
  obtain ⟨W2, h2, a2, b2, c2⟩ := pre1 C W1
  rw [c1.out] at a2 b2 c2
  exact ⟨W2, by rw [h1, h2], Row.below a1.out b2.out (by omega), Row.below a1'.out b2.out (by omega), a2, b1.out.trans (b2.out.mono (by omega)), c2⟩

theorem ClockAbove_walk (A B C : List Int) (w : World) (hA : A.length = 8) (hB : B.length = 8) (hC : C.length = 8) :
    Calls Try.prog 3 #[clockV A, clockV B, clockV C] w fun e w' => e = .returned (.bool true) ∧ Below w.heap.size w w' := by
  have HA := Lib.hid hA
  have HB := Lib.hid hB
  have HC := Lib.hid hC
  have HM := Lib.hid (merged_length hA hB)
  have H1 := Lib.hid (leq_less.2 (leq_merged1 hA hB))
  have H2 := Lib.hid (leq_less.2 (leq_merged2 hA hB))
  have H3 := Lib.hid (show less C A 8 = false → less C B 8 = false → less C (merged A B) 8 = false from fun h1 h2 => leq_less.2 (merged_leq hA hB (leq_less.1 h1) (leq_less.1 h2)))
  have H4 := Lib.hid (show ord A (merged A B) = ordB (less A (merged A B) 8) false by unfold ord; rw [leq_less.2 (leq_merged1 hA hB)])
  clear hA hB hC
  unfold clockV
  go_enter Try.func3, Try.ntmps3
  go_upto_region 1 with fail
  obtain ⟨W, hW, R0, R1, R2, Hb, -⟩ := pre3c A B C w
  rw [hW]
  clear hW
  simp only [clockV_eq]
  go_upto_region 2 with (first
    | (with_reducible refine load_clock rfl (.tmp 3) rfl _ rfl A HA.out R0.out ?_)
    | (with_reducible refine load_clock rfl (.tmp 4) rfl _ rfl B HB.out R1.out ?_)
    | (go_at_call 8; with_reducible refine (merge_any A B HA.out HB.out _).mono ?_; rintro e w1 ⟨rfl, hb1⟩; obtain ⟨W1, hW1, T1, Hb1, -⟩ := preZ w1)
    | (with_reducible refine store_clock rfl (.tmp 7) (.tmp 10) rfl _ rfl (merged A B) rfl HM.out _ zeros T1.out rfl ?_))
  have s0 := Arr.setRow_other (g := w1.heap.size) (Arr.keep (Arr.keep R0.out hb1) Hb1.out) (by have := R0.out.lt; have := hb1.size; omega) (nums .u64 (merged A B)).toArray
  have s1 := Arr.setRow_other (g := w1.heap.size) (Arr.keep (Arr.keep R1.out hb1) Hb1.out) (by have := R1.out.lt; have := hb1.size; omega) (nums .u64 (merged A B)).toArray
  have s2 := Arr.setRow_other (g := w1.heap.size) (Arr.keep (Arr.keep R2.out hb1) Hb1.out) (by have := R2.out.lt; have := hb1.size; omega) (nums .u64 (merged A B)).toArray
  have s3 := Arr.setRow T1.out (merged A B)
  have sb : Below w.heap.size w (W1.setRow w1.heap.size (nums .u64 (merged A B)).toArray) := bsetRow (bthen (bthen Hb.out hb1 (Nat.le_refl _)) Hb1.out (Nat.le_refl _)) (Nat.le_trans Hb.out.size hb1.size) _
  have S0 := Lib.hid s0
  have S1 := Lib.hid s1
  have S2 := Lib.hid s2
  have S3 := Lib.hid s3
  have SB := Lib.hid sb
  clear s0 s1 s2 s3 sb hW1 R0 R1 R2 T1 Hb Hb1 hb1
  generalize W1.setRow w1.heap.size (nums .u64 (merged A B)).toArray = V at *
  generalize w1.heap.size = g at *
  generalize merged A B = M at *
  have hO : ¬ ord A M = 2 := by rw [H4.out]; cases less A M 8 <;> simp [ordB]
  generalize hoo : ord A M = O at *
  have HOO := Lib.hid hoo
  clear H4 hoo
  simp only [Act.put]
  generalize hp : less C A 8 = p at *
  generalize hq : less C B 8 = q at *
  have HP := Lib.hid hp
  have HQ := Lib.hid hq
  clear hp hq
  by_cases hpq : p = false ∧ q = false
  · obtain ⟨rfl, rfl⟩ := hpq
    have hmc := H3.out rfl rfl
    have HMC := Lib.hid hmc
    clear hmc
    go_wp2_with (first
    | (with_reducible refine load_clock_g (by with_unfolding_all rfl) (.tmp 3) rfl _ rfl A HA.out (Arr.keep S0.out (by repeat (first | with_reducible exact Below.refl _ _ | with_reducible refine bdrew ?_ | with_reducible refine balloc ?_ _ | with_reducible refine bstep ?_ (by assumption)))) ?_)
    | (with_reducible refine load_clock_g (by with_unfolding_all rfl) (.tmp 4) rfl _ rfl B HB.out (Arr.keep S1.out (by repeat (first | with_reducible exact Below.refl _ _ | with_reducible refine bdrew ?_ | with_reducible refine balloc ?_ _ | with_reducible refine bstep ?_ (by assumption)))) ?_)
    | (with_reducible refine load_clock_g (by with_unfolding_all rfl) (.tmp 5) rfl _ rfl C HC.out (Arr.keep S2.out (by repeat (first | with_reducible exact Below.refl _ _ | with_reducible refine bdrew ?_ | with_reducible refine balloc ?_ _ | with_reducible refine bstep ?_ (by assumption)))) ?_)
    | (with_reducible refine load_clock_g (by with_unfolding_all rfl) (.tmp 7) rfl _ rfl M HM.out (Arr.keep S3.out (by repeat (first | with_reducible exact Below.refl _ _ | with_reducible refine bdrew ?_ | with_reducible refine balloc ?_ _ | with_reducible refine bstep ?_ (by assumption)))) ?_)
    | (go_at_call 9; with_reducible refine (upto_any A M HA.out HM.out _).mono ?_; rw [H1.out]; rintro e wq ⟨rfl, hbq⟩)
    | (go_at_call 9; with_reducible refine (upto_any B M HB.out HM.out _).mono ?_; rw [H2.out]; rintro e wq ⟨rfl, hbq⟩)
    | (go_at_call 9; with_reducible refine (upto_any A C HA.out HC.out _).mono ?_; rw [HP.out]; rintro e wq ⟨rfl, hbq⟩)
    | (go_at_call 9; with_reducible refine (upto_any B C HB.out HC.out _).mono ?_; rw [HQ.out]; rintro e wq ⟨rfl, hbq⟩)
    | (go_at_call 9; with_reducible refine (upto_any M C HM.out HC.out _).mono ?_; rw [HMC.out]; rintro e wq ⟨rfl, hbq⟩)
    | (go_at_call 10; with_reducible refine (order_any A M HA.out HM.out _).mono ?_; rw [HOO.out]; rintro e wq ⟨rfl, hbq⟩)
    | (go_at_call 11; with_reducible refine (lives13 _).mono ?_; rintro e wq ⟨rfl, hbq⟩))
    go_ret
    exact ⟨by simp [hO], bthen SB.out (by repeat (first | with_reducible exact Below.refl _ _ | with_reducible refine bdrew ?_ | with_reducible refine balloc ?_ _ | with_reducible refine bstep ?_ (by assumption))) (Nat.le_refl _)⟩
  · have HMC := Lib.hid (show less C M 8 = less C M 8 from rfl)
    cases p
    · obtain rfl : q = true := by cases q <;> simp at hpq ⊢
      clear hpq H3
      go_wp2_with (first
      | (with_reducible refine load_clock_g (by with_unfolding_all rfl) (.tmp 3) rfl _ rfl A HA.out (Arr.keep S0.out (by repeat (first | with_reducible exact Below.refl _ _ | with_reducible refine bdrew ?_ | with_reducible refine balloc ?_ _ | with_reducible refine bstep ?_ (by assumption)))) ?_)
      | (with_reducible refine load_clock_g (by with_unfolding_all rfl) (.tmp 4) rfl _ rfl B HB.out (Arr.keep S1.out (by repeat (first | with_reducible exact Below.refl _ _ | with_reducible refine bdrew ?_ | with_reducible refine balloc ?_ _ | with_reducible refine bstep ?_ (by assumption)))) ?_)
      | (with_reducible refine load_clock_g (by with_unfolding_all rfl) (.tmp 5) rfl _ rfl C HC.out (Arr.keep S2.out (by repeat (first | with_reducible exact Below.refl _ _ | with_reducible refine bdrew ?_ | with_reducible refine balloc ?_ _ | with_reducible refine bstep ?_ (by assumption)))) ?_)
      | (with_reducible refine load_clock_g (by with_unfolding_all rfl) (.tmp 7) rfl _ rfl M HM.out (Arr.keep S3.out (by repeat (first | with_reducible exact Below.refl _ _ | with_reducible refine bdrew ?_ | with_reducible refine balloc ?_ _ | with_reducible refine bstep ?_ (by assumption)))) ?_)
      | (go_at_call 9; with_reducible refine (upto_any A M HA.out HM.out _).mono ?_; rw [H1.out]; rintro e wq ⟨rfl, hbq⟩)
      | (go_at_call 9; with_reducible refine (upto_any B M HB.out HM.out _).mono ?_; rw [H2.out]; rintro e wq ⟨rfl, hbq⟩)
      | (go_at_call 9; with_reducible refine (upto_any A C HA.out HC.out _).mono ?_; rw [HP.out]; rintro e wq ⟨rfl, hbq⟩)
      | (go_at_call 9; with_reducible refine (upto_any B C HB.out HC.out _).mono ?_; rw [HQ.out]; rintro e wq ⟨rfl, hbq⟩)
      | (go_at_call 9; with_reducible refine (upto_any M C HM.out HC.out _).mono ?_; rw [HMC.out]; rintro e wq ⟨rfl, hbq⟩)
      | (go_at_call 10; with_reducible refine (order_any A M HA.out HM.out _).mono ?_; rw [HOO.out]; rintro e wq ⟨rfl, hbq⟩)
      | (go_at_call 11; with_reducible refine (lives13 _).mono ?_; rintro e wq ⟨rfl, hbq⟩))
      go_ret
      exact ⟨by simp [hO], bthen SB.out (by repeat (first | with_reducible exact Below.refl _ _ | with_reducible refine bdrew ?_ | with_reducible refine balloc ?_ _ | with_reducible refine bstep ?_ (by assumption))) (Nat.le_refl _)⟩
    · clear hpq H3
      go_wp2_with (first
      | (with_reducible refine load_clock_g (by with_unfolding_all rfl) (.tmp 3) rfl _ rfl A HA.out (Arr.keep S0.out (by repeat (first | with_reducible exact Below.refl _ _ | with_reducible refine bdrew ?_ | with_reducible refine balloc ?_ _ | with_reducible refine bstep ?_ (by assumption)))) ?_)
      | (with_reducible refine load_clock_g (by with_unfolding_all rfl) (.tmp 4) rfl _ rfl B HB.out (Arr.keep S1.out (by repeat (first | with_reducible exact Below.refl _ _ | with_reducible refine bdrew ?_ | with_reducible refine balloc ?_ _ | with_reducible refine bstep ?_ (by assumption)))) ?_)
      | (with_reducible refine load_clock_g (by with_unfolding_all rfl) (.tmp 5) rfl _ rfl C HC.out (Arr.keep S2.out (by repeat (first | with_reducible exact Below.refl _ _ | with_reducible refine bdrew ?_ | with_reducible refine balloc ?_ _ | with_reducible refine bstep ?_ (by assumption)))) ?_)
      | (with_reducible refine load_clock_g (by with_unfolding_all rfl) (.tmp 7) rfl _ rfl M HM.out (Arr.keep S3.out (by repeat (first | with_reducible exact Below.refl _ _ | with_reducible refine bdrew ?_ | with_reducible refine balloc ?_ _ | with_reducible refine bstep ?_ (by assumption)))) ?_)
      | (go_at_call 9; with_reducible refine (upto_any A M HA.out HM.out _).mono ?_; rw [H1.out]; rintro e wq ⟨rfl, hbq⟩)
      | (go_at_call 9; with_reducible refine (upto_any B M HB.out HM.out _).mono ?_; rw [H2.out]; rintro e wq ⟨rfl, hbq⟩)
      | (go_at_call 9; with_reducible refine (upto_any A C HA.out HC.out _).mono ?_; rw [HP.out]; rintro e wq ⟨rfl, hbq⟩)
      | (go_at_call 9; with_reducible refine (upto_any B C HB.out HC.out _).mono ?_; rw [HQ.out]; rintro e wq ⟨rfl, hbq⟩)
      | (go_at_call 9; with_reducible refine (upto_any M C HM.out HC.out _).mono ?_; rw [HMC.out]; rintro e wq ⟨rfl, hbq⟩)
      | (go_at_call 10; with_reducible refine (order_any A M HA.out HM.out _).mono ?_; rw [HOO.out]; rintro e wq ⟨rfl, hbq⟩)
      | (go_at_call 11; with_reducible refine (lives13 _).mono ?_; rintro e wq ⟨rfl, hbq⟩))
      go_ret
      exact ⟨by simp [hO], bthen SB.out (by repeat (first | with_reducible exact Below.refl _ _ | with_reducible refine bdrew ?_ | with_reducible refine balloc ?_ _ | with_reducible refine bstep ?_ (by assumption))) (Nat.le_refl _)⟩
end Go.Proofs.Ytadmjhlcdoghpaa
