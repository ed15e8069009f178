/- The laws of chapter 21: lives. (printed by gen/liv.py) -/
import Derived.Test.YtnhkbbladifmmaaDoorLaw21
namespace Go.Proofs.YtnhkbbladifmmaaDoor
set_option linter.unusedVariables false
set_option linter.unusedSimpArgs false
set_option linter.unnecessarySimpa false
open Go.RowKit
open Tre (It)
set_option maxRecDepth 100000
set_option maxHeartbeats 8000000

theorem Sum_good (w : World) (B b : Nat) (T : TS) (A : List It) (v : Value) (P : List Int) (h : Tr w B b T) (hA : IsT T A) (hs : Ns w v P) (hg : goodP P = true) :
    Calls Tryd.prog 13 #[.pointer (some ⟨b, 0, none⟩), v] w fun e w' => e = .returned (.tuple #[sumV (Tre.sumAt A P), .bool true]) ∧ Below w.heap.size w w' := by
  rcases good_cases hg with rfl | ⟨k, hk, rfl⟩ | ⟨k, m, hk, hm, rfl⟩
  · have := Sum_0 w B b T v h hs
    rw [hA.r] at this
    exact this
  · have := Sum_1 w B b T v k hk h hs
    rw [hA.a k hk] at this
    exact this
  · have := Sum_2 w B b T v k m hk hm h hs
    rw [hA.s (4 * k + m) (by omega)] at this
    exact this
theorem sumAt_length (A : List It) (P : List Int) : (Tre.sumAt A P).length = 32 := by
  unfold Tre.sumAt
  split
  · exact Tre.rootAt_length _
  · exact Tre.nodeAt_length _ _
  · exact Tre.leafAt_length _ _
  · exact nought_len
/-- A fresh box for a sum, and the sum put into it. -/
theorem boxS (w : World) (x : List UInt8) (hx : x.length = 32) : Row (w.alloc (.cells #[.int .u8 0, .int .u8 0, .int .u8 0, .int .u8 0, .int .u8 0, .int .u8 0, .int .u8 0, .int .u8 0, .int .u8 0, .int .u8 0, .int .u8 0, .int .u8 0, .int .u8 0, .int .u8 0, .int .u8 0, .int .u8 0, .int .u8 0, .int .u8 0, .int .u8 0, .int .u8 0, .int .u8 0, .int .u8 0, .int .u8 0, .int .u8 0, .int .u8 0, .int .u8 0, .int .u8 0, .int .u8 0, .int .u8 0, .int .u8 0, .int .u8 0, .int .u8 0] 30)) w.heap.size 30 (bytes Tre0) ∧
    ∃ W, (w.alloc (.cells #[.int .u8 0, .int .u8 0, .int .u8 0, .int .u8 0, .int .u8 0, .int .u8 0, .int .u8 0, .int .u8 0, .int .u8 0, .int .u8 0, .int .u8 0, .int .u8 0, .int .u8 0, .int .u8 0, .int .u8 0, .int .u8 0, .int .u8 0, .int .u8 0, .int .u8 0, .int .u8 0, .int .u8 0, .int .u8 0, .int .u8 0, .int .u8 0, .int .u8 0, .int .u8 0, .int .u8 0, .int .u8 0, .int .u8 0, .int .u8 0, .int .u8 0, .int .u8 0] 30)).setRow w.heap.size (bytes x).toArray = W ∧ Row W w.heap.size 30 (bytes x) ∧ Below w.heap.size w W :=
  ⟨Row.new w 30 (bytes Tre0), _, rfl, setRow_heap _ _ _ _ _ _ (Row.new w 30 (bytes Tre0)), below_setRow (balloc (Below.refl _ _) _) (Nat.le_refl _) _⟩
theorem exec_eql_sum {ρ : Operand → Value} {o : Oper} (x y : Operand) (ho : o.op = .binOp .eql 30 x y 30) (A B : List UInt8) (hx : ρ x = sumV A) (hy : ρ y = sumV B) (hA : A.length = 32) (hB : B.length = 32) (w : World) :
    (execOp ρ o).run Tryd.prog w = .ok (.value (.bool (A == B))) w := by
  have h1 := run_eqGuard_agg w .eql 30 x y (bytes A).toArray (bytes B).toArray eqG_sum
  have h2 := run_eql_struct (P := Tryd.prog) w 30 (bytes A).toArray (bytes B).toArray
  have h3 := eq_sum A B hA hB w
  unfold sumV at h3 hx hy
  rw [h3] at h2
  unfold execOp
  rw [ho]
  simp only [hx, hy, Sem.run_bind, h1, h2, Result.andThen_ok, Sem.run_pure]
/-- The same three under a guard. -/
theorem load_sum_g {w : World} {ops : Array Oper} {rest : List Oper} {o : Oper} {a : Act} {Q : Exit → Act → World → Prop} (hw : Region.wanted o (yielded ops a.tmps) = true) (x : Operand) (ho : o.op = .load 30 x)
    (b off : Nat) (hx : a.eval x = .pointer (some ⟨b, off, none⟩)) (l : List UInt8) (hl : l.length = 32) (hr : w.rangeAt b off (bytes l))
    (h : wpList Tryd.prog ops Q rest (a.put o.dst (sumV l)) w) : wpList Tryd.prog ops Q (o :: rest) a w :=
  BigFrame.wpList_want hw fun K hK => wp_load_mid 30 x ho b off hx (bytes l) _ hr Tryd.underlying30 rfl (by rw [size_sum]; simp [hl]) (hK _ _ h)
theorem neq_sum_g {w : World} {ops : Array Oper} {rest : List Oper} {o : Oper} {a : Act} {Q : Exit → Act → World → Prop} (hw : Region.wanted o (yielded ops a.tmps) = true) (x y : Operand) (ho : o.op = .binOp .neq 30 x y 30) (A B : List UInt8) (hx : a.eval x = sumV A) (hy : a.eval y = sumV B) (hA : A.length = 32) (hB : B.length = 32) (b : Bool) (hb : (A == B) = b)
    (h : wpList Tryd.prog ops Q rest (a.put o.dst (.bool (!b))) w) : wpList Tryd.prog ops Q (o :: rest) a w :=
  BigFrame.wpList_want hw fun K hK => by
    unfold Oper.wp
    rw [exec_neq_sum x y ho A B hx hy hA hB w, hb]
    exact hK _ _ h
theorem eql_sum_g {w : World} {ops : Array Oper} {rest : List Oper} {o : Oper} {a : Act} {Q : Exit → Act → World → Prop} (hw : Region.wanted o (yielded ops a.tmps) = true) (x y : Operand) (ho : o.op = .binOp .eql 30 x y 30) (A B : List UInt8) (hx : a.eval x = sumV A) (hy : a.eval y = sumV B) (hA : A.length = 32) (hB : B.length = 32) (b : Bool) (hb : (A == B) = b)
    (h : wpList Tryd.prog ops Q rest (a.put o.dst (.bool b)) w) : wpList Tryd.prog ops Q (o :: rest) a w :=
  BigFrame.wpList_want hw fun K hK => by
    unfold Oper.wp
    rw [exec_eql_sum x y ho A B hx hy hA hB w, hb]
    exact hK _ _ h
/-! ### lives -/
def sIt : It := ⟨⟨#[115]⟩, 1, Tre.nought⟩
theorem sIt_ok : ItS sIt := ⟨⟨by decide, by decide, by decide⟩, by decide⟩
theorem builtS : Tryd.prog.built 32 [(0, .string ⟨#[115]⟩), (1, .int .u64 1)] = some (itC sIt).toArray := by kernel_rfl
theorem build_s {w : World} {ops : Array Oper} {rest : List Oper} {o : Oper} {a : Act} {Q : Exit → Act → World → Prop} (z : It) (hz : z = sIt) (hgd : o.guard = none) (ho : o.op = .build 32 #[(0, .const (.string ⟨#[115]⟩)), (1, .const (.int .u64 1))])
    (h : wpList Tryd.prog ops Q rest (a.put o.dst (.agg (itC z).toArray)) w) : wpList Tryd.prog ops Q (o :: rest) a w :=
  wpList_plain hgd fun K hK => by
    unfold Oper.wp execOp
    subst hz
    have e : (Array.map (fun (x : Nat × Operand) => (x.1, a.eval x.2)) #[(0, .const (.string ⟨#[115]⟩)), (1, .const (.int .u64 1))]).toList = [(0, .string ⟨#[115]⟩), (1, .int .u64 1)] := by simp; exact ⟨rfl, rfl⟩
    have := run_build (P := Tryd.prog) w 32 (Array.map (fun (x : Nat × Operand) => (x.1, a.eval x.2)) #[(0, .const (.string ⟨#[115]⟩)), (1, .const (.int .u64 1))]) _ (by rw [e]; exact builtS)
    simp only [ho, Sem.run_bind, this, Result.andThen_ok, Sem.run_pure]
    exact hK _ _ h
theorem root_nil : (Tre.sumAt [] [] == Tre.nought) = true := by decide +kernel
theorem root_s : (Tre.sumAt [sIt] [] == Tre.nought) = false := by decide +kernel
theorem PL.len {w : World} {B : Nat} {v : Value} {Ps : List (List Int)} (h : PL w B v Ps) : ∃ a c, v = .slice a Ps.length c := by
  obtain ⟨vs, h1, h2, -⟩ := h
  rcases h1.2 with ⟨hv, h0⟩ | ⟨g, cap, cur, hv, -⟩
  · rw [h0] at h2; rw [← h2]; exact ⟨_, _, hv⟩
  · rw [h2] at hv; exact ⟨_, _, hv⟩
theorem lives_any (w : World) (hg : Glob w) : Calls Tryd.prog 14 #[] w fun e w' => e = .returned (.bool true) ∧ Below w.heap.size w w' := by
  have HG := Lib.hid hg
  have hz3 := hg.1
  have HR0 := Lib.hid root_nil
  obtain ⟨z, hz⟩ : ∃ z, z = sIt := ⟨_, rfl⟩
  have HRS : Hid ((Tre.sumAt [z] [] == Tre.nought) = false) := by rw [hz]; exact root_s
  have HZ := Lib.hid hz
  have HZO : Hid (ItS z) := by rw [hz]; exact sIt_ok
  have ha0 : Hid ((Tre.sumAt [] []).length = 32) := sumAt_length _ _
  have ha1 : Hid ((Tre.sumAt [z] []).length = 32) := sumAt_length _ _
  have HP1 : Hid (Tre.put [] z = [z]) := rfl
  have HAL : Hid (Tre.all [] = []) := rfl
  obtain ⟨s0, hs0⟩ : ∃ s0, Tre.sumAt [] [] = s0 := ⟨_, rfl⟩
  obtain ⟨s1, hs1⟩ : ∃ s1, Tre.sumAt [z] [] = s1 := ⟨_, rfl⟩
  rw [hs0] at HR0 ha0
  rw [hs1] at HRS ha1
  have HS0 := Lib.hid hs0
  have HS1 := Lib.hid hs1
  have HNE : Hid ((s1 == s0) = false) := by
    have h0 := eq_of_beq HR0.out
    have h1 := HRS.out
    rw [← h0] at h1
    exact h1
  clear hg hz hs0 hs1
  go_enter Tryd.func14, Tryd.ntmps14
  go_upto_region 5 with (first
    | (go_at_call 10; refine (Build_any (.slice none 0 0) [] _ HG.out (Its.nil _) (fun x hx => by cases hx) (by decide)).mono ?_; rintro e w1 ⟨T1, rfl, ht1, hi1, hn1, hb1⟩; rw [HAL.out] at hi1; have T1' := Lib.hid ht1; have I1 := Lib.hid hi1; have N1 := Lib.hid hn1; have B1 := Lib.hid hb1; have G1 := Lib.hid (Glob.below HG.out hb1 hz3); have hw1 := hb1.size; clear ht1 hi1 hn1 hb1)
    | (go_at_call 13; refine (Sum_good _ _ _ T1 [] (.slice none 0 0) [] T1'.out I1.out (Shows.nil _ _) rfl).mono ?_; rw [HS0.out]; rintro e w2 ⟨rfl, hb2⟩; obtain ⟨hz2, W3, hW3, hr3, hb3⟩ := boxS w2 s0 ha0.out; have hw2 := hb2.size; have HZ2 := Lib.hid hz2; have R3 := Lib.hid hr3; have B3 := Lib.hid (hb2.trans (hb3.mono hw2)); clear hb2 hr3 hb3 hz2)
    | (with_reducible refine store_sum rfl (.tmp 2) (.tmp 12) rfl w2.heap.size rfl s0 rfl ha0.out 30 Tre0 HZ2.out rfl ?_))
  try rw [hW3]
  clear hW3
  have T3 := Lib.hid (T1'.out.below B3.out (Nat.le_refl _))
  have G3 := Lib.hid (Glob.below G1.out B3.out (by omega))
  have BW3 := Lib.hid (B1.out.trans (B3.out.mono hw1))
  have hw3 := B3.out.size
  have hw23 := R3.out.lt
  have hN1 : T1.N = 0 := N1.out
  go_upto_region 7 with (first
    | (with_reducible refine build_s z HZ.out rfl rfl ?_)
    | (go_at_call 11; refine (tPut_any _ _ _ T1 [] z G3.out T3.out I1.out HZO.out (by omega) hz3).mono ?_; rintro e w4 ⟨T2, rfl, ht4, hi4, hn4, hb4, hk4⟩; rw [HP1.out] at hi4; have R4 := Lib.hid (R3.out.kst hk4 (by unfold St; decide)); have T4 := Lib.hid ht4; have I4 := Lib.hid hi4; have B4 := Lib.hid hb4; clear ht4 hi4 hn4 hb4 hk4)
    | (go_at_call 13; refine (Sum_good _ _ _ T2 [z] (.slice none 0 0) [] T4.out I4.out (Shows.nil _ _) rfl).mono ?_; rw [HS1.out]; rintro e w5 ⟨rfl, hb5⟩; obtain ⟨hz5, W6, hW6, hr6, hb6⟩ := boxS w5 s1 ha1.out; have hw5 := hb5.size; have HZ5 := Lib.hid hz5; have R6 := Lib.hid hr6; have B6 := Lib.hid (hb5.trans (hb6.mono hw5)); clear hb5 hr6 hb6 hz5)
    | (with_reducible refine store_sum rfl (.tmp 4) (.tmp 20) rfl w5.heap.size rfl s1 rfl ha1.out 30 Tre0 HZ5.out rfl ?_))
  try rw [hW6]
  clear hW6
  have R46 := Lib.hid (R4.out.below B6.out R4.out.lt)
  have hra : Hid (W6.rangeAt w2.heap.size 0 (bytes s0)) := fun k v hv => by rw [Nat.zero_add, R46.out.cell]; exact hv
  have hrb : Hid (W6.rangeAt w5.heap.size 0 (bytes s1)) := fun k v hv => by rw [Nat.zero_add, R6.out.cell]; exact hv
  have hw4 := B4.out
  have hww4 : w.heap.size ≤ w4.heap.size := by have := R4.out.lt; omega
  have BW6 := Lib.hid (BW3.out.trans (B4.out.trans (B6.out.mono hww4)))
  clear hw4
  go_wp2_with (first
    | (with_reducible refine load_sum_g (by with_unfolding_all rfl) (.tmp 2) rfl w2.heap.size 0 rfl s0 ha0.out hra.out ?_)
    | (with_reducible refine load_sum_g (by with_unfolding_all rfl) (.tmp 4) rfl w5.heap.size 0 rfl s1 ha1.out hrb.out ?_)
    | (refine eql_sum_g (by with_unfolding_all rfl) (.tmp 27) (.tmp 28) rfl s0 Tre.nought rfl rfl ha0.out nought_len _ HR0.out ?_)
    | (refine neq_sum_g (by with_unfolding_all rfl) (.tmp 32) (.tmp 33) rfl s1 s0 rfl rfl ha1.out ha0.out _ HNE.out ?_)
    | (go_at_call 12; refine (Paths_any _).mono ?_; rintro e w7 ⟨v7, rfl, hp7, hb7⟩; obtain ⟨a7, c7, hv7⟩ := hp7.len; subst hv7; have B7 := Lib.hid hb7; have hl7 : (psTo 3).length = 21 := (by decide); clear hp7 hb7))
  go_ret
  exact ⟨rfl, BW6.out.trans (B7.out.mono (by have := BW6.out.size; omega))⟩
end Go.Proofs.YtnhkbbladifmmaaDoor
