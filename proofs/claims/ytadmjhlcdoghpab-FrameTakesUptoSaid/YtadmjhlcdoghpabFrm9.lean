/- Frames: the law FrameTakes. -/
import Derived.Test.YtadmjhlcdoghpabFrm8
namespace Go.Proofs.Ytadmjhlcdoghpab
set_option linter.unusedVariables false
set_option linter.unusedSimpArgs false
set_option linter.unnecessarySimpa false
open Go.RowKit
set_option maxRecDepth 100000
set_option maxHeartbeats 4000000

theorem FrameTakes_ok (v : Value) (l : List UInt8) (w : World) (h : Sh w v l) (hl : l.length ≤ 1048576) (he : (tkF l).2.2 = 0) :
    Calls Try.prog 7 #[v] w fun e w' => e = .returned (.bool true) ∧ Below w.heap.size w w' := by
  have hr : tkFRest l = l.drop (tkF l).2.1 := by unfold tkFRest; rw [if_pos he]
  have hf := tkF_facts l he
  obtain ⟨a, cap, rfl, g1, g2, g3, g4⟩ := h.open
  have HT := Lib.hid (show ((tkF l).2.2 : Int) = 0 by rw [he]; rfl)
  have HR := Lib.hid hr
  have H := Lib.hid g4
  have hk : (tkF l).2.1 ≤ l.length := hf.2.1
  have hkI : ((tkF l).2.1 : Int) ≤ (l.length : Int) := by omega
  have hkC : ((tkF l).2.1 : Int) ≤ (cap : Int) := by omega
  clear h hr hf g3 g4 he
  go_enter Try.func7, Try.ntmps7
  go_wp2_with fail
  refine (own_any _ l _ H.out (by omega)).mono ?_; rintro e1 w1 ⟨v1, rfl, ho1, hb1⟩
  have s1 := hb1.size
  go_wp2_with fail
  refine (Take2_any v1 l _ ho1.sh (by omega)).mono ?_; rw [HT.out, HR.out]; rintro e2 w2 ⟨v2, v3, rfl, hs2, hs3, hb2⟩
  have hb02 := bthen hb1 hb2 (Nat.le_refl _)
  have s2 := hb02.size
  go_wp2_with fail
  refine (refTakef_any _ l _ (H.out.below hb02)).mono ?_; rw [HT.out]; rintro e3 w3 ⟨v4, rfl, ho4, hb3⟩
  have hb03 := bthen hb02 hb3 (Nat.le_refl _)
  have s3 := hb03.size
  have hc2 : ∀ nq, (convert 22 9 v2).run Try.prog (w3.drewN nq) = .ok (.string ⟨(tkF l).1.toArray⟩) (w3.drewN nq) := fun nq => conv_run ((hs2.below hb3).drewN nq)
  have hc3 : ∀ nq, (convert 22 9 v3).run Try.prog (w3.drewN nq) = .ok (.string ⟨(l.drop (tkF l).2.1).toArray⟩) (w3.drewN nq) := fun nq => conv_run ((hs3.below hb3).drewN nq)
  have hc4 : ∀ nq, (convert 22 9 v4).run Try.prog (w3.drewN nq) = .ok (.string ⟨(tkF l).1.toArray⟩) (w3.drewN nq) := fun nq => conv_run (ho4.sh.drewN nq)
  have hcs : ∀ nq, (convert 22 9 (.slice (if cap = (tkF l).2.1 then a else a.map (·.add (tkF l).2.1)) (l.length - (tkF l).2.1) (cap - (tkF l).2.1))).run Try.prog (w3.drewN nq) = .ok (.string ⟨(l.drop (tkF l).2.1).toArray⟩) (w3.drewN nq) :=
    fun nq => conv_run (((H.out.below hb03).drop (tkF l).2.1 hk).drewN nq)
  clear hs2 hs3 ho4 ho1
  go_wp2_with fail
  go_quiet (fail)
  clear hc2 hc3 hc4 hcs
  generalize (if cap = (tkF l).2.1 then a else Option.map (fun x => x.add (tkF l).2.1) a) = z
  have hb3q : Below w.heap.size w (w3.drewN nq) := hb03.trans ((drewN_below w3 nq).mono s3)
  have s3q := hb3q.size
  generalize w3.drewN nq = w3q at *
  clear hb3 hb2 hb1
  go_wp2_with fail
  refine (own_any _ l _ (H.out.below hb3q) (by omega)).mono ?_; rintro e5 w5 ⟨v5, rfl, ho5, hb5⟩
  have hb05 := bthen hb3q hb5 (Nat.le_refl _)
  go_wp2_with fail
  refine (Scan_any v5 l _ ho5.sh (by omega)).mono ?_; rintro e6 w6 ⟨v6, rfl, hs6, hb6⟩
  have hb06 := bthen hb05 hb6 (Nat.le_refl _)
  go_wp2_with fail
  refine (refScan_any _ l _ (H.out.below hb06) (by omega)).mono ?_; rintro e7 w7 ⟨v7, rfl, hs7, hb7⟩
  have hb07 := bthen hb06 hb7 (Nat.le_refl _)
  have hs67 := hs6.below hb7
  clear hs6
  go_wp2_with fail
  refine (Same_any v6 v7 _ _ hs67 hs7).mono ?_; rintro e8 w8 ⟨rfl, hb8⟩
  have hb08 := bthen hb07 hb8 (Nat.le_refl _)
  go_wp2_with (go_at_call 13; refine (lives05 _).mono ?_; rintro e9 w9 ⟨rfl, hb9⟩)
  go_ret
  exact ⟨rfl, bthen hb08 hb9 (Nat.le_refl _)⟩
theorem FrameTakes_err (v : Value) (l : List UInt8) (w : World) (h : Sh w v l) (hl : l.length ≤ 1048576) (he : (tkF l).2.2 ≠ 0) :
    Calls Try.prog 7 #[v] w fun e w' => e = .returned (.bool true) ∧ Below w.heap.size w w' := by
  have hr : tkFRest l = [] := by unfold tkFRest; rw [if_neg he]
  obtain ⟨a, cap, rfl, g1, g2, g3, g4⟩ := h.open
  have heI : (((tkF l).2.2 : Int) != 0) = true := by rw [bne_iff_ne]; omega
  have heE : (((tkF l).2.2 : Int) == 0) = false := by rw [beq_eq_false_iff_ne]; omega
  have HR := Lib.hid hr
  have H := Lib.hid g4
  clear h hr g3 g4 he
  go_enter Try.func7, Try.ntmps7
  go_wp2_with fail
  refine (own_any _ l _ H.out (by omega)).mono ?_; rintro e1 w1 ⟨v1, rfl, ho1, hb1⟩
  have s1 := hb1.size
  go_wp2_with fail
  refine (Take2_any v1 l _ ho1.sh (by omega)).mono ?_; rw [HR.out]; rintro e2 w2 ⟨v2, v3, rfl, hs2, hs3, hb2⟩; obtain ⟨x3, c3, rfl, -⟩ := hs3.open; rw [List.length_nil]
  have hb02 := bthen hb1 hb2 (Nat.le_refl _)
  have s2 := hb02.size
  go_wp2_with fail
  refine (refTakef_any _ l _ (H.out.below hb02)).mono ?_; rintro e3 w3 ⟨v4, rfl, ho4, hb3⟩
  have hb03 := bthen hb02 hb3 (Nat.le_refl _)
  have s3 := hb03.size
  have hc2 : ∀ nq, (convert 22 9 v2).run Try.prog (w3.drewN nq) = .ok (.string ⟨(tkF l).1.toArray⟩) (w3.drewN nq) := fun nq => conv_run ((hs2.below hb3).drewN nq)
  have hc4 : ∀ nq, (convert 22 9 v4).run Try.prog (w3.drewN nq) = .ok (.string ⟨(tkF l).1.toArray⟩) (w3.drewN nq) := fun nq => conv_run (ho4.sh.drewN nq)
  clear hs2 hs3 ho4 ho1
  go_wp2_with fail
  go_quiet (fail)
  clear hc2 hc4
  have hb3q : Below w.heap.size w (w3.drewN nq) := hb03.trans ((drewN_below w3 nq).mono s3)
  have s3q := hb3q.size
  generalize w3.drewN nq = w3q at *
  clear hb3 hb2 hb1
  go_wp2_with fail
  refine (own_any _ l _ (H.out.below hb3q) (by omega)).mono ?_; rintro e5 w5 ⟨v5, rfl, ho5, hb5⟩
  have hb05 := bthen hb3q hb5 (Nat.le_refl _)
  go_wp2_with fail
  refine (Scan_any v5 l _ ho5.sh (by omega)).mono ?_; rintro e6 w6 ⟨v6, rfl, hs6, hb6⟩
  have hb06 := bthen hb05 hb6 (Nat.le_refl _)
  go_wp2_with fail
  refine (refScan_any _ l _ (H.out.below hb06) (by omega)).mono ?_; rintro e7 w7 ⟨v7, rfl, hs7, hb7⟩
  have hb07 := bthen hb06 hb7 (Nat.le_refl _)
  have hs67 := hs6.below hb7
  clear hs6
  go_wp2_with fail
  refine (Same_any v6 v7 _ _ hs67 hs7).mono ?_; rintro e8 w8 ⟨rfl, hb8⟩
  have hb08 := bthen hb07 hb8 (Nat.le_refl _)
  go_wp2_with (go_at_call 13; refine (lives05 _).mono ?_; rintro e9 w9 ⟨rfl, hb9⟩)
  go_ret
  exact ⟨rfl, bthen hb08 hb9 (Nat.le_refl _)⟩
theorem FrameTakes_walk (v : Value) (l : List UInt8) (w : World) (h : Sh w v l) (hl : l.length ≤ 1048576) :
    Calls Try.prog 7 #[v] w fun e w' => e = .returned (.bool true) ∧ Below w.heap.size w w' := by
  by_cases he : (tkF l).2.2 = 0
  · exact FrameTakes_ok v l w h hl he
  · exact FrameTakes_err v l w h hl he
end Go.Proofs.Ytadmjhlcdoghpab
