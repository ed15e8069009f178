/- Clocks: Order, Tick and the reference's Merge, Order. -/
import Derived.Test.YtadmjhlcdoghpaaClk2
namespace Go.Proofs.Ytadmjhlcdoghpaa
set_option linter.unusedVariables false
set_option linter.unusedSimpArgs false
set_option linter.unnecessarySimpa false
open Go.RowKit
set_option maxRecDepth 100000
set_option maxHeartbeats 2000000

/-- How two stand: is the one below somewhere, is the other? -/
def ordB (p q : Bool) : Int := match p, q with | false, false => 0 | true, false => 1 | false, true => 2 | true, true => 3
def ord (A B : List Int) : Int := ordB (less A B 8) (less B A 8)

theorem order_any (A B : List Int) (hA : A.length = 8) (hB : B.length = 8) (w : World) :
    Calls Try.prog 10 #[clockV A, clockV B] w fun e w' => e = .returned (.int .i64 (ord A B)) ∧ Below w.heap.size w w' := by
  have HA := Lib.hid hA
  have HB := Lib.hid hB
  clear hA hB
  unfold clockV
  go_enter Try.func10, Try.ntmps10
  go_upto_region 1 with fail
  obtain ⟨W, hW, R0, R1, Hb, -⟩ := pre2 A B w
  rw [hW]
  clear hW
  simp only [clockV_eq]
  go_wp2_with (with_reducible refine load_clock rfl (.tmp 2) rfl _ rfl A HA.out R0.out ?_)
  go_loopw [5, 9] (fun o i wr => ∃ j : Nat, j ≤ 8 ∧ i = .int .i64 j ∧ o = .int .i64 (ordB (less A B j) (less B A j)) ∧ wr = W) (fun _ i _ => 8 - (intOf i).toNat)
  case atStart => exact ⟨0, by omega, rfl, rfl, rfl⟩
  case round =>
    obtain ⟨j, hj, rfl, rfl, rfl⟩ := hrel
    by_cases hlt : j < 8
    · have hd := R1.out.cell j (by have := HB.out; omega)
      have hi := index_clock A HA.out j hlt
      have hs := less_succ A B j
      have ht := less_succ B A j
      have HS := Lib.hid hs
      have HT := Lib.hid ht
      clear hs ht
      generalize A.getD j 0 = x at *
      generalize B.getD j 0 = y at *
      generalize less A B j = p at *
      generalize less B A j = q at *
      by_cases hxy : x < y
      · have hyx : ¬ y < x := by omega
        have h1 : less A B (j + 1) = true := by rw [HS.out, decide_eq_true hxy]; simp
        have h2 : less B A (j + 1) = q := by rw [HT.out, decide_eq_false hyx]; simp
        have H1 := Lib.hid h1
        have H2 := Lib.hid h2
        clear h1 h2
        cases p <;> cases q
        all_goals
          simp only [ordB]
          go_wp2_with fail
          go_roundw
          case rel => exact ⟨j + 1, by omega, by go_num, by rw [H1.out, H2.out]; rfl, by trivial⟩
          case measure => simp [intOf]; omega
      · have h1 : less A B (j + 1) = p := by rw [HS.out, decide_eq_false hxy]; simp
        have H1 := Lib.hid h1
        clear h1
        by_cases hyx : y < x
        · have h2 : less B A (j + 1) = true := by rw [HT.out, decide_eq_true hyx]; simp
          have H2 := Lib.hid h2
          clear h2
          cases p <;> cases q
          all_goals
            simp only [ordB]
            go_wp2_with fail
            go_roundw
            case rel => exact ⟨j + 1, by omega, by go_num, by rw [H1.out, H2.out]; rfl, by trivial⟩
            case measure => simp [intOf]; omega
        · have h2 : less B A (j + 1) = q := by rw [HT.out, decide_eq_false hyx]; simp
          have H2 := Lib.hid h2
          clear h2
          obtain rfl : x = y := by omega
          go_wp2_with fail
          go_roundw
          case rel => exact ⟨j + 1, by omega, by go_num, by rw [H1.out, H2.out], by trivial⟩
          case measure => simp [intOf]; omega
    · obtain rfl : j = 8 := by omega
      go_wp2_with fail
      go_ret
      exact ⟨rfl, Hb.out⟩

/-! ### a clock goes on -/
theorem tick_arg (A : List Int) (hA : A.length = 8) (i : Int) (hi : i < 0 ∨ 7 < i) (w : World) :
    Calls Try.prog 12 #[clockV A, .int .i64 i] w fun e w' => e = .returned (.tuple #[clockV A, .int .i64 1]) ∧ Below w.heap.size w w' := by
  have HA := Lib.hid hA
  clear hA
  unfold clockV
  go_enter Try.func12, Try.ntmps12
  go_upto_region 1 with fail
  obtain ⟨W, hW, R0, R1, Hb, -⟩ := preAZ A w
  rw [hW]
  clear hW
  simp only [clockV_eq]
  by_cases h0 : i < 0
  · clear hi
    go_wp2_with (first
        | (with_reducible refine load_clock rfl (.tmp 2) rfl _ rfl A HA.out R0.out ?_)
        | (with_reducible refine store_clock rfl (.tmp 4) (.tmp 13) rfl _ rfl A rfl HA.out _ zeros R1.out rfl ?_))
    exact ret_clock2 rfl rfl _ rfl _ A (Row.setRow R1.out _) HA.out ⟨rfl, bsetRow Hb.out (by omega) _⟩
  · have h8 : 8 ≤ i := by omega
    clear hi
    go_wp2_with (first
        | (with_reducible refine load_clock rfl (.tmp 2) rfl _ rfl A HA.out R0.out ?_)
        | (with_reducible refine store_clock rfl (.tmp 4) (.tmp 13) rfl _ rfl A rfl HA.out _ zeros R1.out rfl ?_))
    exact ret_clock2 rfl rfl _ rfl _ A (Row.setRow R1.out _) HA.out ⟨rfl, bsetRow Hb.out (by omega) _⟩
theorem tick_full (A : List Int) (hA : A.length = 8) (j : Nat) (hj : j < 8) (hf : 4611686018427387903 ≤ A.getD j 0) (w : World) :
    Calls Try.prog 12 #[clockV A, .int .i64 (j : Int)] w fun e w' => e = .returned (.tuple #[clockV A, .int .i64 8]) ∧ Below w.heap.size w w' := by
  have HA := Lib.hid hA
  have HF := Lib.hid hf
  clear hA hf
  unfold clockV
  go_enter Try.func12, Try.ntmps12
  go_upto_region 1 with fail
  obtain ⟨W, hW, R0, R1, Hb, -⟩ := preAZ A w
  rw [hW]
  clear hW
  simp only [clockV_eq]
  have hj0 : ¬ (j : Int) < 0 := by omega
  have hc := R0.out.cell j (by rw [HA.out]; exact hj)
  have hx := HF.out
  clear HF
  generalize A.getD j 0 = x at *
  go_wp2_with (first
      | (with_reducible refine load_clock rfl (.tmp 2) rfl _ rfl A HA.out R0.out ?_)
      | (with_reducible refine store_clock rfl (.tmp 4) (.tmp 19) rfl _ rfl A rfl HA.out _ zeros R1.out rfl ?_))
  exact ret_clock2 rfl rfl _ rfl _ A (Row.setRow R1.out _) HA.out ⟨rfl, bsetRow Hb.out (by omega) _⟩
theorem tick_ok (A : List Int) (hA : A.length = 8) (j : Nat) (hj : j < 8) (x : Int) (hc0 : A.getD j 0 = x) (hf : x < 4611686018427387903) (h0 : 0 ≤ x) (D : List Int) (hD : A.set j (x + 1) = D) (w : World) :
    Calls Try.prog 12 #[clockV A, .int .i64 (j : Int)] w fun e w' => e = .returned (.tuple #[clockV D, .int .i64 0]) ∧ Below w.heap.size w w' := by
  have HA := Lib.hid hA
  have hu : IntKind.u64.wrap (x + 1) = x + 1 := IntWalk.u64_in _ ⟨by omega, by omega⟩
  have hx : ¬ 4611686018427387903 ≤ x := by omega
  have hl : D.length = 8 := by rw [← hD, List.length_set]; exact hA
  have HC := Lib.hid hc0
  have HD := Lib.hid hD
  clear hA hf h0 hc0 hD
  unfold clockV
  go_enter Try.func12, Try.ntmps12
  go_upto_region 1 with fail
  obtain ⟨W, hW, R0, R1, Hb, -⟩ := preAZ A w
  rw [hW]
  clear hW
  simp only [clockV_eq]
  have hj0 : ¬ (j : Int) < 0 := by omega
  have hc := R0.out.cell j (by rw [HA.out]; exact hj)
  rw [HC.out] at hc
  have hfz := R0.out.frozen j
  have r2 := R0.out.set j (x + 1)
  rw [HD.out] at r2
  have r3 : Arr (W.setCell ⟨w.heap.size, j, none⟩ (.int .u64 (x + 1))) (w.heap.size + 1) 24 .u64 zeros := Row.set_other (p := ⟨w.heap.size, j, none⟩) R1.out (by simp) (.int .u64 (x + 1))
  have R2 := Lib.hid r2
  have R3 := Lib.hid r3
  have HL := Lib.hid hl
  clear r2 r3 hl
  go_wp2_with (first
      | (with_reducible refine load_clock rfl (.tmp 2) rfl _ rfl D HL.out R2.out ?_)
      | (with_reducible refine store_clock rfl (.tmp 4) (.tmp 25) rfl _ rfl D rfl HL.out _ zeros R3.out rfl ?_))
  exact ret_clock2 rfl rfl _ rfl _ D (Row.setRow R3.out _) HL.out ⟨rfl, bsetRow (bset Hb.out (Nat.le_refl _) _) (by omega) _⟩

/-! ### the reference -/
theorem build_zero : ((Try.prog.built 24 []).isSome = true) ∧ (Try.prog.built 24 []).getD #[] = (nums .u64 zeros).toArray := by
  have h : Try.prog.built 24 [] = some #[.int .u64 0, .int .u64 0, .int .u64 0, .int .u64 0, .int .u64 0, .int .u64 0, .int .u64 0, .int .u64 0] := by kernel_rfl
  rw [h]; exact ⟨rfl, rfl⟩
theorem build_clock {w : World} {ops : Array Oper} {rest : List Oper} {o : Oper} {a : Act} {Q : Exit → Act → World → Prop} (hgd : o.guard = none) (ho : o.op = .build 24 #[])
    (h : wpList Try.prog ops Q rest (a.put o.dst (clockV zeros)) w) : wpList Try.prog ops Q (o :: rest) a w := by
  refine wpList_build hgd 24 #[] ho (by simpa using build_zero.1) ?_
  have := build_zero.2
  simp only [List.map_toArray, List.map_nil] at this ⊢
  rw [this]
  exact h
/-- The first j of M, then Z's. -/
def pto (M Z : List Int) (j : Nat) : List Int := M.take j ++ Z.drop j
theorem pto_length (M Z : List Int) (hM : M.length = 8) (hZ : Z.length = 8) (j : Nat) (hj : j ≤ 8) : (pto M Z j).length = 8 := by simp [pto, hM, hZ]; omega
theorem pto_all (M Z : List Int) (hM : M.length = 8) (hZ : Z.length = 8) : pto M Z 8 = M := by
  unfold pto
  rw [List.take_of_length_le (by omega), List.drop_of_length_le (by omega), List.append_nil]
theorem pto_set (M Z : List Int) (hM : M.length = 8) (hZ : Z.length = 8) (j : Nat) (hj : j < 8) : (pto M Z j).set j (M.getD j 0) = pto M Z (j + 1) := by
  unfold pto
  rw [List.set_append_right _ _ (by simp [hM]; omega)]
  have h1 : Z.drop j = Z.getD j 0 :: Z.drop (j + 1) := by rw [List.drop_eq_getElem_cons (by omega)]; simp [List.getD, List.getElem?_eq_getElem (show j < Z.length by omega)]
  have h2 : M.take (j + 1) = M.take j ++ [M.getD j 0] := by
    rw [List.take_add_one, List.getElem?_eq_getElem (by omega)]
    simp [List.getD, List.getElem?_eq_getElem (show j < M.length by omega)]
  rw [h1, h2]
  simp [hM, show min j 8 = j by omega]
theorem pto_get (M Z : List Int) (hM : M.length = 8) (hZ : Z.length = 8) (j : Nat) (hj : j < 8) : (pto M Z j).getD j 0 = Z.getD j 0 := by
  unfold pto
  simp only [List.getD]
  rw [List.getElem?_append_right (by simp [hM]; omega)]
  simp [hM, show min j 8 = j by omega]
theorem merged_get (A B : List Int) (hA : A.length = 8) (hB : B.length = 8) (j : Nat) (hj : j < 8) : (merged A B).getD j 0 = max (A.getD j 0) (B.getD j 0) := by
  have h : j < (List.zipWith max A B).length := by simp [hA, hB]; omega
  simp only [merged, List.getD]
  rw [List.getElem?_eq_getElem h, List.getElem?_eq_getElem (show j < A.length by omega), List.getElem?_eq_getElem (show j < B.length by omega)]
  simp
theorem refMerge_any (A B : List Int) (hA : A.length = 8) (hB : B.length = 8) (w : World) :
    Calls Try.prog 13 #[clockV A, clockV B] w fun e w' => e = .returned (clockV (merged A B)) ∧ Below w.heap.size w w' := by
  have HA := Lib.hid hA
  have HB := Lib.hid hB
  clear hA hB
  unfold clockV
  go_enter Try.func13, Try.ntmps13
  go_upto_region 1 with fail
  obtain ⟨W, hW, R0, R1, R2, Hb, Hz⟩ := pre3 A B w
  rw [hW]
  clear hW
  simp only [clockV_eq]
  obtain ⟨W2, hW2, T2, Hb2, -⟩ := preZ W
  go_wp2_with (first
    | (with_reducible refine build_clock rfl rfl ?_)
    | (with_reducible refine store_clock rfl (.tmp 5) (.tmp 7) rfl _ rfl zeros rfl rfl _ zeros T2.out rfl ?_))
  have s0 : Arr (W2.setRow W.heap.size (nums .u64 zeros).toArray) w.heap.size 24 .u64 A := Row.setRow_other (Row.keep R0.out Hb2.out) (by have := R0.out.lt; omega) _
  have s1 : Arr (W2.setRow W.heap.size (nums .u64 zeros).toArray) (w.heap.size + 1) 24 .u64 B := Row.setRow_other (Row.keep R1.out Hb2.out) (by have := R1.out.lt; omega) _
  have s2 : Arr (W2.setRow W.heap.size (nums .u64 zeros).toArray) (w.heap.size + 1 + 1) 24 .u64 zeros := Row.setRow_other (Row.keep R2.out Hb2.out) (by have := R2.out.lt; omega) _
  have s3 : Arr (W2.setRow W.heap.size (nums .u64 zeros).toArray) W.heap.size 24 .u64 zeros := Row.setRow T2.out _
  have sb : Below w.heap.size w (W2.setRow W.heap.size (nums .u64 zeros).toArray) := bsetRow (bthen Hb.out Hb2.out (Nat.le_refl _)) Hb.out.size _
  have S0 := Lib.hid s0
  have S1 := Lib.hid s1
  have S2 := Lib.hid s2
  have S3 := Lib.hid s3
  have SB := Lib.hid sb
  clear s0 s1 s2 s3 sb hW2 R0 R1 R2 T2 Hb Hb2
  have hz0 := Hz.out
  generalize W2.setRow W.heap.size (nums .u64 zeros).toArray = W3 at *
  generalize W.heap.size = g at *
  subst hz0
  clear Hz
  go_loopw [6] (fun i wr => ∃ j : Nat, j ≤ 8 ∧ i = .int .i64 j ∧ Arr wr w.heap.size 24 .u64 A ∧ Arr wr (w.heap.size + 1) 24 .u64 B ∧ Arr wr (w.heap.size + 1 + 1) 24 .u64 zeros ∧ Arr wr (w.heap.size + 1 + 1 + 1) 24 .u64 (pto (merged A B) zeros j) ∧ Below w.heap.size w wr) (fun i _ => 8 - (intOf i).toNat)
  case atStart => exact ⟨0, by omega, rfl, S0.out, S1.out, S2.out, S3.out, SB.out⟩
  case round =>
    clear S0 S1 S2 S3 SB
    obtain ⟨j, hj, rfl, s0, s1, s2, s3, sb⟩ := hrel
    have S0 := Lib.hid s0
    have S1 := Lib.hid s1
    have S2 := Lib.hid s2
    have S3 := Lib.hid s3
    have SB := Lib.hid sb
    clear s0 s1 s2 s3 sb
    by_cases hlt : j < 8
    · have hc := S0.out.cell j (by rw [HA.out]; exact hlt)
      have hf := S3.out.frozen j
      have hl : (merged A B).length = 8 := by simp [merged, HA.out, HB.out]
      have HS := Lib.hid (pto_set (merged A B) zeros hl rfl j hlt)
      have HM := Lib.hid (merged_get A B HA.out HB.out j hlt)
      have hplen : (pto (merged A B) zeros j).length = 8 := pto_length _ _ hl rfl j hj
      have HP := Lib.hid hplen
      have u3' := S3.out.set j (A.getD j 0)
      have ho := S3.out.cell j (by rw [HP.out]; exact hlt)
      have hq := u3'.cell j (by rw [List.length_set, HP.out]; exact hlt)
      have hg := u3'.frozen j
      generalize (pto (merged A B) zeros j).getD j 0 = z at ho
      generalize ((pto (merged A B) zeros j).set j (A.getD j 0)).getD j 0 = z' at hq
      have HP := 0
      clear HP
      have u0 := Row.set_other (p := ⟨w.heap.size + 1 + 1 + 1, j, none⟩) S0.out (by simp; omega) (.int .u64 (A.getD j 0))
      have u1 := Row.set_other (p := ⟨w.heap.size + 1 + 1 + 1, j, none⟩) S1.out (by simp) (.int .u64 (A.getD j 0))
      have u2 := Row.set_other (p := ⟨w.heap.size + 1 + 1 + 1, j, none⟩) S2.out (by simp) (.int .u64 (A.getD j 0))
      have u3 := S3.out.set j (A.getD j 0)
      have ub := bset (j := j) SB.out (g := w.heap.size + 1 + 1 + 1) (by omega) (.int .u64 (A.getD j 0))
      have hd0 := Row.cell u0 j
      rw [nums_get .u64 A j (by rw [HA.out]; exact hlt)] at hd0
      have hd1 := Row.cell u1 j
      rw [nums_get .u64 B j (by rw [HB.out]; exact hlt)] at hd1
      have U0 := Lib.hid u0
      have U1 := Lib.hid u1
      have U2 := Lib.hid u2
      have U3 := Lib.hid u3
      have UB := Lib.hid ub
      clear u0 u1 u2 u3 u3' ub hl hplen
      generalize A.getD j 0 = x at *
      generalize B.getD j 0 = y at *
      by_cases hxy : x < y
      · have hm : (merged A B).getD j 0 = y := by rw [HM.out]; omega
        have HMy := Lib.hid hm
        clear hm
        go_wp2_with fail
        go_quiet (fail)
        go_wp2_with fail
        have v3 := Arr.set (w := (wr.setCell ⟨w.heap.size + 1 + 1 + 1, j, none⟩ (.int .u64 x)).drewN nq) U3.out j y
        rw [List.set_set, ← HMy.out, HS.out, HMy.out] at v3
        refine ⟨⟨j + 1, by omega, by go_num, Row.set_other (w := (wr.setCell ⟨w.heap.size + 1 + 1 + 1, j, none⟩ (.int .u64 x)).drewN nq) U0.out (by simp; omega) _, Row.set_other (w := (wr.setCell ⟨w.heap.size + 1 + 1 + 1, j, none⟩ (.int .u64 x)).drewN nq) U1.out (by simp) _, Row.set_other (w := (wr.setCell ⟨w.heap.size + 1 + 1 + 1, j, none⟩ (.int .u64 x)).drewN nq) U2.out (by simp) _, v3, bset (UB.out.trans ((drewN_below _ nq).mono UB.out.size)) (by omega) _⟩, by simp [intOf]; omega⟩
      · have hm : (merged A B).getD j 0 = x := by rw [HM.out]; omega
        have HMy := Lib.hid hm
        clear hm
        go_wp2_with fail
        go_quiet (fail)
        go_wp2_with fail
        have v3 := U3.out
        rw [← HMy.out, HS.out, HMy.out] at v3
        refine ⟨⟨j + 1, by omega, by go_num, Row.drewN U0.out nq, Row.drewN U1.out nq, Row.drewN U2.out nq, Row.drewN v3 nq, UB.out.trans ((drewN_below _ nq).mono UB.out.size)⟩, by simp [intOf]; omega⟩
    · obtain rfl : j = 8 := by omega
      have hl : (merged A B).length = 8 := by simp [merged, HA.out, HB.out]
      have HL := Lib.hid hl
      clear hl
      have hp := S3.out
      rw [pto_all _ _ HL.out rfl] at hp
      go_wp2_with (first
        | (with_reducible refine load_clock rfl (.tmp 5) rfl _ rfl (merged A B) HL.out hp ?_)
        | (with_reducible refine store_clock rfl (.tmp 4) (.tmp 29) rfl _ rfl (merged A B) rfl HL.out _ zeros S2.out rfl ?_))
      exact ret_clock rfl rfl _ rfl _ (merged A B) (Row.setRow S2.out _) HL.out ⟨rfl, bsetRow SB.out (by omega) _⟩
end Go.Proofs.Ytadmjhlcdoghpaa
