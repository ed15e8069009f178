/- Clocks: Least. -/
import Derived.Test.YtadmjhlcdoghpaaClk8
namespace Go.Proofs.Ytadmjhlcdoghpaa
set_option linter.unusedVariables false
set_option linter.unusedSimpArgs false
set_option linter.unnecessarySimpa false
open Go.RowKit
set_option maxRecDepth 100000
set_option maxHeartbeats 4000000

/-- The least of the first k. -/
def least1 (k : Nat) (O A : List Int) : List Int := if k = 0 then A else List.zipWith min O A
def leastTo (L : List (List Int)) : Nat → List Int
  | 0 => zeros
  | k + 1 => least1 k (leastTo L k) (L.getD k [])
theorem leastTo_length (L : List (List Int)) (hL : ∀ A ∈ L, A.length = 8) : ∀ k, k ≤ L.length → (leastTo L k).length = 8
  | 0, _ => rfl
  | k + 1, h => by
    have h1 := leastTo_length L hL k (by omega)
    have h2 := hL _ (getD_mem (L := L) (i := k) (by omega))
    unfold leastTo least1
    split
    · exact h2
    · rw [List.length_zipWith, h1, h2]; rfl
theorem least1_get {O A : List Int} (hO : O.length = 8) (hA : A.length = 8) (k j : Nat) (hj : j < 8) : (least1 k O A).getD j 0 = if k = 0 ∨ A.getD j 0 < O.getD j 0 then A.getD j 0 else O.getD j 0 := by
  unfold least1
  by_cases hk : k = 0
  · simp [hk]
  · have h : j < (List.zipWith min O A).length := by simp [hO, hA]; omega
    rw [if_neg hk]
    simp only [hk, false_or, List.getD]
    rw [List.getElem?_eq_getElem h, List.getElem?_eq_getElem (show j < A.length by omega), List.getElem?_eq_getElem (show j < O.length by omega)]
    simp only [List.getElem_zipWith, Option.getD_some]
    split <;> omega
theorem pto_same (M Z : List Int) (hM : M.length = 8) (hZ : Z.length = 8) (j : Nat) (hj : j < 8) (h : M.getD j 0 = Z.getD j 0) : pto M Z (j + 1) = pto M Z j := by
  have h1 := pto_set M Z hM hZ j hj
  rw [h, ← pto_get M Z hM hZ j hj] at h1
  rw [← h1]
  have hl := pto_length M Z hM hZ j (by omega)
  simp only [List.getD, List.getElem?_eq_getElem (show j < (pto M Z j).length by omega), Option.getD_some, List.set_getElem_self]
theorem At.keep' {w w' : World} {B : Nat} {p : Addr} {A : List Int} (h : At w p A) (hb : Below B w w') (hB : w.heap.size ≤ B) : At w' p A := fun j v hj => bcell hb (h j v hj) (Nat.lt_of_lt_of_le (blt (h j v hj)) hB)
theorem wpList_load_at {w : World} {ops : Array Oper} {rest : List Oper} {o : Oper} {a : Act} {Q : Exit → Act → World → Prop} (hgd : o.guard = none) (x : Operand) (ho : o.op = .load 24 x)
    (p : Addr) (hx : a.eval x = .pointer (some p)) (A : List Int) (hA : A.length = 8) (hc : At w p A) (h : wpList Try.prog ops Q rest (a.put o.dst (clockV A)) w) : wpList Try.prog ops Q (o :: rest) a w :=
  wpList_plain hgd fun _ hK => wp_load_clock_at x ho p hx A hA hc (hK _ _ h)

theorem least_any (lv : Value) (L : List (List Int)) (w : World) (hs : Clocks w lv L) (hL : ∀ A ∈ L, A.length = 8) (hn : L.length ≤ 10000000000000) :
    Calls Try.prog 15 #[lv] w fun e w' => e = .returned (clockV (leastTo L L.length)) ∧ Below w.heap.size w w' := by
  obtain ⟨x, cap, rfl, g1, g2, g3, g4⟩ := Shows.open hs
  have HS := Lib.hid (show Clocks w (.slice x L.length cap) L from g4)
  have HL := Lib.hid hL
  clear hs g3 g4 hL
  go_enter Try.func15, Try.ntmps15
  obtain ⟨W, hW, R0, Hb, Hz⟩ := preZ w
  obtain ⟨V, hV, T0, Tb, -⟩ := preZ W
  rw [Hz.out] at T0
  have HZ0 := Lib.hid (Arr.keep R0.out Tb.out)
  have HZ1 := T0
  have HB := Lib.hid (bthen Hb.out Tb.out (Nat.le_refl _))
  go_upto_region 2 with fail
  rw [Hz.out]
  clear hV hW R0 Hb T0 Tb Hz
  go_wp2_with fail
  go_loopw [10] (fun i wr => ∃ k : Nat, k ≤ L.length ∧ i = .int .i64 k ∧ Arr wr w.heap.size 24 .u64 zeros ∧ Arr wr (w.heap.size + 1) 24 .u64 (leastTo L k) ∧ Below w.heap.size w wr) (fun i _ => L.length - (intOf i).toNat)
  case atStart => exact ⟨0, by omega, rfl, HZ0.out, HZ1.out, HB.out⟩
  case round =>
    clear HZ0 HZ1 HB
    obtain ⟨k, hk, rfl, r0, r1, hb⟩ := hrel
    have hbs := hb.size
    have R0 := Lib.hid r0
    have R1 := Lib.hid r1
    have HB := Lib.hid hb
    clear r0 r1 hb
    by_cases hlt : k < L.length
    · obtain ⟨b, off, rfl, -, hat⟩ := Clocks.at HS.out HL.out (by omega)
      have HAt := Lib.hid (At.keep (hat k hlt) HB.out)
      have HA := Lib.hid (HL.out _ (getD_mem hlt))
      have HO := Lib.hid (leastTo_length L HL.out k hk)
      have HN := Lib.hid (leastTo_length L HL.out (k + 1) hlt)
      have HE := Lib.hid (show leastTo L (k + 1) = least1 k (leastTo L k) (L.getD k []) from rfl)
      have hkI : (k : Int) < (L.length : Int) := by omega
      clear hat
      have hgs := R1.out.lt
      generalize leastTo L k = O at *
      generalize hNN : leastTo L (k + 1) = N at *
      have HNN := Lib.hid hNN
      clear hNN
      generalize L.getD k [] = A at *
      obtain ⟨V2, hV2, T2, Tb2, -⟩ := preZ wr
      go_upto_region 5 with (first
        | (with_reducible refine wpList_load_at rfl (.tmp 13) rfl ⟨b, off + k * 8, none⟩ rfl A HA.out HAt.out ?_)
        | (with_reducible refine store_clock rfl (.tmp 5) (.tmp 14) rfl _ rfl A rfl HA.out _ zeros T2.out rfl ?_))
      have v0 := Arr.setRow_other (Arr.keep R0.out Tb2.out) (by omega : w.heap.size ≠ wr.heap.size) (nums .u64 A).toArray
      have v1 := Arr.setRow_other (Arr.keep R1.out Tb2.out) (by omega : w.heap.size + 1 ≠ wr.heap.size) (nums .u64 A).toArray
      have v2 := Arr.setRow T2.out A
      have vb := bsetRow (bthen HB.out Tb2.out (Nat.le_refl _)) hbs (nums .u64 A).toArray
      clear hV2 T2 Tb2 R0 R1 HB HAt
      try simp only [Act.put]
      generalize V2.setRow wr.heap.size (nums .u64 A).toArray = V at *
      generalize wr.heap.size = g at *
      have S0 := Lib.hid v0
      have S1 := Lib.hid v1
      have SB := Lib.hid vb
      have S2 := Lib.hid v2
      clear v0 v1 v2 vb
      go_wp2_with (with_reducible refine load_clock rfl (.tmp 5) rfl _ rfl A HA.out S2.out ?_)
      clear S2
      go_loopw [16] (fun i wr => ∃ j : Nat, j ≤ 8 ∧ i = .int .i64 j ∧ Arr wr w.heap.size 24 .u64 zeros ∧ Arr wr (w.heap.size + 1) 24 .u64 (pto N O j) ∧ Below w.heap.size w wr) (fun i _ => 8 - (intOf i).toNat)
      case atStart => exact ⟨0, by omega, rfl, S0.out, by simpa [pto] using S1.out, SB.out⟩
      case round =>
        clear S0 S1 SB
        obtain ⟨j, hj, rfl, r0, r1, hb⟩ := hrel
        have hbs := hb.size
        have R0 := Lib.hid r0
        have R1 := Lib.hid r1
        have HB := Lib.hid hb
        clear r0 r1 hb
        by_cases hlt8 : j < 8
        · have hi := index_clock A HA.out j hlt8
          have hc := R1.out.cell j (by rw [pto_length N O HN.out HO.out j hj]; exact hlt8)
          rw [pto_get N O HN.out HO.out j hlt8] at hc
          have hf := R1.out.frozen j
          have hg := least1_get HO.out HA.out k j hlt8
          rw [← HE.out] at hg
          have HG := Lib.hid hg
          have HP := Lib.hid (pto_set N O HN.out HO.out j hlt8)
          have HQ := Lib.hid (pto_same N O HN.out HO.out j hlt8)
          clear hg
          generalize A.getD j 0 = x at *
          generalize O.getD j 0 = y at *
          by_cases hst : k = 0 ∨ x < y
          · have hN : N.getD j 0 = x := by rw [HG.out, if_pos hst]
            have HNx := Lib.hid hN
            clear hN
            have w0 := Arr.set_other (p := ⟨w.heap.size + 1, j, none⟩) R0.out (by simp) (.int .u64 x)
            have w1 := R1.out.set j x
            rw [← HNx.out, HP.out, HNx.out] at w1
            have W0 := Lib.hid w0
            have W1 := Lib.hid w1
            clear w0 w1
            by_cases hk0 : k = 0
            · subst hk0
              clear hst
              go_wp2_with fail
              exact ⟨⟨j + 1, by omega, by go_num, W0.out, W1.out, bset HB.out (by omega) _⟩, by simp [intOf]; omega⟩
            · have hxy : x < y := by omega
              have hkI0 : ¬ (k : Int) = 0 := by omega
              clear hst hk0
              go_wp2_with fail
              exact ⟨⟨j + 1, by omega, by go_num, W0.out, W1.out, bset HB.out (by omega) _⟩, by simp [intOf]; omega⟩
          · have hxy : ¬ x < y := by omega
            have hkI0 : ¬ (k : Int) = 0 := by omega
            have hN : N.getD j 0 = y := by rw [HG.out, if_neg hst]
            have w1 := R1.out
            rw [← HQ.out hN] at w1
            have W1 := Lib.hid w1
            clear hst hN w1
            go_wp2_with fail
            exact ⟨⟨j + 1, by omega, by go_num, R0.out, W1.out, HB.out⟩, by simp [intOf]; omega⟩
        · obtain rfl : j = 8 := by omega
          have w1 := R1.out
          rw [pto_all N O HN.out HO.out] at w1
          go_wp2_with fail
          exact ⟨⟨k + 1, hlt, by go_num, R0.out, by rw [HNN.out]; exact w1, HB.out⟩, by simp [intOf]; omega⟩
    · obtain rfl : k = L.length := by omega
      have HO := Lib.hid (leastTo_length L HL.out L.length hk)
      go_wp2_with (first
        | (with_reducible refine load_clock rfl (.tmp 3) rfl _ rfl _ HO.out R1.out ?_)
        | (with_reducible refine store_clock rfl (.tmp 2) (.tmp 34) rfl _ rfl _ rfl HO.out _ zeros R0.out rfl ?_))
      exact ret_clock rfl rfl _ rfl _ _ (Arr.setRow R0.out _) HO.out ⟨rfl, bsetRow HB.out (Nat.le_refl _) _⟩

theorem refLeast_any (lv : Value) (L : List (List Int)) (w : World) (hs : Clocks w lv L) (hL : ∀ A ∈ L, A.length = 8) (hn : L.length ≤ 10000000000000) :
    Calls Try.prog 16 #[lv] w fun e w' => e = .returned (clockV (leastTo L L.length)) ∧ Below w.heap.size w w' := by
  obtain ⟨x, cap, rfl, g1, g2, g3, g4⟩ := Shows.open hs
  have HS := Lib.hid (show Clocks w (.slice x L.length cap) L from g4)
  have HL := Lib.hid hL
  clear hs g3 g4 hL
  go_enter Try.func16, Try.ntmps16
  obtain ⟨W, hW, R0, Hb, Hz⟩ := preZ w
  go_upto_region 1 with fail
  obtain ⟨V, hV, T0, Tb, -⟩ := preZ W
  rw [Hz.out] at T0
  go_upto_region 2 with (first
    | (with_reducible refine build_clock rfl rfl ?_)
    | (refine store_clock rfl (.tmp 3) (.tmp 6) rfl (w.heap.size + 1) (by rw [← Hz.out]; rfl) zeros rfl rfl _ zeros T0.out rfl ?_))
  rw [Hz.out]
  have HZ0 := Lib.hid (Arr.setRow_other (Arr.keep R0.out Tb.out) (by omega : w.heap.size ≠ w.heap.size + 1) (nums .u64 zeros).toArray)
  have HZ1 := Lib.hid (Arr.setRow T0.out zeros)
  have HB := Lib.hid (bsetRow (bthen Hb.out Tb.out (Nat.le_refl _)) (by omega : w.heap.size ≤ w.heap.size + 1) (nums .u64 zeros).toArray)
  clear hV hW R0 Hb T0 Tb Hz
  try simp only [Act.put]
  generalize V.setRow (w.heap.size + 1) (nums .u64 zeros).toArray = U at *
  go_wp2_with fail
  go_loopw [4] (fun i wr => ∃ k : Nat, k ≤ L.length ∧ i = .int .i64 k ∧ Arr wr w.heap.size 24 .u64 zeros ∧ Arr wr (w.heap.size + 1) 24 .u64 (leastTo L k) ∧ Below w.heap.size w wr) (fun i _ => L.length - (intOf i).toNat)
  case atStart => exact ⟨0, by omega, rfl, HZ0.out, HZ1.out, HB.out⟩
  case round =>
    clear HZ0 HZ1 HB
    obtain ⟨k, hk, rfl, r0, r1, hb⟩ := hrel
    have hbs := hb.size
    have R0 := Lib.hid r0
    have R1 := Lib.hid r1
    have HB := Lib.hid hb
    clear r0 r1 hb
    by_cases hlt : k < L.length
    · obtain ⟨b, off, rfl, -, hat⟩ := Clocks.at HS.out HL.out (by omega)
      have HAt := Lib.hid (hat k hlt)
      have HA := Lib.hid (HL.out _ (getD_mem hlt))
      have HO := Lib.hid (leastTo_length L HL.out k hk)
      have HN := Lib.hid (leastTo_length L HL.out (k + 1) hlt)
      have HE := Lib.hid (show leastTo L (k + 1) = least1 k (leastTo L k) (L.getD k []) from rfl)
      have hkI : (k : Int) < (L.length : Int) := by omega
      clear hat
      generalize leastTo L k = O at *
      generalize hNN : leastTo L (k + 1) = N at *
      have HNN := Lib.hid hNN
      clear hNN
      generalize L.getD k [] = A at *
      go_wp2_with fail
      go_loopw [5] (fun i wr => ∃ j : Nat, j ≤ 8 ∧ i = .int .i64 j ∧ Arr wr w.heap.size 24 .u64 zeros ∧ Arr wr (w.heap.size + 1) 24 .u64 (pto N O j) ∧ Below w.heap.size w wr) (fun i _ => 8 - (intOf i).toNat)
      case atStart => exact ⟨0, by omega, rfl, R0.out, by simpa [pto] using R1.out, HB.out⟩
      case round =>
        clear R0 R1 HB
        obtain ⟨j, hj, rfl, r0, r1, hb⟩ := hrel
        have hbs := hb.size
        have R0 := Lib.hid r0
        have R1 := Lib.hid r1
        have HB := Lib.hid hb
        clear r0 r1 hb
        by_cases hlt8 : j < 8
        · have ha0 := At.keep' HAt.out HB.out (Nat.le_refl _) j _ (nums_get .u64 A j (by rw [HA.out]; exact hlt8))
          rw [Addr.add_lit] at ha0
          have hc0 := R1.out.cell j (by rw [pto_length N O HN.out HO.out j hj]; exact hlt8)
          rw [pto_get N O HN.out HO.out j hlt8] at hc0
          have hf := R1.out.frozen j
          have hg := least1_get HO.out HA.out k j hlt8
          rw [← HE.out] at hg
          have HG := Lib.hid hg
          have HP := Lib.hid (pto_set N O HN.out HO.out j hlt8)
          have HQ := Lib.hid (pto_same N O HN.out HO.out j hlt8)
          clear hg
          generalize A.getD j 0 = x at *
          generalize O.getD j 0 = y at *
          by_cases hst : k = 0 ∨ x < y
          · have hN : N.getD j 0 = x := by rw [HG.out, if_pos hst]
            have HNx := Lib.hid hN
            clear hN
            have w0 := Arr.set_other (p := ⟨w.heap.size + 1, j, none⟩) R0.out (by simp) (.int .u64 x)
            have w1 := R1.out.set j x
            rw [← HNx.out, HP.out, HNx.out] at w1
            have W0 := Lib.hid w0
            have W1 := Lib.hid w1
            clear w0 w1
            by_cases hk0 : k = 0
            · have hkI0 : ((k : Int) == 0) = true := by rw [hk0]; rfl
              clear hst hk0
              go_wp2_with fail
              go_quiet (fail)
              go_wp2_with fail
              have w1 := Arr.set (w := wr.drewN nq) R1.out j x
              rw [← HNx.out, HP.out, HNx.out] at w1
              exact ⟨⟨j + 1, by omega, by go_num, Arr.set_other (w := wr.drewN nq) (p := ⟨w.heap.size + 1, j, none⟩) R0.out (by simp) _, w1, bset (HB.out.trans ((drewN_below _ nq).mono HB.out.size)) (by omega) _⟩, by simp [intOf]; omega⟩
            · have hxy : x < y := by omega
              have hkI0 : ((k : Int) == 0) = false := by rw [beq_eq_false_iff_ne]; omega
              clear hst hk0
              go_wp2_with fail
              go_quiet (fail)
              go_wp2_with fail
              have w1 := Arr.set (w := wr.drewN nq) R1.out j x
              rw [← HNx.out, HP.out, HNx.out] at w1
              exact ⟨⟨j + 1, by omega, by go_num, Arr.set_other (w := wr.drewN nq) (p := ⟨w.heap.size + 1, j, none⟩) R0.out (by simp) _, w1, bset (HB.out.trans ((drewN_below _ nq).mono HB.out.size)) (by omega) _⟩, by simp [intOf]; omega⟩
          · have hxy : ¬ x < y := by omega
            have hkI0 : ((k : Int) == 0) = false := by rw [beq_eq_false_iff_ne]; omega
            have hN : N.getD j 0 = y := by rw [HG.out, if_neg hst]
            have w1 := R1.out
            rw [← HQ.out hN] at w1
            have W1 := Lib.hid w1
            clear hst hN w1
            go_wp2_with fail
            go_quiet (fail)
            go_wp2_with fail
            exact ⟨⟨j + 1, by omega, by go_num, Arr.drewN R0.out nq, Arr.drewN W1.out nq, HB.out.trans ((drewN_below _ nq).mono HB.out.size)⟩, by simp [intOf]; omega⟩
        · obtain rfl : j = 8 := by omega
          have w1 := R1.out
          rw [pto_all N O HN.out HO.out] at w1
          go_wp2_with fail
          exact ⟨⟨k + 1, hlt, by go_num, R0.out, by rw [HNN.out]; exact w1, HB.out⟩, by simp [intOf]; omega⟩
    · obtain rfl : k = L.length := by omega
      have HO := Lib.hid (leastTo_length L HL.out L.length hk)
      go_wp2_with (first
        | (with_reducible refine load_clock rfl (.tmp 3) rfl _ rfl _ HO.out R1.out ?_)
        | (with_reducible refine store_clock rfl (.tmp 2) (.tmp 39) rfl _ rfl _ rfl HO.out _ zeros R0.out rfl ?_))
      exact ret_clock rfl rfl _ rfl _ _ (Arr.setRow R0.out _) HO.out ⟨rfl, bsetRow HB.out (Nat.le_refl _) _⟩
end Go.Proofs.Ytadmjhlcdoghpaa
