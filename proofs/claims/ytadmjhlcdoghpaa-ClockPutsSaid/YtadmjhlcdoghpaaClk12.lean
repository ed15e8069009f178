/- Clocks: Put that is refused; the document's Put. -/
import Derived.Test.YtadmjhlcdoghpaaClk5
import Derived.Test.YtadmjhlcdoghpaaPfxRef
namespace Go.Proofs.Ytadmjhlcdoghpaa
set_option linter.unusedVariables false
set_option linter.unusedSimpArgs false
set_option linter.unnecessarySimpa false
open Go.RowKit
set_option maxRecDepth 100000
set_option maxHeartbeats 4000000

theorem encs_take_le (A : List Int) (hA : A.length = 8) (n : Nat) (hn : n ≤ 8) (h : ∀ j, j < n → 0 ≤ A.getD j 0 ∧ A.getD j 0 < 4611686018427387904) : (encs (A.take n)).length ≤ 64 := by
  refine Nat.le_trans (encs_length _ ?_) (by simp [hA]; omega)
  intro x hx
  obtain ⟨k, hk, rfl⟩ := List.mem_iff_getElem.1 hx
  have hk2 : k < n := by simp [hA] at hk; omega
  have := h k hk2
  simp only [List.getElem_take]
  simpa [List.getD, List.getElem?_eq_getElem (show k < A.length by omega)] using this.2
theorem putC_no (v : Value) (l : List UInt8) (A : List Int) (hA : A.length = 8) (k : Nat) (hk : k < 8) (h0 : ∀ j, j < k → 0 ≤ A.getD j 0 ∧ A.getD j 0 < 4611686018427387904) (hbad : 4611686018427387904 ≤ A.getD k 0) (w : World) (h : Sh w v l) (hl : l.length + 200 ≤ 140737488355328) :
    Calls Try.prog 17 #[v, clockV A] w fun e w' => ∃ v', e = .returned (.tuple #[v', .int .i64 1]) ∧ Sh w' v' l ∧ Below w.heap.size w w' := by
  have HA := Lib.hid hA
  have H0 := Lib.hid h0
  have H := Lib.hid h
  have HBd := Lib.hid hbad
  clear hA h0 h hbad
  unfold clockV
  go_enter Try.func17, Try.ntmps17
  go_upto_region 1 with fail
  obtain ⟨W, hW, R0, Hb, -⟩ := pre1 A w
  rw [hW]
  clear hW
  simp only [clockV_eq]
  have hsz := Hb.out.size
  go_wp2_with (first
    | (go_at_call 20; refine (clone_any v l W (H.out.below Hb.out) (by omega)).mono ?_; rintro e w1 ⟨v1, rfl, ho1, hb1⟩; have r1 : Arr w1 w.heap.size 24 .u64 A := Row.keep R0.out hb1)
    | (with_reducible refine load_clock rfl (.tmp 3) rfl _ rfl A HA.out r1 ?_))
  have O1 := Lib.hid ho1.sh
  have B1 := Lib.hid (bthen Hb.out hb1 (Nat.le_refl _))
  clear ho1 hb1 r1
  go_loopw [6, 7, 15] (fun bi nu i wr => ∃ j : Nat, j ≤ k ∧ i = .int .i64 j ∧ bi = .int .u8 (bitsTo A j) ∧ Sh wr nu (encs (A.take j)) ∧ Sh wr v1 l ∧ Below w.heap.size w wr) (fun _ _ i _ => 8 - (intOf i).toNat)
  case atStart => exact ⟨0, by omega, rfl, rfl, Sh.nil _, O1.out, B1.out⟩
  case round =>
    clear O1 B1
    obtain ⟨j, hj, rfl, rfl, hnu, ho, hb⟩ := hrel
    have HN := Lib.hid hnu
    have HO := Lib.hid ho
    have HB := Lib.hid hb
    have hel := encs_take_le A HA.out j (by omega) (fun i hi => H0.out i (by omega))
    have HE := Lib.hid hel
    clear hnu ho hb hel
    have hlt : j < 8 := by omega
    have hi := index_clock A HA.out j hlt
    by_cases hjk : j < k
    · have hx := H0.out j hjk
      have HT := Lib.hid (encs_take A j (by rw [HA.out]; exact hlt))
      have HBT := Lib.hid (show bitsTo A (j + 1) = if A.getD j 0 = 0 then bitsTo A j else bits .or .u8 (bitsTo A j) (2 ^ j % 256) from rfl)
      generalize A.getD j 0 = x at *
      by_cases hz : x = 0
      · subst hz
        go_wp2_with fail
        refine ⟨⟨j + 1, by omega, by go_num, by rw [HBT.out]; simp, by rw [HT.out]; simpa using HN.out, HO.out, HB.out⟩, by simp [intOf]; omega⟩
      · go_wp2_with (go_at_call 21; refine (Put_any _ _ x _ HN.out (by have := HE.out; omega) hx.1 hx.2).mono ?_; rintro e w2 ⟨v2, rfl, ho2, hb2⟩)
        refine ⟨⟨j + 1, by omega, by go_num, by rw [HBT.out, if_neg hz], by rw [HT.out, if_neg hz]; exact ho2.sh, HO.out.below hb2, bthen HB.out hb2 (Nat.le_refl _)⟩, by simp [intOf]; omega⟩
    · obtain rfl : j = k := by omega
      have hx := HBd.out
      generalize A.getD j 0 = x at *
      have hz : ¬ x = 0 := by omega
      have HX := Lib.hid hx
      clear hx
      go_wp2_with (go_at_call 21; refine (Put_no _ _ x _ HN.out (by have := HE.out; omega) HX.out).mono ?_; rintro e w2 ⟨v2, rfl, ho2, hb2⟩)
      go_ret2
      exact ⟨_, rfl, HO.out.below hb2, bthen HB.out hb2 (Nat.le_refl _)⟩

/-- The document's bits, from the top. -/
def rbS (A : List Int) : Nat → Int
  | 0 => 0
  | m + 1 => rbS A m * 2 + (if A.getD (7 - m) 0 = 0 then 0 else 1)
theorem rbS_eq (A : List Int) : rbS A 8 = gA A := by
  unfold gA
  simp only [rbS, g8, decide_eq_true_eq]
theorem rbS_in (A : List Int) : ∀ m, m ≤ 8 → 0 ≤ rbS A m ∧ rbS A m ≤ 2 ^ m - 1
  | 0, _ => by simp [rbS]
  | m + 1, h => by
    have := rbS_in A m (by omega)
    have e : (2 : Int) ^ (m + 1) = 2 ^ m * 2 := by rw [Int.pow_succ]
    unfold rbS
    rw [e]
    split <;> omega
theorem refPutC_any (v : Value) (l : List UInt8) (A : List Int) (hA : A.length = 8) (h0 : ∀ j, j < 8 → 0 ≤ A.getD j 0 ∧ A.getD j 0 < 4611686018427387904) (w : World) (h : Sh w v l) (hl : l.length + 200 ≤ 140737488355328) :
    Calls Try.prog 18 #[v, clockV A] w fun e w' => ∃ v', e = .returned (.tuple #[v', .int .i64 0]) ∧ Sh w' v' (l ++ putC A) ∧ Below w.heap.size w w' := by
  have HA := Lib.hid hA
  have H0 := Lib.hid h0
  have H := Lib.hid h
  clear hA h0 h
  unfold clockV
  go_enter Try.func18, Try.ntmps18
  go_upto_region 1 with fail
  obtain ⟨W, hW, R0, Hb, -⟩ := pre1 A w
  rw [hW]
  clear hW
  simp only [clockV_eq]
  go_wp2_with fail
  have R1 := Lib.hid (Arr.alloc R0.out (.cells #[] 5))
  have B1 := Lib.hid (Hb.out.alloc Hb.out.size (.cells #[] 5))
  have N1 := Lib.hid (show Sh (W.alloc (.cells #[] 5)) (.slice (some ⟨W.heap.size, 0, none⟩) 0 0) [] from (Own.lit W 5 []).sh)
  generalize (W.alloc (.cells #[] 5)) = U at *
  go_loopw [6, 8] (fun bi i wr => ∃ m : Nat, m ≤ 8 ∧ i = .int .i64 (7 - (m : Int)) ∧ bi = .int .i64 (rbS A m) ∧ wr = U) (fun _ i _ => (intOf i + 1).toNat)
  case atStart => exact ⟨0, by omega, rfl, rfl, rfl⟩
  case round =>
    obtain ⟨m, hm, rfl, rfl, rfl⟩ := hrel
    by_cases hlt : m < 8
    · have hc := R1.out.cell (7 - m) (by rw [HA.out]; omega)
      have hv : (7 : Int) - (m : Int) = ((7 - m : Nat) : Int) := by omega
      have hin := rbS_in A m (by omega)
      have hpw : (2 : Int) ^ m ≤ 2 ^ 7 := by
        have : (2 : Nat) ^ m ≤ 2 ^ 7 := Nat.pow_le_pow_right (by omega) (by omega)
        exact_mod_cast this
      have HR := Lib.hid (show rbS A (m + 1) = rbS A m * 2 + (if A.getD (7 - m) 0 = 0 then 0 else 1) from rfl)
      have hx0 := (fun j hj => (H0.out j hj).1) (7 - m) (by omega)
      have hb1 : 0 ≤ rbS A m := hin.1
      have hb2 : rbS A m ≤ 127 := by have := hin.2; omega
      clear hin hpw
      rw [hv]
      have h7 : 7 - m < 8 := by omega
      have HV := Lib.hid hv
      clear hv
      generalize rbS A m = bb at *
      generalize A.getD (7 - m) 0 = x at *
      generalize hq : 7 - m = q at *
      have HQ := Lib.hid hq
      clear hq
      by_cases hz : x = 0
      · subst hz
        go_wp2_with fail
        exact ⟨⟨m + 1, by omega, by have := HQ.out; congr 1; all_goals omega, by rw [HR.out]; simp, by trivial⟩, by have := HQ.out; simp [intOf] <;> omega⟩
      · have hx1 : 0 < x := by omega
        go_wp2_with fail
        exact ⟨⟨m + 1, by omega, by have := HQ.out; congr 1; all_goals omega, by rw [HR.out, if_neg hz], by trivial⟩, by have := HQ.out; simp [intOf] <;> omega⟩
    · obtain rfl : m = 8 := by omega
      rw [rbS_eq]
      have h78 : (7 : Int) - ((8 : Nat) : Int) = -1 := by decide
      rw [h78]
      clear h78
      have hbi := gA_in A
      go_wp2_with fail
      go_loopw [7, 9] (fun nu i w' => ∃ j : Nat, j ≤ 8 ∧ i = .int .i64 j ∧ Sh w' nu (encs (A.take j)) ∧ Arr w' w.heap.size 24 .u64 A ∧ Below w.heap.size w w') (fun _ i _ => 8 - (intOf i).toNat)
      case atStart => exact ⟨0, by omega, rfl, N1.out, R1.out, B1.out⟩
      case round =>
        obtain ⟨j, hj, rfl, hnu, hr, hb⟩ := hrel
        have HN := Lib.hid hnu
        have HB := Lib.hid hb
        have HR := Lib.hid hr
        have HE := Lib.hid (encs_take_le A HA.out j hj (fun i hi => H0.out i (by omega)))
        clear hnu hb hr
        by_cases hlt8 : j < 8
        · have hc := HR.out.cell j (by rw [HA.out]; exact hlt8)
          have hx := H0.out j hlt8
          have HT := Lib.hid (encs_take A j (by rw [HA.out]; exact hlt8))
          generalize A.getD j 0 = x at *
          obtain ⟨N, rfl⟩ : ∃ N : Nat, x = (N : Int) := ⟨x.toNat, by omega⟩
          have hNl : N < 4611686018427387904 := by omega
          by_cases hz : N = 0
          · subst hz
            go_wp2_with fail
            go_roundw
            case rel => exact ⟨j + 1, by omega, by go_num, by rw [HT.out]; simpa using HN.out, HR.out, HB.out⟩
            case measure => simp [intOf]; omega
          · have hNI : 0 < (N : Int) := by omega
            have hNI2 : ¬ 4611686018427387903 < (N : Int) := by omega
            clear hx
            go_wp2_with (go_at_call 22; refine (refPut_any _ _ N _ HN.out (by have := HE.out; omega) hNl).mono ?_; rintro e w2 ⟨v2, rfl, ho2, hb2⟩)
            exact ⟨⟨j + 1, by omega, by go_num, by rw [HT.out, if_neg (by omega)]; simpa using ho2.sh, Arr.keep HR.out hb2, bthen HB.out hb2 (Nat.le_refl _)⟩, by simp [intOf]; omega⟩
        · obtain rfl : j = 8 := by omega
          have hN8 := HN.out
          rw [List.take_of_length_le (by rw [HA.out]; omega)] at hN8
          have hE8 := HE.out
          rw [List.take_of_length_le (by rw [HA.out]; omega)] at hE8
          have HN2 := Lib.hid hN8
          have HPC := Lib.hid (show putC A = ofI (gA A) :: encs A from rfl)
          have hsw := HB.out.size
          clear hN8 HN
          generalize gA A = G at *
          generalize encs A = E at *
          have hu8 : IntKind.u8.wrap G = G := IntWalk.u8_in _ ⟨by omega, by omega⟩
          have b0 (wz : World) : Below wz.heap.size wz (wz.alloc (.cells #[] 5)) := balloc (Below.refl _ _) _
          have HX := Lib.hid (fun wx (h : Below w.heap.size w wx) => H.out.at' (h.alloc h.size (.cells #[] 5)) (Nat.le_refl _))
          go_wp2_with (first
            | (at_builtin; refine app_bytes Try.underlying31 info_byte rfl (.tmp 46) (.tmp 47) rfl (l := []) rfl (Own.lit _ 5 []) rfl (HX.out _ HB.out) (by simp; omega) (by simp) ?_; intro v3 w3 ho3 hb3; have O3 := Lib.hid ho3; have s3 := hb3.size; clear ho3)
            | (at_builtin; refine app_bytes Try.underlying31 info_byte rfl (.tmp 48) (.tmp 51) rfl rfl (O3.out.alloc _) rfl (sh1 hbi) (by simp; omega) (by simp at s3 ⊢; omega) ?_; intro v4 w4 ho4 hb4; have O4 := Lib.hid ho4; have s4 := hb4.size; have b4 := (((b0 _).trans hb3).alloc (by simp at s3; omega) _).trans hb4; clear ho4)
            | (at_builtin; refine app_bytes Try.underlying31 info_byte rfl (.tmp 52) (.tmp 53) rfl rfl O4.out rfl (HN2.out.at' b4 (Nat.le_refl _)) (by simp; omega) (by have := b4.size; omega) ?_; intro v5 w5 ho5 hb5))
          go_ret2
          refine ⟨v5, rfl, ?_, HB.out.trans ((b4.trans hb5).mono hsw)⟩
          rw [HPC.out]
          simpa using ho5.sh
theorem refPutC_no (v : Value) (l : List UInt8) (A : List Int) (hA : A.length = 8) (hp : ∀ j, j < 8 → 0 ≤ A.getD j 0) (k : Nat) (hk : k < 8) (h0 : ∀ j, j < k → 0 ≤ A.getD j 0 ∧ A.getD j 0 < 4611686018427387904) (hbad : 4611686018427387904 ≤ A.getD k 0) (w : World) (h : Sh w v l) (hl : l.length + 200 ≤ 140737488355328) :
    Calls Try.prog 18 #[v, clockV A] w fun e w' => ∃ v', e = .returned (.tuple #[v', .int .i64 1]) ∧ Sh w' v' l ∧ Below w.heap.size w w' := by
  have HA := Lib.hid hA
  have H0 := Lib.hid h0
  have HP0 := Lib.hid hp
  have HBd := Lib.hid hbad
  have H := Lib.hid h
  clear hA h0 h hp hbad
  unfold clockV
  go_enter Try.func18, Try.ntmps18
  go_upto_region 1 with fail
  obtain ⟨W, hW, R0, Hb, -⟩ := pre1 A w
  rw [hW]
  clear hW
  simp only [clockV_eq]
  go_wp2_with fail
  have R1 := Lib.hid (Arr.alloc R0.out (.cells #[] 5))
  have B1 := Lib.hid (Hb.out.alloc Hb.out.size (.cells #[] 5))
  have N1 := Lib.hid (show Sh (W.alloc (.cells #[] 5)) (.slice (some ⟨W.heap.size, 0, none⟩) 0 0) [] from (Own.lit W 5 []).sh)
  generalize (W.alloc (.cells #[] 5)) = U at *
  go_loopw [6, 8] (fun bi i wr => ∃ m : Nat, m ≤ 8 ∧ i = .int .i64 (7 - (m : Int)) ∧ bi = .int .i64 (rbS A m) ∧ wr = U) (fun _ i _ => (intOf i + 1).toNat)
  case atStart => exact ⟨0, by omega, rfl, rfl, rfl⟩
  case round =>
    obtain ⟨m, hm, rfl, rfl, rfl⟩ := hrel
    by_cases hlt : m < 8
    · have hc := R1.out.cell (7 - m) (by rw [HA.out]; omega)
      have hv : (7 : Int) - (m : Int) = ((7 - m : Nat) : Int) := by omega
      have hin := rbS_in A m (by omega)
      have hpw : (2 : Int) ^ m ≤ 2 ^ 7 := by
        have : (2 : Nat) ^ m ≤ 2 ^ 7 := Nat.pow_le_pow_right (by omega) (by omega)
        exact_mod_cast this
      have HR := Lib.hid (show rbS A (m + 1) = rbS A m * 2 + (if A.getD (7 - m) 0 = 0 then 0 else 1) from rfl)
      have hx0 := HP0.out (7 - m) (by omega)
      have hb1 : 0 ≤ rbS A m := hin.1
      have hb2 : rbS A m ≤ 127 := by have := hin.2; omega
      clear hin hpw
      rw [hv]
      have h7 : 7 - m < 8 := by omega
      have HV := Lib.hid hv
      clear hv
      generalize rbS A m = bb at *
      generalize A.getD (7 - m) 0 = x at *
      generalize hq : 7 - m = q at *
      have HQ := Lib.hid hq
      clear hq
      by_cases hz : x = 0
      · subst hz
        go_wp2_with fail
        exact ⟨⟨m + 1, by omega, by have := HQ.out; congr 1; all_goals omega, by rw [HR.out]; simp, by trivial⟩, by have := HQ.out; simp [intOf] <;> omega⟩
      · have hx1 : 0 < x := by omega
        go_wp2_with fail
        exact ⟨⟨m + 1, by omega, by have := HQ.out; congr 1; all_goals omega, by rw [HR.out, if_neg hz], by trivial⟩, by have := HQ.out; simp [intOf] <;> omega⟩
    · obtain rfl : m = 8 := by omega
      rw [rbS_eq]
      have h78 : (7 : Int) - ((8 : Nat) : Int) = -1 := by decide
      rw [h78]
      clear h78
      have hbi := gA_in A
      go_wp2_with fail
      go_loopw [7, 9] (fun nu i w' => ∃ j : Nat, j ≤ k ∧ i = .int .i64 j ∧ Sh w' nu (encs (A.take j)) ∧ Arr w' w.heap.size 24 .u64 A ∧ Below w.heap.size w w') (fun _ i _ => 8 - (intOf i).toNat)
      case atStart => exact ⟨0, by omega, rfl, N1.out, R1.out, B1.out⟩
      case round =>
        obtain ⟨j, hj, rfl, hnu, hr, hb⟩ := hrel
        have HN := Lib.hid hnu
        have HB := Lib.hid hb
        have HR := Lib.hid hr
        have HE := Lib.hid (encs_take_le A HA.out j (by omega) (fun i hi => H0.out i (by omega)))
        clear hnu hb hr
        have hlt8 : j < 8 := by omega
        by_cases hjk : j < k
        · have hc := HR.out.cell j (by rw [HA.out]; exact hlt8)
          have hx := H0.out j hjk
          have HT := Lib.hid (encs_take A j (by rw [HA.out]; exact hlt8))
          generalize A.getD j 0 = x at *
          obtain ⟨N, rfl⟩ : ∃ N : Nat, x = (N : Int) := ⟨x.toNat, by omega⟩
          have hNl : N < 4611686018427387904 := by omega
          by_cases hz : N = 0
          · subst hz
            go_wp2_with fail
            go_roundw
            case rel => exact ⟨j + 1, by omega, by go_num, by rw [HT.out]; simpa using HN.out, HR.out, HB.out⟩
            case measure => simp [intOf]; omega
          · have hNI : 0 < (N : Int) := by omega
            have hNI2 : ¬ 4611686018427387903 < (N : Int) := by omega
            clear hx
            go_wp2_with (go_at_call 22; refine (refPut_any _ _ N _ HN.out (by have := HE.out; omega) hNl).mono ?_; rintro e w2 ⟨v2, rfl, ho2, hb2⟩)
            exact ⟨⟨j + 1, by omega, by go_num, by rw [HT.out, if_neg (by omega)]; simpa using ho2.sh, Arr.keep HR.out hb2, bthen HB.out hb2 (Nat.le_refl _)⟩, by simp [intOf]; omega⟩
        · obtain rfl : j = k := by omega
          have hc := HR.out.cell j (by rw [HA.out]; exact hlt8)
          have hx := HBd.out
          generalize A.getD j 0 = x at *
          have hxx : 4611686018427387903 < x := by omega
          have b0 (wz : World) : Below wz.heap.size wz (wz.alloc (.cells #[] 5)) := balloc (Below.refl _ _) _
          have HX := Lib.hid (fun wx (h : Below w.heap.size w wx) => H.out.at' (h.alloc h.size (.cells #[] 5)) (Nat.le_refl _))
          have hsw := HB.out.size
          go_wp2_with (at_builtin; refine app_bytes Try.underlying31 info_byte rfl (.tmp 31) (.tmp 32) rfl (l := []) rfl (Own.lit _ 5 []) rfl (HX.out _ HB.out) (by simp; omega) (by simp) ?_; intro v3 w3 ho3 hb3)
          go_ret2
          exact ⟨v3, rfl, by simpa using ho3.sh, HB.out.trans (((b0 _).trans hb3).mono hsw)⟩
end Go.Proofs.Ytadmjhlcdoghpaa
