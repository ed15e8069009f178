/- The document's tree (ref21): Good; ref07.Ints; the law's before, on. -/
import Derived.Test.YticabllkadpmeaaGreatDoorTre3
import Derived.Laws.Tables
import Derived.ChangeKeysEq
import Derived.OrdersHeld
import Derived.Deep.RegionHeld
namespace Go.Proofs.YticabllkadpmeaaGreatDoor
set_option linter.unusedVariables false
set_option linter.unusedSimpArgs false
set_option linter.unnecessarySimpa false
open Go.RowKit
open Tre (It)
set_option maxRecDepth 100000
set_option maxHeartbeats 4000000

theorem rgood_any (v : Value) (P : List Int) (w : World) (hs : Ns w v P) :
    Calls Tryz.prog 17 #[v] w fun e w' => e = .returned (.bool (goodP P)) ∧ w' = w := by
  obtain ⟨xa, ca, rfl, hc1, hc2, -, -⟩ := hs.open
  have HS := Lib.hid hs
  clear hs
  go_enter Tryz.func17, Tryz.ntmps17
  go_wp2_with fail
  go_loopw [3] (fun iv wr => ∃ j : Nat, j ≤ P.length ∧ iv = .int .i64 j ∧ (∀ k, k < j → badN (P.getD k 0) = false) ∧ wr = w) (fun iv _ => P.length - (intOf iv).toNat)
  case atStart => exact ⟨0, Nat.zero_le _, rfl, (fun k hk => by omega), rfl⟩
  case round =>
    obtain ⟨j, hj, rfl, h1, hw⟩ := hrel
    have H1 := Lib.hid h1
    subst hw
    clear h1
    by_cases hlt : j < P.length
    · have hltI : (j : Int) < (P.length : Int) := by omega
      obtain ⟨b, off, rfl, hat⟩ := HS.out.at (by omega)
      have hc := hat j hlt
      obtain ⟨n, hn⟩ : ∃ n, P.getD j 0 = n := ⟨_, rfl⟩
      rw [hn] at hc
      have HN := Lib.hid hn
      clear hat hn
      have hgo : badN n = true → Hid (goodP P = false) := fun hb => by
        show _ = _
        unfold goodP
        have : P.any badN = true := by
          rw [List.any_eq_true]
          refine ⟨P[j], List.getElem_mem hlt, ?_⟩
          have := HN.out
          simp [List.getD, List.getElem?_eq_getElem hlt] at this
          rw [this]; exact hb
        simp [this]
      by_cases h0 : n < 0
      · have HG := hgo (by simp [badN, h0])
        clear hgo
        go_wp2_with fail
        go_ret
        exact ⟨by rw [HG.out]; rfl, rfl⟩
      · by_cases h3 : 3 < n
        · have HG := hgo (by simp [badN]; omega)
          clear hgo
          go_wp2_with fail
          go_ret
          exact ⟨by rw [HG.out]; rfl, rfl⟩
        · have HB : Hid (badN n = false) := by show _ = _; simp [badN]; omega
          clear hgo
          go_wp2_with fail
          refine ⟨⟨j + 1, by omega, by go_num, fun k hk => ?_, by trivial⟩, by simp [intOf]; omega⟩
          rcases Nat.lt_or_ge k j with h | h
          · exact H1.out k h
          · rw [show k = j by omega, HN.out]; exact HB.out
    · have hjl : j = P.length := by omega
      have hnI : ¬ (j : Int) < (P.length : Int) := by omega
      have HG : Hid (goodP P = decide ((P.length : Int) ≤ 2)) := by
        show _ = _
        have : P.any badN = false := by
          rw [List.any_eq_false]
          intro x hx
          obtain ⟨k, hk, rfl⟩ := List.mem_iff_getElem.1 hx
          have := H1.out k (by omega)
          simpa [List.getD, List.getElem?_eq_getElem hk] using this
        unfold goodP
        rw [this]
        simp
        omega
      clear hjl hlt hj
      go_wp2_with fail
      go_ret
      exact ⟨by rw [HG.out]; rfl, rfl⟩
theorem ints_any (v u : Value) (P Q : List Int) (w : World) (hs : Ns w v P) (hu : Ns w u Q) :
    Calls Tryz.prog 8 #[v, u] w fun e w' => e = .returned (.bool (P == Q)) ∧ Below w.heap.size w w' := by
  obtain ⟨xa, ca, rfl, hc1, hc2, -, -⟩ := hs.open
  obtain ⟨xb, cb, rfl, hd1, hd2, -, -⟩ := hu.open
  have HS := Lib.hid hs
  have HU := Lib.hid hu
  clear hs hu
  go_enter Tryz.func8, Tryz.ntmps8
  by_cases hl : P.length = Q.length
  · have hlI : (P.length : Int) = (Q.length : Int) := by omega
    have hlb : ((P.length : Int) != (Q.length : Int)) = false := by rw [bne_eq_false_iff_eq]; exact hlI
    have HLL := Lib.hid hl
    rw [← hl] at HU ⊢
    have hlb2 : ((P.length : Int) != (P.length : Int)) = false := by simp
    clear hlI hlb hl
    go_wp2_with fail
    go_loopw [5] (fun iv wr => ∃ j : Nat, j ≤ P.length ∧ iv = .int .i64 j ∧ (∀ k, k < j → P.getD k 0 = Q.getD k 0) ∧ Below w.heap.size w wr) (fun iv _ => P.length - (intOf iv).toNat)
    case atStart => exact ⟨0, Nat.zero_le _, rfl, (fun k hk => by omega), Below.refl _ _⟩
    case round =>
      obtain ⟨j, hj, rfl, h1, hb⟩ := hrel
      have H1 := Lib.hid h1
      have HB := Lib.hid hb
      clear h1 hb
      by_cases hlt : j < P.length
      · have hltI : (j : Int) < (P.length : Int) := by omega
        obtain ⟨b, off, rfl, hat⟩ := HS.out.at (by omega)
        obtain ⟨b2, off2, rfl, hat2⟩ := HU.out.at (by have := HLL.out; omega)
        have hc := bkeep HB.out (hat j hlt)
        have hd := bkeep HB.out (hat2 j (by have := HLL.out; omega))
        obtain ⟨m, hm⟩ : ∃ m, P.getD j 0 = m := ⟨_, rfl⟩
        obtain ⟨n, hn⟩ : ∃ n, Q.getD j 0 = n := ⟨_, rfl⟩
        rw [hm] at hc
        rw [hn] at hd
        have HM := Lib.hid hm
        have HN := Lib.hid hn
        clear hat hat2 hm hn
        by_cases he : m = n
        · have hnb : (m != n) = false := by rw [bne_eq_false_iff_eq]; exact he
          have HE := Lib.hid he
          clear he
          go_upto_region 6 with fail
          go_region
          go_wp2_with fail
          refine ⟨⟨j + 1, by omega, by go_num, fun k hk => ?_, HB.out.drew⟩, by simp [intOf]; omega⟩
          rcases Nat.lt_or_ge k j with h | h
          · exact H1.out k h
          · rw [show k = j by omega, HM.out, HN.out]; exact HE.out
        · have hnb : (m != n) = true := by rw [bne_iff_ne]; exact he
          have HE : Hid ((P == Q) = false) := by
            show _ = _
            rw [beq_eq_false_iff_ne]
            intro e
            apply he
            rw [← HM.out, ← HN.out, e]
          clear he
          go_upto_region 6 with fail
          go_region
          go_wp2_with fail
          go_ret
          exact ⟨by rw [HE.out]; rfl, HB.out.drew⟩
      · have hjl : j = P.length := by omega
        have hnI : ¬ (j : Int) < (P.length : Int) := by omega
        have HE : Hid ((P == Q) = true) := by
          show _ = _
          rw [beq_iff_eq]
          apply List.ext_getElem HLL.out
          intro k h1 h2
          have := H1.out k (by omega)
          simpa [List.getD, List.getElem?_eq_getElem h1, List.getElem?_eq_getElem h2] using this
        clear hjl hlt hj
        go_wp2_with fail
        go_ret
        exact ⟨by rw [HE.out]; rfl, HB.out⟩
  · have hlb : ((P.length : Int) != (Q.length : Int)) = true := by rw [bne_iff_ne]; omega
    have HE : Hid ((P == Q) = false) := by
      show _ = _
      rw [beq_eq_false_iff_ne]
      intro e; apply hl; rw [e]
    clear hl
    go_wp2_with fail
    go_ret
    exact ⟨by rw [HE.out]; rfl, Below.refl _ _⟩
end Go.Proofs.YticabllkadpmeaaGreatDoor
namespace Go.Proofs.YticabllkadpmeaaGreatDoor
set_option linter.unusedVariables false
set_option linter.unusedSimpArgs false
set_option linter.unnecessarySimpa false
open Go.RowKit
open Tre (It)
set_option maxRecDepth 100000
set_option maxHeartbeats 4000000

section
variable {P : Program}
theorem run_eqItems_nums {e : TypeId} {k : IntKind} (he : P.underlying e = some (.int k)) (hs : (P.info? e).map (·.size) = some 1) (A B : List Int) (n : Nat) (hA : A.length = n) (hB : B.length = n) (d : Nat) (m : Nat) :
    ∀ (s : Nat) (w : World), s + m = n → (Op.eqItems (d + 1) e (P.cellsOf e) (nums k A).toArray (nums k B).toArray (List.range' s m)).run P w = .ok (A.drop s == B.drop s) w := by
  have hagg : ∀ w, (isAgg e).run P w = .ok false w := by intro w; simp [isAgg, run_underlying he]
  obtain ⟨i, hi, h1⟩ : ∃ i, P.info? e = some i ∧ i.size = 1 := by
    cases hi : P.info? e with
    | none => simp [hi] at hs
    | some i => exact ⟨i, rfl, by simpa [hi] using hs⟩
  have hc : P.cellsOf e = 1 := by simp [Program.cellsOf, hi, h1]
  induction m with
  | zero =>
    intro s w h
    rw [List.drop_of_length_le (by omega), List.drop_of_length_le (by omega)]
    simp [Op.eqItems]
  | succ m ih =>
    intro s w h
    have ga := nums_get k A s (by omega)
    have gb := nums_get k B s (by omega)
    have hda : A.drop s = A.getD s 0 :: A.drop (s + 1) := by rw [List.drop_eq_getElem_cons (by omega)]; simp [List.getD, List.getElem?_eq_getElem (show s < A.length by omega)]
    have hdb : B.drop s = B.getD s 0 :: B.drop (s + 1) := by rw [List.drop_eq_getElem_cons (by omega)]; simp [List.getD, List.getElem?_eq_getElem (show s < B.length by omega)]
    have hih := ih (s + 1) w (by omega)
    rw [hc] at hih
    rw [hc, List.range'_succ, hda, hdb]
    simp only [Op.eqItems, Sem.run_bind, part, hagg, Result.andThen_ok, Nat.mul_one]
    simp [ga, gb, Op.equalIn, run_underlying he, hih]
    generalize A[s]?.getD 0 = x
    generalize B[s]?.getD 0 = y
    by_cases hxy : x = y
    · simp [hxy]
    · simp [hxy]
end
def intsOf (l : List UInt8) : List Int := l.map fun c => (c.toNat : Int)
theorem bytes_nums (l : List UInt8) : bytes l = nums .u8 (intsOf l) := by simp [bytes, nums, intsOf]
theorem intsOf_inj (a b : List UInt8) : (intsOf a == intsOf b) = (a == b) := by
  by_cases h : a = b
  · simp [h]
  · have : intsOf a ≠ intsOf b := fun he => h (by
      refine (List.map_inj_right (fun x y hxy => ?_)).1 he
      simp only [Int.natCast_inj] at hxy
      exact UInt8.toNat_inj.1 hxy)
    rw [beq_eq_false_iff_ne.2 h, beq_eq_false_iff_ne.2 this]
theorem size_u8 : (Tryz.prog.info? 5).map (·.size) = some 1 := by kernel_rfl
theorem eq_sum_d (d : Nat) (a b : List UInt8) (ha : a.length = 32) (hb : b.length = 32) (w : World) : (Op.equalIn (d + 2) 36 (sumV a) (sumV b)).run Tryz.prog w = .ok (a == b) w := by
  obtain ⟨i, hi⟩ : ∃ i, Tryz.prog.info? 5 = some i := by
    have := size_u8
    cases hi : Tryz.prog.info? 5 with
    | none => simp [hi] at this
    | some i => exact ⟨i, rfl⟩
  have h1 := run_equalIn_array w (d + 1) (bytes a).toArray (bytes b).toArray Tryz.underlying36 hi
  have h2 := run_eqItems_nums Tryz.underlying5 size_u8 (intsOf a) (intsOf b) 32 (by simp [intsOf, ha]) (by simp [intsOf, hb]) d 32 0 w rfl
  unfold sumV
  rw [h1, List.range_eq_range', bytes_nums, bytes_nums, h2]
  simp [intsOf_inj]
theorem eq_sum (a b : List UInt8) (ha : a.length = 32) (hb : b.length = 32) (w : World) : (Op.equalIn 10000 36 (sumV a) (sumV b)).run Tryz.prog w = .ok (a == b) w := eq_sum_d 9998 a b ha hb w
end Go.Proofs.YticabllkadpmeaaGreatDoor
namespace Go.Proofs.YticabllkadpmeaaGreatDoor
set_option linter.unusedVariables false
set_option linter.unusedSimpArgs false
set_option linter.unnecessarySimpa false
open Go.RowKit
open Tre (It)
set_option maxRecDepth 100000
set_option maxHeartbeats 8000000

theorem eqG_sum : Tryz.prog.eqGuardType Tryz.prog.depth 36 = false := by kernel_rfl
theorem exec_neq_sum {ρ : Operand → Value} {o : Oper} (x y : Operand) (ho : o.op = .binOp .neq 36 x y 36) (A B : List UInt8) (hx : ρ x = sumV A) (hy : ρ y = sumV B) (hA : A.length = 32) (hB : B.length = 32) (w : World) :
    (execOp ρ o).run Tryz.prog w = .ok (.value (.bool (!(A == B)))) w := by
  have h1 := run_eqGuard_agg w .neq 36 x y (bytes A).toArray (bytes B).toArray eqG_sum
  have h2 := run_neq_struct (P := Tryz.prog) w 36 (bytes A).toArray (bytes B).toArray
  have h3 := eq_sum A B hA hB w
  unfold sumV at h3 hx hy
  rw [h3] at h2
  unfold execOp
  rw [ho]
  simp only [hx, hy, Sem.run_bind, h1, h2, Result.andThen_ok, Sem.run_pure]
theorem yieldsIf_neq_sum {ops : Array Oper} {S : World → Prop} {o : Oper} {a : Act} (hw : Region.wanted o (yielded ops a.tmps) = true) (x y : Operand) (ho : o.op = .binOp .neq 36 x y 36) (A B : List UInt8) (hx : a.eval x = sumV A) (hy : a.eval y = sumV B) (hA : A.length = 32) (hB : B.length = 32) (b : Bool) (hb : (A == B) = b) :
    YieldsIf Tryz.prog ops S o (.bool (!b)) a := .inl ⟨hw, fun w _ => by rw [exec_neq_sum x y ho A B hx hy hA hB w, hb]⟩
theorem yieldsIf_sum_mid {ops : Array Oper} {S : World → Prop} {o : Oper} {a : Act} (hw : Region.wanted o (yielded ops a.tmps) = true) (x : Operand) (ho : o.op = .load 36 x)
    (b off : Nat) (hx : a.eval x = .pointer (some ⟨b, off, none⟩)) (A : List UInt8) (hA : A.length = 32) (hS : ∀ w, S w → w.rangeAt b off (bytes A)) : YieldsIf Tryz.prog ops S o (sumV A) a :=
  yieldsIf_load_mid hw 36 x ho b off hx (bytes A) _ hS Tryz.underlying36 rfl (by rw [size_sum]; simp [hA])
theorem sms_eq {A B : List (List UInt8)} (h : A.length = B.length) (hj : ∀ k, k < A.length → A.getD k [] = B.getD k []) : A = B := by
  refine List.ext_getElem h fun k h3 h4 => ?_
  have := hj k h3
  simpa [List.getD, List.getElem?_eq_getElem h3, List.getElem?_eq_getElem h4] using this
end Go.Proofs.YticabllkadpmeaaGreatDoor
