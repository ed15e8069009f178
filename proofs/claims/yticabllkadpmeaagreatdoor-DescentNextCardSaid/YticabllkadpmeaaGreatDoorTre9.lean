/- Package tree: join. -/
import Derived.Test.YticabllkadpmeaaGreatDoorTre6
namespace Go.Proofs.YticabllkadpmeaaGreatDoor
set_option linter.unusedVariables false
set_option linter.unusedSimpArgs false
set_option linter.unnecessarySimpa false
open Go.RowKit
open Tre (It)
set_option maxRecDepth 100000
set_option maxHeartbeats 4000000

theorem neq_sum {w : World} {ops : Array Oper} {rest : List Oper} {o : Oper} {a : Act} {Q : Exit → Act → World → Prop} (hgd : o.guard = none) (x y : Operand) (ho : o.op = .binOp .neq 36 x y 36) (A B : List UInt8) (hx : a.eval x = sumV A) (hy : a.eval y = sumV B) (hA : A.length = 32) (hB : B.length = 32) (b : Bool) (hb : (A == B) = b)
    (h : wpList Tryz.prog ops Q rest (a.put o.dst (.bool (!b))) w) : wpList Tryz.prog ops Q (o :: rest) a w :=
  wpList_plain hgd fun K hK => by
    unfold Oper.wp
    rw [exec_neq_sum x y ho A B hx hy hA hB w, hb]
    exact hK _ _ h
theorem nought_len : Tre.nought.length = 32 := by simp [Tre.nought]
theorem join1_any (x : List UInt8) (hx : x.length = 32) (w : World) (b : Bool) (hb : (x == Tre.nought) = b) : Calls Tryz.prog 33 #[.agg (bytes x).toArray] w fun e w' => e = .returned (.bool (!b)) ∧ Below w.heap.size w w' := by
  have hr : (w.alloc (.cells (bytes x).toArray 36)).rangeAt w.heap.size 0 (bytes x) := fun j v hv => by
    rw [Nat.zero_add, Row.cell (Row.new w 36 (bytes x)) j]; exact hv
  have HR := Lib.hid hr
  have HX := Lib.hid hx
  have HB := Lib.hid hb
  clear hr hx hb
  go_enter Tryz.func33, Tryz.ntmps33
  go_wp2_with (first
    | (with_reducible refine load_sum_mid rfl (.tmp 1) rfl w.heap.size 0 rfl x HX.out HR.out ?_)
    | (refine neq_sum rfl (.tmp 3) (.tmp 4) rfl x Tre.nought rfl rfl HX.out nought_len b HB.out ?_))
  go_ret
  exact ⟨rfl, balloc (Below.refl _ _) _⟩
def isN (x : List UInt8) : Bool := x == Tre.nought
def idxS (L : List (List UInt8)) : Int := match L.findIdx? (fun x => !isN x) with | some i => i | none => -1
theorem idxS_eq (L : List (List UInt8)) (j : Nat) (hj : j < L.length) (h1 : ∀ k, k < j → isN (L.getD k []) = true) (h2 : isN (L.getD j []) = false) : idxS L = j := by
  have : L.findIdx? (fun x => !isN x) = some j := by
    rw [List.findIdx?_eq_some_iff_getElem]
    refine ⟨hj, by simpa [List.getD, List.getElem?_eq_getElem hj] using h2, fun k hk => ?_⟩
    have := h1 k hk
    simpa [List.getD, List.getElem?_eq_getElem (show k < L.length by omega)] using this
  unfold idxS; rw [this]
theorem idxS_none (L : List (List UInt8)) (h1 : ∀ k, k < L.length → isN (L.getD k []) = true) : idxS L = -1 := by
  have : L.findIdx? (fun x => !isN x) = none := by
    rw [List.findIdx?_eq_none_iff]
    intro x hx
    obtain ⟨k, hk, rfl⟩ := List.mem_iff_getElem.1 hx
    have := h1 k hk
    simp only [List.getD, List.getElem?_eq_getElem hk, Option.getD_some] at this
    simp [this]
  unfold idxS; rw [this]
theorem idxS_any (L : List (List UInt8)) : decide (0 ≤ idxS L) = !(L.all isN) := by
  unfold idxS
  cases h : L.findIdx? (fun x => !isN x) with
  | some i =>
    obtain ⟨hi, hb, -⟩ := List.findIdx?_eq_some_iff_getElem.1 h
    have : L.all isN = false := by rw [List.all_eq_false]; exact ⟨L[i], List.getElem_mem hi, by simpa using hb⟩
    rw [this]; simp
  | none =>
    have : L.all isN = true := by
      rw [List.all_eq_true]
      intro x hx
      have := List.findIdx?_eq_none_iff.1 h x hx
      simpa using this
    rw [this]; simp
theorem idxs_any (v : Value) (L : List (List UInt8)) (w : World) (hs : Sms w v L) (h32 : L32 L) :
    Calls Tryz.prog 55 #[v, .func (.func 33) #[] #[]] w fun e w' => e = .returned (.int .i64 (idxS L)) ∧ Below w.heap.size w w' := by
  obtain ⟨xa, ca, rfl, hc1, hc2, -, -⟩ := hs.open
  have HS := Lib.hid hs
  have H32 := Lib.hid h32
  clear hs h32
  go_enter Tryz.func55, Tryz.ntmps55
  go_wp2_with fail
  go_loopw [8] (fun iv wr => ∃ j : Nat, j ≤ L.length ∧ iv = .int .i64 j ∧ (∀ k, k < j → isN (L.getD k []) = true) ∧ Below w.heap.size w wr) (fun iv _ => L.length - (intOf iv).toNat)
  case atStart => exact ⟨0, Nat.zero_le _, rfl, (fun k hk => by omega), Below.refl _ _⟩
  case round =>
    obtain ⟨j, hj, rfl, h1, hb⟩ := hrel
    have H1 := Lib.hid h1
    have HB := Lib.hid hb
    clear h1 hb
    by_cases hlt : j < L.length
    · have hltI : (j : Int) < (L.length : Int) := by omega
      obtain ⟨b, off, rfl, hat⟩ := HS.out.at (by omega) H32.out
      have hr := rangeAt_below (hat j hlt) HB.out
      have hx : (L.getD j []).length = 32 := H32.out _ (by simp [List.getD, List.getElem?_eq_getElem hlt])
      obtain ⟨x, hxd⟩ : ∃ x, L.getD j [] = x := ⟨_, rfl⟩
      rw [hxd] at hr hx
      have HR := Lib.hid hr
      have HX := Lib.hid hx
      have HXD := Lib.hid hxd
      clear hat hr hx hxd
      obtain ⟨t, ht⟩ : ∃ t, (x == Tre.nought) = t := ⟨_, rfl⟩
      have HT := Lib.hid ht
      clear ht
      cases t with
      | false =>
        have HI := Lib.hid (idxS_eq L j hlt H1.out (by rw [HXD.out]; exact HT.out))
        go_wp2_with (first
          | (with_reducible refine load_sum_mid rfl (.tmp 14) rfl b _ rfl x HX.out HR.out ?_)
          | (go_at_call 33; refine (join1_any x HX.out _ _ HT.out).mono ?_; rintro e w1 ⟨rfl, hb1⟩))
        go_ret
        rw [HI.out]
        exact ⟨rfl, HB.out.trans (hb1.mono HB.out.size)⟩
      | true =>
        go_wp2_with (first
          | (with_reducible refine load_sum_mid rfl (.tmp 14) rfl b _ rfl x HX.out HR.out ?_)
          | (go_at_call 33; refine (join1_any x HX.out _ _ HT.out).mono ?_; rintro e w1 ⟨rfl, hb1⟩))
        refine ⟨⟨j + 1, by omega, by go_num, fun k hk => ?_, HB.out.trans (hb1.mono HB.out.size)⟩, by simp [intOf]; omega⟩
        rcases Nat.lt_or_ge k j with h | h
        · exact H1.out k h
        · rw [show k = j by omega, HXD.out]; exact HT.out
    · have hjl : j = L.length := by omega
      have hnI : ¬ (j : Int) < (L.length : Int) := by omega
      have HI := Lib.hid (idxS_none L (fun k hk => H1.out k (by omega)))
      clear hjl hlt hj
      go_wp2_with fail
      go_ret
      rw [HI.out]
      exact ⟨rfl, HB.out⟩
theorem contS_any (v : Value) (L : List (List UInt8)) (w : World) (hs : Sms w v L) (h32 : L32 L) :
    Calls Tryz.prog 32 #[v, .func (.func 33) #[] #[]] w fun e w' => e = .returned (.bool (!(L.all isN))) ∧ Below w.heap.size w w' := by
  have HS := Lib.hid hs
  have H32 := Lib.hid h32
  have HA := Lib.hid (idxS_any L)
  clear hs h32
  go_enter Tryz.func32, Tryz.ntmps32
  go_wp2_with (go_at_call 55; refine (idxs_any v L _ HS.out H32.out).mono ?_; rintro e w1 ⟨rfl, hb1⟩)
  go_ret
  exact ⟨by rw [← HA.out]; rfl, hb1⟩
theorem join_any (v : Value) (L : List (List UInt8)) (w : World) (hg : Glob w) (hs : Sms w v L) (h32 : L32 L) (hsz : L.length ≤ 1000000) :
    Calls Tryz.prog 16 #[v] w fun e w' => e = .returned (sumV (Tre.joined L)) ∧ Below w.heap.size w w' := by
  have HG := Lib.hid hg
  have HS := Lib.hid hs
  have H32 := Lib.hid h32
  have h3 := hg.1
  have hj : Tre.joined L = if L.all isN then Tre.nought else Sha.sum L.flatten := rfl
  have HJ := Lib.hid hj
  clear hg hs h32 hj
  obtain ⟨t, ht⟩ : ∃ t, L.all isN = t := ⟨_, rfl⟩
  have HT := Lib.hid ht
  clear ht
  go_enter Tryz.func16, Tryz.ntmps16
  go_upto_region 1 with fail
  obtain ⟨W1, hW1, HA, HB1, HZ1⟩ := pre32 w
  rw [hW1]
  clear hW1
  have G1 := Lib.hid (Glob.below HG.out HB1.out h3)
  have S1 := Lib.hid (HS.out.below HB1.out)
  have hww : w.heap.size < W1.heap.size := HA.out.lt
  clear HZ1 HG HS
  cases t with
  | true =>
    go_wp2_with (first
      | (go_at_call 32; refine (contS_any v L _ S1.out H32.out).mono ?_; rw [HT.out]; rintro e w2 ⟨rfl, hb2⟩; have B2 := Lib.hid hb2; have A2 := Lib.hid (Row.below HA.out hb2 hww); clear hb2)
      | (with_reducible refine store_sum rfl (.tmp 2) (.tmp 6) rfl w.heap.size rfl Tre.nought rfl nought_len _ Tre0 A2.out rfl ?_))
    refine ret_sum rfl rfl w.heap.size rfl 36 Tre.nought (setRow_heap _ w.heap.size _ _ _ _ A2.out) nought_len ?_
    refine ⟨by rw [HJ.out, HT.out]; rfl, below_setRow ?_ (Nat.le_refl _) _⟩
    exact HB1.out.trans (B2.out.mono (Nat.le_of_lt hww))
  | false =>
    go_wp2_with (first
      | (go_at_call 32; refine (contS_any v L _ S1.out H32.out).mono ?_; rw [HT.out]; rintro e w2 ⟨rfl, hb2⟩; have B2 := Lib.hid hb2; have A2 := Lib.hid (Row.below HA.out hb2 hww); have G2 := Lib.hid (Glob.below G1.out hb2 (by omega)); have S2 := Lib.hid (S1.out.below hb2); clear hb2)
      | (go_at_call 34; refine (Join_any v L _ G2.out S2.out H32.out hsz).mono ?_; rintro e w3 ⟨rfl, hb3⟩; have B3 := Lib.hid hb3; have A3 := Lib.hid (Row.below A2.out hb3 (by have := B2.out.size; omega)); clear hb3)
      | (with_reducible refine store_sum rfl (.tmp 2) (.tmp 8) rfl w.heap.size rfl (Sha.sum L.flatten) rfl (Sha.sum_length _) _ Tre0 A3.out rfl ?_))
    refine ret_sum rfl rfl w.heap.size rfl 36 (Sha.sum L.flatten) (setRow_heap _ w.heap.size _ _ _ _ A3.out) (Sha.sum_length _) ?_
    refine ⟨by rw [HJ.out, HT.out]; rfl, below_setRow ?_ (Nat.le_refl _) _⟩
    exact HB1.out.trans ((B2.out.mono (Nat.le_of_lt hww)).trans (B3.out.mono (by have := B2.out.size; omega)))
end Go.Proofs.YticabllkadpmeaaGreatDoor
