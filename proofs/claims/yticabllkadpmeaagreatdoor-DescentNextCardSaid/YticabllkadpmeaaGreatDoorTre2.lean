/- Package tree: slices.BinarySearchFunc over items. -/
import Derived.Test.YticabllkadpmeaaGreatDoorTreQ
import Derived.BigFrame
namespace Go.Proofs.YticabllkadpmeaaGreatDoor
set_option linter.unusedVariables false
set_option linter.unusedSimpArgs false
set_option linter.unnecessarySimpa false
open Go.RowKit
open Tre (It)
set_option maxRecDepth 100000
set_option maxHeartbeats 4000000

theorem size_item : (Tryz.prog.info? 38).map (·.size) = some 34 := by kernel_rfl
theorem Its.range {w : World} {b off n cap : Nat} {l : List It} (h : Its w (.slice (some ⟨b, off, none⟩) n cap) l) (hok : Oks l) (i : Nat) (hi : i < l.length) : w.rangeAt b (off + i * 34) (itC (l.getD i dIt)) := fun j q hq => by
  obtain ⟨b', off', hx, hc⟩ := h.cells (by omega) hok
  simp only [Option.some.injEq, Addr.mk.injEq, and_true] at hx
  obtain ⟨rfl, rfl⟩ := hx
  exact hc i hi j q hq
theorem load_item {w : World} {ops : Array Oper} {rest : List Oper} {o : Oper} {a : Act} {Q : Exit → Act → World → Prop} (hgd : o.guard = none) (x : Operand) (ho : o.op = .load 38 x)
    (b off : Nat) (hx : a.eval x = .pointer (some ⟨b, off, none⟩)) (y : It) (hy : ItOk y) (hr : w.rangeAt b off (itC y))
    (h : wpList Tryz.prog ops Q rest (a.put o.dst (.agg (itC y).toArray)) w) : wpList Tryz.prog ops Q (o :: rest) a w :=
  wpList_load_mid hgd 38 x ho b off hx (itC y) _ hr Tryz.underlying38 rfl (by rw [size_item, itC_length hy]) h
theorem ahead_of (L : List It) (n : List UInt8) (i : Nat) (hi : i ≤ L.length) (h1 : ∀ k, k < i → Go.Op.bytesLess (L.getD k dIt).nm n = true) (h2 : i < L.length → Go.Op.bytesLess (L.getD i dIt).nm n = false) : Tre.ahead L n = i := by
  unfold Tre.ahead
  induction L generalizing i with
  | nil => simp at hi; simp [hi]
  | cons y r ih =>
    cases i with
    | zero =>
      have := h2 (by simp)
      simp only [List.getD_cons_zero] at this
      simp [List.takeWhile_cons, this]
    | succ i =>
      have h0 := h1 0 (by omega)
      simp only [List.getD_cons_zero] at h0
      rw [List.takeWhile_cons, if_pos h0, List.length_cons, ih i (by simpa using hi) (fun k hk => by have := h1 (k + 1) (by omega); simpa using this) (fun hk => by have := h2 (by simpa using hk); simpa using this)]
theorem load_item_g {w : World} {ops : Array Oper} {rest : List Oper} {o : Oper} {a : Act} {Q : Exit → Act → World → Prop} (hw : Region.wanted o (yielded ops a.tmps) = true) (x : Operand) (ho : o.op = .load 38 x)
    (b off : Nat) (hx : a.eval x = .pointer (some ⟨b, off, none⟩)) (y : It) (hy : ItOk y) (hr : w.rangeAt b off (itC y))
    (h : wpList Tryz.prog ops Q rest (a.put o.dst (.agg (itC y).toArray)) w) : wpList Tryz.prog ops Q (o :: rest) a w :=
  BigFrame.wpList_want hw fun K hK => wp_load_mid 38 x ho b off hx (itC y) _ hr Tryz.underlying38 rfl (by rw [size_item, itC_length hy]) (hK _ _ h)
theorem rise_lt {L : List It} (h : Tre.Rise L) {k m : Nat} (hkm : k < m) (hm : m < L.length) : Go.Op.bytesLess (L.getD k dIt).nm (L.getD m dIt).nm = true := by
  have := List.pairwise_iff_getElem.1 h k m (by omega) hm hkm
  simpa [List.getD, List.getElem?_eq_getElem hm, List.getElem?_eq_getElem (show k < L.length by omega)] using this
theorem ahead_lt (L : List It) (n : List UInt8) (i : Nat) (hi : Tre.ahead L n = i) (hl : i < L.length) : Go.Op.bytesLess (L.getD i dIt).nm n = false := by
  subst hi
  unfold Tre.ahead at *
  induction L with
  | nil => simp at hl
  | cons y r ih =>
    by_cases h : Go.Op.bytesLess y.nm n = true
    · rw [List.takeWhile_cons, if_pos h] at hl ⊢
      simp only [List.length_cons, List.getD_cons_succ] at hl ⊢
      exact ih (by omega)
    · rw [List.takeWhile_cons, if_neg h]
      simpa using h
theorem has_at (L : List It) (n : List UInt8) (h : Tre.Rise L) (i : Nat) (hi : Tre.ahead L n = i) : Tre.has L n = decide (i < L.length ∧ (L.getD i dIt).nm = n) := by
  have hf := Tre.find_ahead L n h
  rw [hi] at hf
  by_cases hh : Tre.has L n = true
  · rw [if_pos hh] at hf
    rw [hh]
    obtain ⟨x, hx⟩ : ∃ x, Tre.find L n = some x := by
      cases hq : Tre.find L n with
      | some x => exact ⟨x, rfl⟩
      | none =>
        have hn := Tre.find_none hq
        unfold Tre.has at hh
        rw [List.any_eq_true] at hh
        obtain ⟨x, hx, he⟩ := hh
        exact absurd (beq_iff_eq.1 he) (hn x hx)
    rw [hx] at hf
    have hl : i < L.length := (List.getElem?_eq_some_iff.1 hf.symm).1
    have hx2 : L.getD i dIt = x := by simp [List.getD, ← hf]
    symm
    rw [decide_eq_true_eq]
    exact ⟨hl, by rw [hx2]; exact (Tre.find_some hx).2⟩
  · have : ¬ (i < L.length ∧ (L.getD i dIt).nm = n) := by
      rintro ⟨hl, he⟩
      apply hh
      unfold Tre.has
      rw [List.any_eq_true]
      exact ⟨L.getD i dIt, by simp [List.getD, List.getElem?_eq_getElem hl], beq_iff_eq.2 he⟩
    rw [decide_eq_false this]
    simpa using hh
theorem search_any (v : Value) (L : List It) (n : ByteArray) (w : World) (hs : Its w v L) (hok : Oks L) (hr : Tre.Rise L) (hsz : L.length ≤ 1000000) :
    Calls Tryz.prog 45 #[v, .string n, .func (.func 46) #[] #[]] w fun e w' => e = .returned (.tuple #[.int .i64 (Tre.ahead L n.data.toList : Int), .bool (Tre.has L n.data.toList)]) ∧ Below w.heap.size w w' := by
  obtain ⟨xa, ca, rfl, hc1, hc2, hc3, -⟩ := hs.open
  have HS := Lib.hid hs
  have HR := Lib.hid hr
  have HOK := Lib.hid hok
  clear hs hr hok
  go_enter Tryz.func45, Tryz.ntmps45
  go_wp2_with fail
  go_loopw [9, 10] (fun iv jv wr => ∃ i j : Nat, i ≤ j ∧ j ≤ L.length ∧ iv = .int .i64 i ∧ jv = .int .i64 j ∧ (∀ k, k < i → Go.Op.bytesLess (L.getD k dIt).nm n.data.toList = true) ∧ (∀ k, j ≤ k → k < L.length → Go.Op.bytesLess (L.getD k dIt).nm n.data.toList = false) ∧ Below w.heap.size w wr) (fun iv jv _ => (intOf jv - intOf iv).toNat)
  case atStart => exact ⟨0, L.length, by omega, by omega, rfl, rfl, (fun k hk => by omega), (fun k h1 h2 => by omega), Below.refl _ _⟩
  case round =>
    obtain ⟨i, j, hij, hj, rfl, rfl, h1, h2, hb⟩ := hrel
    have H1 := Lib.hid h1
    have H2 := Lib.hid h2
    have HB := Lib.hid hb
    clear h1 h2 hb
    by_cases hlt : i < j
    · have hltI : (i : Int) < (j : Int) := by omega
      obtain ⟨m, hm⟩ : ∃ m, (i + j) / 2 = m := ⟨_, rfl⟩
      have hmI : ((i : Int) + (j : Int)) / 2 = (m : Int) := by omega
      have hml : m < L.length := by omega
      obtain ⟨b, off, rfl, -⟩ := HS.out.cells (by omega) HOK.out
      have hrg := rangeAt_below (HS.out.range HOK.out m hml) HB.out
      have hy := HOK.out (L.getD m dIt) (by simp [List.getD, List.getElem?_eq_getElem hml])
      obtain ⟨y, hyd⟩ : ∃ y, L.getD m dIt = y := ⟨_, rfl⟩
      rw [hyd] at hrg hy
      have HRG := Lib.hid hrg
      have HY := Lib.hid hy
      have HYD := Lib.hid hyd
      clear hrg hy hyd
      have hmlI : (m : Int) < (L.length : Int) := by omega
      obtain ⟨cv, hcv⟩ : ∃ cv, Lib.compareBytes y.nm n.data.toList = cv := ⟨_, rfl⟩
      have hl := (cmp_less y.nm n.data.toList).1
      rw [hcv] at hl
      have HCV := Lib.hid hcv
      have HL := Lib.hid hl
      have hms : m < 1000000 := by omega
      clear hcv hl
      by_cases hc0 : cv < 0
      · go_wp2_with (first
          | (with_reducible refine load_item rfl (.tmp 27) rfl b _ rfl y HY.out HRG.out ?_)
          | (go_at_call 46; refine (fcmp_any y HY.out n _).mono ?_; rw [HCV.out]; rintro e w1 ⟨rfl, hb1⟩))
        refine ⟨⟨m + 1, j, by omega, hj, by go_num, rfl, fun k hk => ?_, H2.out, HB.out.trans (hb1.mono HB.out.size)⟩, by simp [intOf]; omega⟩
        have hm1 : Go.Op.bytesLess (L.getD m dIt).nm n.data.toList = true := by rw [HYD.out]; exact HL.out.1 hc0
        rcases Nat.lt_or_ge k m with hkm | hkm
        · exact Tre.less_trans _ _ _ (rise_lt HR.out hkm hml) hm1
        · rw [show k = m by omega]; exact hm1
      · go_wp2_with (first
          | (with_reducible refine load_item rfl (.tmp 27) rfl b _ rfl y HY.out HRG.out ?_)
          | (go_at_call 46; refine (fcmp_any y HY.out n _).mono ?_; rw [HCV.out]; rintro e w1 ⟨rfl, hb1⟩))
        refine ⟨⟨i, m, by omega, by omega, rfl, by go_num, H1.out, fun k h1 h2 => ?_, HB.out.trans (hb1.mono HB.out.size)⟩, by simp [intOf]; omega⟩
        have hm1 : ¬ Go.Op.bytesLess (L.getD m dIt).nm n.data.toList = true := by rw [HYD.out]; exact fun h => by have := HL.out.2 h; omega
        rcases Nat.lt_or_ge m k with hkm | hkm
        · cases hq : Go.Op.bytesLess (L.getD k dIt).nm n.data.toList with
          | false => rfl
          | true => exact absurd (Tre.less_trans _ _ _ (rise_lt HR.out hkm h2) hq) hm1
        · rw [show k = m by omega]; simpa using hm1
    · obtain rfl : i = j := by omega
      have hnI : ¬ (i : Int) < (i : Int) := by omega
      have hah : Tre.ahead L n.data.toList = i := ahead_of L _ i hj H1.out (fun h => H2.out i (Nat.le_refl _) h)
      have hhs := has_at L n.data.toList HR.out i hah
      have HAH := Lib.hid hah
      have HHS := Lib.hid hhs
      clear hah hhs H1 H2 hlt hij
      by_cases hil : i < L.length
      · have hilI : (i : Int) < (L.length : Int) := by omega
        obtain ⟨b, off, rfl, -⟩ := HS.out.cells (by omega) HOK.out
        have hrg := rangeAt_below (HS.out.range HOK.out i hil) HB.out
        have hy := HOK.out (L.getD i dIt) (by simp [List.getD, List.getElem?_eq_getElem hil])
        generalize L.getD i dIt = y at *
        have HRG := Lib.hid hrg
        have HY := Lib.hid hy
        obtain ⟨cv, hcv⟩ : ∃ cv, Lib.compareBytes y.nm n.data.toList = cv := ⟨_, rfl⟩
        have hl := (cmp_less y.nm n.data.toList).2
        rw [hcv] at hl
        have HCV := Lib.hid hcv
        have HL := Lib.hid hl
        clear hcv hl hrg hy
        go_wp2_with (first
          | (refine load_item_g (by kernel_rfl) (.tmp 43) rfl b _ rfl y HY.out HRG.out ?_)
          | (go_at_call 46; refine (fcmp_any y HY.out n _).mono ?_; rw [HCV.out]; rintro e w1 ⟨rfl, hb1⟩))
        go_ret2
        refine ⟨?_, HB.out.trans (hb1.mono HB.out.size)⟩
        rw [HAH.out, HHS.out]
        have hb : (cv == 0) = decide (i < L.length ∧ y.nm = n.data.toList) := by
          by_cases h : cv = 0
          · have := HL.out.1 h
            rw [h]; symm
            rw [decide_eq_true ⟨hil, this⟩]; rfl
          · rw [decide_eq_false (fun h2 => h (HL.out.2 h2.2))]
            exact beq_eq_false_iff_ne.2 h
        rw [← hb]
        rfl
      · have hilI : ¬ (i : Int) < (L.length : Int) := by omega
        go_wp2_with fail
        go_ret2
        refine ⟨?_, HB.out⟩
        rw [HAH.out, HHS.out, decide_eq_false (fun h => hil h.1)]
        rfl
end Go.Proofs.YticabllkadpmeaaGreatDoor
