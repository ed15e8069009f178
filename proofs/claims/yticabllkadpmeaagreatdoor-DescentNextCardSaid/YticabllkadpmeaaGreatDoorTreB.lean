/- Package tree: Build, Put. (printed by gen/treb.py) -/
import Derived.Test.YticabllkadpmeaaGreatDoorTreL
import Derived.Laws.Tables
namespace Go.Proofs.YticabllkadpmeaaGreatDoor
set_option linter.unusedVariables false
set_option linter.unusedSimpArgs false
set_option linter.unnecessarySimpa false
open Go.RowKit
open Tre (It)
set_option maxRecDepth 100000
set_option maxHeartbeats 4000000

/-! ### plainly -/
def TS.zero : TS := { vs := List.replicate 16 (.slice none 0 0), L := List.replicate 16 [], S := List.replicate 16 Tre.nought, A := List.replicate 4 Tre.nought, R := Tre.nought, N := 0 }
def IsL (T : TS) (A : List It) : Prop := ∀ i, i < 16 → T.L.getD i [] = Tre.leafItems A i
def IsS (n : Nat) (T : TS) (A : List It) : Prop := ∀ i, i < n → T.S.getD i [] = Tre.leafAt A i
def IsA (n : Nat) (T : TS) (A : List It) : Prop := ∀ i, i < n → T.A.getD i [] = Tre.nodeAt A i
/-- T is the tree of the items A. -/
structure IsT (T : TS) (A : List It) : Prop where
  l : IsL T A
  s : IsS 16 T A
  a : IsA 4 T A
  r : T.R = Tre.rootAt A
  rise : Tre.Rise A
theorem rep_getD {α : Type} (n i : Nat) (x d : α) (h : i < n) : (List.replicate n x).getD i d = x := by
  rw [List.getD_eq_getElem?_getD, List.getElem?_replicate, if_pos h]; rfl
theorem IsL.zero : IsL TS.zero [] := fun i hi => by
  exact rep_getD 16 i [] [] hi
theorem IsL.put {T : TS} {A : List It} (h : IsL T A) (hA : Tre.Rise A) (hL : T.L.length = 16) (v : Value) (x : It) : IsL (T.setL (Tre.slot x.nm) v (Tre.put (T.L.getD (Tre.slot x.nm) []) x)) (Tre.put A x) := fun i hi => by
  rw [Tre.leafItems_put A x hA]
  have hsl := Tre.slot_lt x.nm
  show (T.L.set (Tre.slot x.nm) _).getD i [] = _
  by_cases e : Tre.slot x.nm = i
  · rw [if_pos e, ← h i hi]
    subst e
    simp [List.getD, List.getElem?_set, hL, hi]
  · rw [if_neg e, ← h i hi]
    simp [List.getD, List.getElem?_set, e]
theorem IsS.set {T : TS} {A : List It} {n : Nat} (h : IsS n T A) (hl : IsL T A) (hS : T.S.length = 16) (hn : n < 16) : IsS (n + 1) (T.setS n (Tre.leafSum (T.L.getD n []))) A := fun i hi => by
  show (T.S.set n _).getD i [] = _
  by_cases e : n = i
  · subst e
    rw [hl n hn]
    simp [List.getD, List.getElem?_set, hS, hn]
    rfl
  · rw [← h i (by omega)]
    simp [List.getD, List.getElem?_set, e]
theorem four_is {T : TS} {A : List It} (h : IsS 16 T A) (hS : T.S.length = 16) (a : Nat) (ha : a < 4) : T.four a = [Tre.leafAt A (4 * a), Tre.leafAt A (4 * a + 1), Tre.leafAt A (4 * a + 2), Tre.leafAt A (4 * a + 3)] := by
  have hg : ∀ i, i < 16 → T.S[i]? = some (Tre.leafAt A i) := fun i hi => by
    have := h i hi
    simp only [List.getD, List.getElem?_eq_getElem (show i < T.S.length by omega), Option.getD_some] at this
    rw [List.getElem?_eq_getElem (show i < T.S.length by omega), this]
  have h0 := hg (4 * a) (by omega)
  have h1 := hg (4 * a + 1) (by omega)
  have h2 := hg (4 * a + 2) (by omega)
  have h3 := hg (4 * a + 3) (by omega)
  unfold TS.four
  apply List.ext_getElem?
  intro j
  rw [List.getElem?_take, List.getElem?_drop]
  rcases Nat.lt_or_ge j 4 with hj | hj
  · rw [if_pos hj]
    rcases (show j = 0 ∨ j = 1 ∨ j = 2 ∨ j = 3 by omega) with rfl | rfl | rfl | rfl
    · simpa using h0
    · simpa using h1
    · simpa using h2
    · simpa using h3
  · rw [if_neg (by omega), List.getElem?_eq_none (by simpa using hj)]
theorem IsA.set {T : TS} {A : List It} {n : Nat} (h : IsA n T A) (hs : IsS 16 T A) (hS : T.S.length = 16) (hA : T.A.length = 4) (hn : n < 4) : IsA (n + 1) (T.setA n (Tre.joined (T.four n))) A := fun i hi => by
  show (T.A.set n _).getD i [] = _
  by_cases e : n = i
  · subst e
    rw [four_is hs hS n hn]
    simp [List.getD, List.getElem?_set, hA, hn]
    rfl
  · rw [← h i (by omega)]
    simp [List.getD, List.getElem?_set, e]
theorem above_is {T : TS} {A : List It} (h : IsA 4 T A) (hA : T.A.length = 4) : Tre.joined T.A = Tre.rootAt A := by
  have h0 := h 0 (by decide)
  have h1 := h 1 (by decide)
  have h2 := h 2 (by decide)
  have h3 := h 3 (by decide)
  unfold Tre.rootAt
  rw [← h0, ← h1, ← h2, ← h3]
  congr 1
  match hT : T.A, hA with
  | [a, b, c, d], _ => rfl
/-- One item put in, and all sums on its way told anew. -/
theorem IsT.put {T : TS} {A : List It} (h : IsT T A) (hok : T.Ok) (v : Value) (x : It) :
    let i := Tre.slot x.nm
    let T1 := T.setL i v (Tre.put (T.L.getD i []) x)
    let T2 := T1.setS i (Tre.leafSum (T1.L.getD i []))
    let T3 := T2.setA (i / 4) (Tre.joined (T2.four (i / 4)))
    IsT (T3.setR (Tre.joined T3.A)) (Tre.put A x) := by
  intro i T1 T2 T3
  have hi : i < 16 := Tre.slot_lt _
  have hl1 : IsL T1 (Tre.put A x) := h.l.put h.rise hok.nL v x
  have hs2 : IsS 16 T2 (Tre.put A x) := fun j hj => by
    show (T.S.set i _).getD j [] = _
    by_cases e : i = j
    · subst e
      rw [hl1 i hi]
      simp [List.getD, List.getElem?_set, hok.nS, hi]
      rfl
    · rw [Tre.leafAt_put A x h.rise j e, ← h.s j hj]
      simp [List.getD, List.getElem?_set, e]
  have hn2 : T2.S.length = 16 := by show (T.S.set i _).length = 16; rw [List.length_set]; exact hok.nS
  have ha3 : IsA 4 T3 (Tre.put A x) := fun j hj => by
    show (T.A.set (i / 4) _).getD j [] = _
    by_cases e : i / 4 = j
    · subst e
      rw [four_is hs2 hn2 (i / 4) (by omega)]
      have : i / 4 < 4 := by omega
      simp [List.getD, List.getElem?_set, hok.nA, this]
      rfl
    · rw [Tre.nodeAt_put A x h.rise j e, ← h.a j hj]
      simp [List.getD, List.getElem?_set, e]
  refine ⟨hl1, hs2, ha3, ?_, Tre.put_rise A x h.rise⟩
  exact above_is ha3 (by show (T.A.set (i / 4) _).length = 4; rw [List.length_set]; exact hok.nA)
theorem TS.zero_ok : TS.zero.Ok := by
  refine ⟨by simp [TS.zero], by simp [TS.zero], by simp [TS.zero], ?_, by simp [TS.zero], ?_, by simp [TS.zero, Tre.nought], ?_, ?_, ?_, by simp [TS.zero]⟩
  · intro y hy; simp only [TS.zero, List.mem_replicate] at hy; rw [hy.2]; exact nought_len
  · intro y hy; simp only [TS.zero, List.mem_replicate] at hy; rw [hy.2]; exact nought_len
  · intro y hy x hx; simp only [TS.zero, List.mem_replicate] at hy; rw [hy.2] at hx; cases hx
  · intro y hy; simp only [TS.zero, List.mem_replicate] at hy; rw [hy.2]; exact List.Pairwise.nil
  · intro y hy; simp only [TS.zero, List.mem_replicate] at hy; rw [hy.2]; exact Nat.zero_le _
theorem Tr.zero (w : World) : Tr (w.alloc (.cells TS.zero.cells.toArray 44)) w.heap.size w.heap.size TS.zero := by
  have hv : ∀ i, i < 16 → TS.zero.vs.getD i undef = .slice none 0 0 := fun i hi => rep_getD 16 i _ _ hi
  refine ⟨Row.new w _ _, Nat.le_refl _, TS.zero_ok, fun i hi => ?_, fun i j k hi hj hij e => ?_⟩
  · rw [hv i hi]
    have : TS.zero.L.getD i [] = [] := rep_getD 16 i _ _ hi
    rw [this]
    exact OwnI.nil _ _
  · rw [hv i hi] at e; cases e

/-! ### the walks -/
theorem built0 : Tryz.prog.built 44 [] = some TS.zero.cells.toArray := by kernel_rfl
theorem build_tree {w : World} {ops : Array Oper} {rest : List Oper} {o : Oper} {a : Act} {Q : Exit → Act → World → Prop} (hgd : o.guard = none) (ho : o.op = .build 44 #[])
    (h : wpList Tryz.prog ops Q rest (a.put o.dst (.agg TS.zero.cells.toArray)) w) : wpList Tryz.prog ops Q (o :: rest) a w :=
  wpList_plain hgd fun K hK => by
    unfold Oper.wp execOp
    simp only [ho, Sem.run_bind, Array.map_empty, run_build w _ #[] _ built0, Result.andThen_ok, Sem.run_pure]
    exact hK _ _ h
/-- What 'Put' leaves. -/
def PutA (w : World) (B b N : Nat) (A : List It) (e : Ending) (w' : World) : Prop := ∃ T', e = .returned (.tuple #[]) ∧ Tr w' B b T' ∧ IsT T' A ∧ T'.N = N ∧ Below B w w' ∧ Kpt St w w'
/-- What 'Build' leaves. -/
def BuildQ (w : World) (A : List It) (N : Nat) (e : Ending) (w' : World) : Prop := ∃ T, e = .returned (.pointer (some ⟨w.heap.size, 0, none⟩)) ∧ Tr w' w.heap.size w.heap.size T ∧ IsT T A ∧ T.N = N ∧ Below w.heap.size w w'
theorem Build_any (v : Value) (l : List It) (w : World) (hg : Glob w) (hs : Its w v l) (hok : ∀ x ∈ l, ItS x) (hsz : l.length ≤ 1000000) :
    Calls Tryz.prog 6 #[v] w (BuildQ w (Tre.all l) l.length) := by
  obtain ⟨xa, ca, rfl, hc1, hc2, hc3, hs2⟩ := hs.open
  obtain ⟨W0, hW0⟩ : ∃ W0, w.alloc (.cells TS.zero.cells.toArray 44) = W0 := ⟨_, rfl⟩
  have hT0 : Tr W0 w.heap.size w.heap.size TS.zero := by rw [← hW0]; exact Tr.zero w
  have hb0 : Below w.heap.size w W0 := by rw [← hW0]; exact balloc (Below.refl _ _) _
  obtain ⟨B, hB⟩ : ∃ B, w.heap.size = B := ⟨_, rfl⟩
  have HS := Lib.hid hs2
  have HGW := Lib.hid hg
  have h3 : 3 ≤ B := by rw [← hB]; exact hg.1
  have HOK := Lib.hid hok
  rw [hB] at hT0 hb0
  have HT0 := Lib.hid hT0
  have HB0 := Lib.hid hb0
  have HBB := Lib.hid hB
  clear hs hs2 hg hok hT0 hb0
  go_enter Tryz.func6, Tryz.ntmps6
  go_upto_region 2 with (with_reducible refine build_tree rfl rfl ?_)
  clear hW0 hB
  have hcapI : (l.length : Int) ≤ 9223372036854775807 := by omega
  go_wp2_with fail
  go_loopw [12] (fun iv wr => ∃ (j : Nat) (T : TS), j ≤ l.length ∧ iv = .int .i64 j ∧ Tr wr B B T ∧ IsL T (Tre.all (l.take j)) ∧ T.N = j ∧ Below B w wr) (fun iv _ => l.length - (intOf iv).toNat)
  case atStart => exact ⟨0, TS.zero, Nat.zero_le _, rfl, HT0.out, IsL.zero, rfl, HB0.out⟩
  case round =>
    clear HT0 HB0
    obtain ⟨j, T, hj, rfl, hT, hl, hN, hb⟩ := hrel
    have T1 := Lib.hid hT
    have L1 := Lib.hid hl
    have N1 := Lib.hid hN
    have B1 := Lib.hid hb
    have G1 := Lib.hid (Glob.below HGW.out hb h3)
    clear hT hl hN hb
    by_cases hlt : j < l.length
    · have hltI : (j : Int) < (l.length : Int) := by omega
      have SR := HS.out.at' B1.out (Nat.le_of_eq HBB.out)
      obtain ⟨ba, off, rfl, -⟩ := SR.cells (by omega) (ItS.oks HOK.out)
      have hrg := SR.range (ItS.oks HOK.out) j hlt
      have hxm : l.getD j dIt ∈ l := by simp [List.getD, List.getElem?_eq_getElem hlt]
      have hxs := HOK.out _ hxm
      have hnx : Tre.all (l.take (j + 1)) = Tre.put (Tre.all (l.take j)) (l.getD j dIt) := by
        rw [List.take_add_one, List.getElem?_eq_getElem hlt, ← Tre.all_snoc]
        simp [List.getD, List.getElem?_eq_getElem hlt]
      have HNX := Lib.hid hnx
      generalize l.getD j dIt = x at *
      obtain ⟨hz0, W6, hW6, hr6, hb6⟩ := pre34 wr x hxs.1
      dsimp only at hW6 hz0
      have HZ0 := Lib.hid hz0
      have HRG := Lib.hid hrg
      have HXS := Lib.hid hxs
      have HXO := Lib.hid hxs.1
      have hrw := T1.out.row.lt
      have T6 := Lib.hid (T1.out.below hb6 (Nat.le_refl _))
      have G6 := Lib.hid (Glob.below G1.out hb6 (by omega))
      have B6 := Lib.hid (hb6.mono (show B ≤ wr.heap.size by omega))
      have hrx : Hid (W6.rangeAt wr.heap.size 0 (itC x)) := fun j v hv => by rw [Nat.zero_add, Row.cell hr6]; exact hv
      have HNb : Hid (T.N + 1 ≤ 1000000) := by have := N1.out; show _ ≤ _; omega
      have HPL := Lib.hid (fun v => L1.out.put (Tre.all_rise _) T1.out.ok.nL v x)
      have hsl := Tre.slot_lt x.nm
      clear hz0 hrg hxs hxm hnx hb6 hr6 SR
      go_upto_region 5 with (first
        | (with_reducible refine load_item rfl (.tmp 14) rfl ba _ rfl x HXO.out HRG.out ?_)
        | (with_reducible refine store_item_mid rfl (.tmp 5) (.tmp 15) rfl wr.heap.size 0 rfl x rfl HXO.out 38 (itC dIt) HZ0.out (by decide) ?_))
      rw [hW6]
      clear hW6
      go_wp2_with (first
        | (with_reducible refine load_item rfl (.tmp 5) rfl wr.heap.size 0 rfl x HXO.out hrx.out ?_)
        | (go_at_call 13; refine (tput_any _ B B T x G6.out T6.out HXS.out HNb.out h3).mono ?_; rintro e w1 ⟨v1, rfl, ht1, hb1, -⟩; have T7 := Lib.hid ht1; have B7 := Lib.hid hb1; have P7 := Lib.hid (HPL.out v1); clear ht1 hb1))
      refine ⟨⟨j + 1, _, by omega, by go_num, T7.out, by rw [HNX.out]; exact P7.out, by show T.N + 1 = _; rw [N1.out], B1.out.trans (B6.out.trans B7.out)⟩, by simp [intOf]; omega⟩
    · have hjl : j = l.length := by omega
      have hnI : ¬ (j : Int) < (l.length : Int) := by omega
      have L2 : Hid (IsL T (Tre.all l)) := by have := L1.out; rw [hjl, List.take_length] at this; exact this
      have N2 : Hid (T.N = l.length) := by have := N1.out; rw [hjl] at this; exact this
      have HR := Lib.hid (Tre.all_rise l)
      generalize Tre.all l = A at *
      generalize l.length = n at *
      clear hlt hjl hj L1 N1
      go_wp2_with fail
      have IS0 : Hid (IsS 0 T A) := fun i hi => by omega
      go_loopw [20] (fun iv wq => ∃ (k : Nat) (S : TS), k ≤ 16 ∧ iv = .int .i64 k ∧ Tr wq B B S ∧ IsL S A ∧ IsS k S A ∧ S.N = n ∧ Below B w wq) (fun iv _ => 16 - (intOf iv).toNat)
      case atStart => exact ⟨0, T, Nat.zero_le _, rfl, T1.out, L2.out, IS0.out, N2.out, B1.out⟩
      case round =>
        clear T1 L2 IS0 N2 B1 G1
        obtain ⟨k, S, hk, rfl, hT, hl, hs, hN, hb⟩ := hrel
        have T1 := Lib.hid hT
        have L1 := Lib.hid hl
        have S1 := Lib.hid hs
        have N1 := Lib.hid hN
        have B1 := Lib.hid hb
        have G1 := Lib.hid (Glob.below HGW.out hb h3)
        clear hT hl hs hN hb
        by_cases hlt : k < 16
        · have hltI : (k : Int) < 16 := by omega
          have HNS := Lib.hid (S1.out.set L1.out T1.out.ok.nS hlt)
          go_wp2_with (go_at_call 14; refine (leaf_any _ B B S k G1.out T1.out hlt h3).mono ?_; rintro e w1 ⟨rfl, ht1, hb1, -⟩; have T2 := Lib.hid ht1; have B2 := Lib.hid hb1; clear ht1 hb1)
          refine ⟨⟨k + 1, S.setS k (Tre.leafSum (S.L.getD k [])), by omega, by go_num, T2.out, L1.out, HNS.out, N1.out, B1.out.trans B2.out⟩, by simp [intOf]; omega⟩
        · have hkl : k = 16 := by omega
          subst hkl
          have hnI : ¬ ((16 : Nat) : Int) < 16 := by omega
          go_wp2_with fail
          have IA0 : Hid (IsA 0 S A) := fun i hi => by omega
          go_loopw [27] (fun iv wq => ∃ (k : Nat) (R : TS), k ≤ 4 ∧ iv = .int .i64 k ∧ Tr wq B B R ∧ IsL R A ∧ IsS 16 R A ∧ IsA k R A ∧ R.N = n ∧ Below B w wq) (fun iv _ => 4 - (intOf iv).toNat)
          case atStart => exact ⟨0, S, Nat.zero_le _, rfl, T1.out, L1.out, S1.out, IA0.out, N1.out, B1.out⟩
          case round =>
            clear T1 L1 S1 IA0 N1 B1 G1
            obtain ⟨k, R, hk, rfl, hT, hl, hs, ha, hN, hb⟩ := hrel
            have T1 := Lib.hid hT
            have L1 := Lib.hid hl
            have S1 := Lib.hid hs
            have A1 := Lib.hid ha
            have N1 := Lib.hid hN
            have B1 := Lib.hid hb
            have G1 := Lib.hid (Glob.below HGW.out hb h3)
            clear hT hl hs ha hN hb
            by_cases hlt : k < 4
            · have hltI : (k : Int) < 4 := by omega
              have HNA := Lib.hid (A1.out.set S1.out T1.out.ok.nS T1.out.ok.nA hlt)
              go_wp2_with (go_at_call 15; refine (node_any _ B B R k G1.out T1.out hlt h3).mono ?_; rintro e w1 ⟨rfl, ht1, hb1, -⟩; have T2 := Lib.hid ht1; have B2 := Lib.hid hb1; clear ht1 hb1)
              refine ⟨⟨k + 1, R.setA k (Tre.joined (R.four k)), by omega, by go_num, T2.out, L1.out, S1.out, HNA.out, N1.out, B1.out.trans B2.out⟩, by simp [intOf]; omega⟩
            · have hkl : k = 4 := by omega
              subst hkl
              have hnI : ¬ ((4 : Nat) : Int) < 4 := by omega
              have HAB := Lib.hid (above_is A1.out T1.out.ok.nA)
              go_wp2_with (first
                | (go_at_call 16; refine (join_any _ R.A _ G1.out T1.out.smsA T1.out.ok.a32 (by rw [T1.out.ok.nA]; decide)).mono ?_; rintro e w4 ⟨rfl, hb4⟩; have hl3 := T1.out.row.lt; have T4 := Lib.hid (T1.out.below hb4 (Nat.le_refl _)); have B4 := Lib.hid (hb4.mono (Nat.le_of_lt hl3)); clear hb4)
                | (with_reducible refine store_sum_mid rfl (.tmp 41) (.tmp 39) rfl B 656 rfl (Tre.joined R.A) rfl (Tre.joined_length _) _ _ T4.out.row (by rw [T4.out.ok.len]; decide) ?_))
              go_ret
              refine ⟨R.setR (Tre.joined R.A), by rw [HBB.out]; rfl, ?_, ⟨L1.out, S1.out, A1.out, HAB.out, HR.out⟩, N1.out, ?_⟩
              · rw [HBB.out]; exact T4.out.storeR _ (Tre.joined_length _)
              · rw [HBB.out]; exact below_setCells (B1.out.trans B4.out) _ _ _ (Nat.le_refl _)
end Go.Proofs.YticabllkadpmeaaGreatDoor
