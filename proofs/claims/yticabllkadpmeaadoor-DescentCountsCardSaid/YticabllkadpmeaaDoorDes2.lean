/- Package descent: items, an iterator over all items of a tree. (printed by gen/des2.py) -/
import Derived.Test.YticabllkadpmeaaDoorDes1
import Derived.Test.YticabllkadpmeaaDoorLaw21
import Derived.Shelf.Abstract
import Derived.Shelf.RegionOpen
import Derived.OwnWalkIn
import Derived.TacticsInMore
import Derived.LoopNIn
import Derived.LoopIn
namespace Go.Proofs.YticabllkadpmeaaDoor
set_option linter.unusedVariables false
set_option linter.unusedSimpArgs false
set_option linter.unnecessarySimpa false
open Go.RowKit Go.Shelf
open Tre (It)
set_option maxRecDepth 100000
set_option maxHeartbeats 8000000
attribute [local go_sem] Oper.semAt_some

/-! ### inside a fence -/
theorem wpListIn_exec {F : Fence} {n : Nat} {P : Program} {w w' : World} {v : Value} {ops : Array Oper} {rest : List Oper} {o : Oper} {a : Act} {Q : Exit → Act → World → Prop}
    (hg : o.guard = none) (hd : ∀ c, o.op ≠ .defer c) (ha : o.about P w a.eval = none) (hx : (execOp a.eval o).run P w = .ok (.value v) w') (h : wpListIn F n P ops Q rest (a.put o.dst v) w') : wpListIn F n P ops Q (o :: rest) a w := by
  refine wpListIn_plain hg fun K hK => ?_
  unfold Oper.wpIn
  refine ⟨?_, ?_⟩
  · intro f hf; rw [ha] at hf; cases hf
  · rw [Oper.semAt_plain F _ _ hd, hx]
    exact hK _ _ h
theorem wpListIn_skip' {F : Fence} {n : Nat} {P : Program} {w w' : World} {ops : Array Oper} {rest : List Oper} {o : Oper} {a : Act} {Q : Exit → Act → World → Prop}
    (hg : o.guard = none) (hd : ∀ c, o.op ≠ .defer c) (ha : o.about P w a.eval = none) (hx : (execOp a.eval o).run P w = .ok .skip w') (h : wpListIn F n P ops Q rest (a.put o.dst undef) w') : wpListIn F n P ops Q (o :: rest) a w := by
  refine wpListIn_plain hg fun K hK => ?_
  unfold Oper.wpIn
  refine ⟨?_, ?_⟩
  · intro f hf; rw [ha] at hf; cases hf
  · rw [Oper.semAt_plain F _ _ hd, hx]
    exact hK _ _ h
theorem load_item_in {F : Fence} {n : Nat} {w : World} {ops : Array Oper} {rest : List Oper} {o : Oper} {a : Act} {Q : Exit → Act → World → Prop} (hgd : o.guard = none) (x : Operand) (ho : o.op = .load 35 x)
    (b off : Nat) (hx : a.eval x = .pointer (some ⟨b, off, none⟩)) (z : It) (hz : ItOk z) (hr : w.rangeAt b off (itC z))
    (h : wpListIn F n Tryd.prog ops Q rest (a.put o.dst (.agg (itC z).toArray)) w) : wpListIn F n Tryd.prog ops Q (o :: rest) a w := by
  refine wpListIn_exec hgd (by rw [ho]; intro c hc; cases hc) (by simp [Oper.about, ho]) ?_ h
  unfold execOp
  simp only [ho, hx, Instr.loadAt, Instr.sureAddr, Sem.run_bind, Sem.run_pure, Result.andThen_ok, run_loadVar_mid w b off 35 (itC z) _ hr Tryd.underlying35 rfl (by rw [size_item, itC_length hz])]
theorem store_item_in {F : Fence} {n : Nat} {w : World} {ops : Array Oper} {rest : List Oper} {o : Oper} {a : Act} {Q : Exit → Act → World → Prop} (hgd : o.guard = none) (x y : Operand) (ho : o.op = .store 35 x y)
    (b off : Nat) (hx : a.eval x = .pointer (some ⟨b, off, none⟩)) (z : It) (hy : a.eval y = .agg (itC z).toArray) (hz : ItOk z) (t : TypeId) (C : List Value) (hr : Row w b t C) (hC : off + 34 ≤ C.length)
    (h : wpListIn F n Tryd.prog ops Q rest (a.put o.dst undef) (w.setCells b off (itC z))) : wpListIn F n Tryd.prog ops Q (o :: rest) a w := by
  refine wpListIn_skip' hgd (by rw [ho]; intro c hc; cases hc) (by simp [Oper.about, ho]) ?_ h
  have ht := hr.there off (itC z).toArray.size (by simp [itC_length hz]; omega)
  unfold execOp
  simp only [ho, hx, hy, Instr.storeAt, Instr.sureAddr, Sem.run_bind, Sem.run_pure, Result.andThen_ok, run_storeVar_mid w b off 35 (itC z).toArray ht (by rw [item_size1]; simp [itC_length hz]) (all_oneCell_toArray (itC_one z))]

/-! ### what a round keeps -/
/-- Rows of other types than those that a round here writes. -/
def Sd (t : TypeId) : Prop := t ≠ 31 ∧ t ≠ 30 ∧ t ≠ 9
theorem Row.kd {A B : World} {b : Nat} {t : TypeId} {C : List Value} (h : Row A b t C) (hk : Kpt Sd A B) (ht : Sd t) : Row B b t C := hk.rows b _ t ht h
theorem own_kd {A B : World} {base e size n : Nat} {v : Value} {xs : List Value} (h : A.ownsRow base e size v n xs) (hk : Kpt Sd A B) (ht : Sd e) : B.ownsRow base e size v n xs := by
  refine ⟨h.1, ?_⟩
  rcases h.2 with hv | ⟨g, cap, cur, hv, h1, h2, h3⟩
  · exact .inl hv
  · exact .inr ⟨g, cap, cur, hv, h1, hk.rows g cur _ ht h2, h3⟩
theorem sd_item : Sd 35 := by unfold Sd; decide
theorem sd_tree : Sd 48 := by unfold Sd; decide
theorem sd_ptr : Sd 26 := by unfold Sd; decide
theorem sd_ints : Sd 79 := by unfold Sd; decide
theorem sd_int : Sd 3 := by unfold Sd; decide
theorem Tr.kd {A B : World} {B0 b : Nat} {T : TS} (h : Tr A B0 b T) (hk : Kpt Sd A B) : Tr B B0 b T :=
  ⟨h.row.kd hk sd_tree, h.hb, h.ok, fun i hi => own_kd (h.own i hi) hk sd_item, h.apart⟩
theorem PL.kd {A B : World} {base : Nat} {v : Value} {Ps : List (List Int)} (h : PL A base v Ps) (hk : Kpt Sd A B) : PL B base v Ps := by
  obtain ⟨vs, h1, h2, h3⟩ := h
  exact ⟨vs, own_kd h1 hk sd_ints, h2, fun j hj => own_kd (h3 j hj) hk sd_int⟩
theorem PL.bel {A B : World} {base : Nat} {v : Value} {Ps : List (List Int)} (h : PL A base v Ps) (hb : Below A.heap.size A B) : PL B base v Ps := h.cel (Cel.of_below hb)
/-! ### leaf by leaf -/
/-- The items at the q-th path. -/
def lq (A : List It) (q : Nat) : List It := if q < 5 then [] else Tre.leafItems A (q - 5)
theorem leaves_q (A : List It) (q : Nat) : Tre.leaves A (q + 1 - 5) = Tre.leaves A (q - 5) ++ lq A q := by
  unfold lq
  by_cases h : q < 5
  · rw [if_pos h, show q + 1 - 5 = 0 by omega, show q - 5 = 0 by omega]; simp [Tre.leaves]
  · rw [if_neg h, show q + 1 - 5 = (q - 5) + 1 by omega, Tre.leaves_succ]
theorem leaves_pre (A : List It) (k : Nat) : ∀ m, ∃ t, Tre.leaves A (k + m) = Tre.leaves A k ++ t
  | 0 => ⟨[], by simp⟩
  | m + 1 => by
    obtain ⟨t, ht⟩ := leaves_pre A k m
    exact ⟨t ++ Tre.leafItems A (k + m), by rw [← Nat.add_assoc, Tre.leaves_succ, ht, List.append_assoc]⟩
theorem leaves_at (A : List It) (q i : Nat) (hq : q < 21) (hi : i < (lq A q).length) :
    (Tre.leaves A (q - 5)).length + i < (Tre.leaves A 16).length ∧ (Tre.leaves A 16).getD ((Tre.leaves A (q - 5)).length + i) dIt = (lq A q).getD i dIt := by
  obtain ⟨t, ht⟩ := leaves_pre A (q + 1 - 5) (16 - (q + 1 - 5))
  rw [show q + 1 - 5 + (16 - (q + 1 - 5)) = 16 by omega, leaves_q] at ht
  rw [ht]
  refine ⟨by simp only [List.length_append]; omega, ?_⟩
  rw [List.append_assoc]
  simp only [List.getD]
  rw [List.getElem?_append_right (by omega), show (Tre.leaves A (q - 5)).length + i - (Tre.leaves A (q - 5)).length = i by omega, List.getElem?_append_left hi]
theorem ps_at : ∀ q : Nat, q < 21 → (psTo 3).getD q [] = if q = 0 then [] else if q < 5 then [((q - 1 : Nat) : Int)] else [(((q - 5) / 4 : Nat) : Int), (((q - 5) % 4 : Nat) : Int)] := by decide
theorem ps21 : (psTo 3).length = 21 := by decide
theorem PL.at' {w : World} {B : Nat} {a : Option Addr} {n c : Nat} {Ps : List (List Int)} (h : PL w B (.slice a n c) Ps) (j : Nat) (hj : j < Ps.length) : ∃ b o u, a = some ⟨b, o, none⟩ ∧ w.cell? ⟨b, o + j, none⟩ = some u ∧ OwnN w 0 u (Ps.getD j []) := by
  obtain ⟨vs, h1, h2, h3⟩ := h
  have hs : Shows w 1 (.slice a n c) vs.length vs := Shows.of_own h1
  have hn : n = vs.length := by obtain ⟨_, _, _, e, _⟩ := hs; simp only [Value.slice.injEq] at e; exact e.2.1
  subst hn
  obtain ⟨b, o, rfl, hc⟩ := hs.cells1 (by omega)
  exact ⟨b, o, vs.getD j undef, rfl, hc j _ (by simp [List.getD, List.getElem?_eq_getElem (show j < vs.length by omega)]), h3 j (by omega)⟩
theorem Items_q (w : World) (B b : Nat) (T : TS) (A : List It) (v : Value) (q : Nat) (hq : q < 21) (h : Tr w B b T) (hA : IsT T A) (hs : Ns w v ((psTo 3).getD q [])) :
    Calls Tryd.prog 42 #[.pointer (some ⟨b, 0, none⟩), v] w (ItsO w (lq A q) (decide (5 ≤ q))) := by
  rw [ps_at q hq] at hs
  unfold lq
  by_cases h0 : q = 0
  · subst h0
    exact Items_0o w B b T v h hs
  · rw [if_neg h0] at hs
    by_cases h5 : q < 5
    · rw [if_pos h5] at hs ⊢
      rw [show decide (5 ≤ q) = false by simp; omega]
      exact Items_1o w B b T v (q - 1) (by omega) h hs
    · rw [if_neg h5] at hs ⊢
      rw [show decide (5 ≤ q) = true by simp; omega]
      have := Items_2o w B b T v ((q - 5) / 4) ((q - 5) % 4) (by omega) (by omega) h hs
      rw [show 4 * ((q - 5) / 4) + (q - 5) % 4 = q - 5 by omega, hA.l _ (by omega)] at this
      exact this
theorem items_any (b : Nat) (w : World) :
    Calls Tryd.prog 24 #[.pointer (some ⟨b, 0, none⟩)] w fun e w' => e = .returned (.func (.func 45) #[] #[.pointer (some ⟨w.heap.size, 0, none⟩)]) ∧ w' = w.alloc (.cells #[.pointer (some ⟨b, 0, none⟩)] 26) := by
  go_enter Tryd.func24, Tryd.ntmps24
  go_wp2
  go_ret
  exact ⟨rfl, rfl⟩
theorem noDepth' (k : Nat) : Fence.wide.depth.isSome = true → 1 ≤ k := fun h => by cases h
/-- Its value as it is yielded. -/
def itV' (x : It) : Value := .agg (itC x).toArray
theorem givesI (Bt B b : Nat) (T : TS) (A : List It) (w0 : World) (hr : Row w0 Bt 26 [.pointer (some ⟨b, 0, none⟩)]) (hT : Tr w0 B b T) (hA : IsT T A) (hok : Oks A) :
    Gives Tryd.prog Sd 45 #[.pointer (some ⟨Bt, 0, none⟩)] (Tre.leaves A 16).length (fun k v W => v = itV' ((Tre.leaves A 16).getD k dIt)) w0 := by
  intro nn l J W hW hJ hY h0
  have RB := Lib.hid (hr.below hW hr.lt)
  have TB := Lib.hid (hT.below hW (Nat.le_refl _))
  have HA := Lib.hid hA
  have HOK := Lib.hid hok
  have HJ := Lib.hid hJ
  have HY := Lib.hid hY
  have J0 := Lib.hid h0
  clear hr hT hA hok hJ hY h0 hW
  refine callsIn_of_wp Tryd.func45 rfl trivial ?_ rfl
  simp only [Tryd.ntmps45, List.size_toArray, List.length_cons, List.length_nil, Nat.reduceAdd, Nat.reduceSub, Array.replicate_succ, Array.replicate_zero, List.push_toArray, List.append_toArray, List.nil_append, List.cons_append]
  gi_wp2_with (refine ⟨trivial, noDepth' _, (callsIn_wide.2 (Paths_any _)).mono ?_⟩; rintro e wp ⟨vp, rfl, hp, hbp⟩; obtain ⟨ap, cp, rfl⟩ := hp.len; have PP := Lib.hid hp; have TP := Lib.hid (TB.out.below hbp (Nat.le_refl _)); have RP := Lib.hid (RB.out.keep hbp); have JP := Lib.hid (HJ.out 0 W wp J0.out (Cel.of_below hbp) hbp); have hwp := hbp.size; clear hp hbp)
  rw [ps21]
  gi_wp2
  gi_loopw [11] (fun iv wq => ∃ q : Nat, q ≤ 21 ∧ iv = .int .i64 q ∧ J (Tre.leaves A (q - 5)).length wq ∧ PL wq W.heap.size (.slice ap 21 cp) (psTo 3) ∧ Row wq Bt 26 [.pointer (some ⟨b, 0, none⟩)] ∧ Tr wq B b T ∧ W.heap.size ≤ wq.heap.size) (fun iv _ => 21 - (intOf iv).toNat)
  case atStart => exact ⟨0, by omega, rfl, JP.out, by have := PP.out; rw [ps21] at this; exact this, RP.out, TP.out, hwp⟩
  case round =>
    clear PP TP RP JP J0 RB TB hwp
    obtain ⟨q, hq, rfl, hj, hp, hr, ht, hz⟩ := hrel
    have JQ := Lib.hid hj
    have PQ := Lib.hid hp
    have RQ := Lib.hid hr
    have TQ := Lib.hid ht
    have hBt := hr.lt
    clear hj hp hr ht
    by_cases hlt : q < 21
    · have hltI : (q : Int) < 21 := by omega
      obtain ⟨pb, po, pv, rfl, hpc, hpn⟩ := PQ.out.at' q (by rw [ps21]; exact hlt)
      have hns := Lib.hid hpn.ns
      have hcB : wr.cell? ⟨Bt, 0, none⟩ = some (.pointer (some ⟨b, 0, none⟩)) := Row.cell RQ.out 0
      clear hpn
      gi_wp2_with (refine ⟨trivial, noDepth' _, (callsIn_wide.2 (Items_q _ B b T A pv q hlt TQ.out HA.out hns.out)).mono ?_⟩; rintro e w5 ⟨v5, rfl, ho5, hb5⟩; obtain ⟨a5, c5, hv5, -, -, -, -⟩ := ho5.its.open; subst hv5; have O5 := Lib.hid ho5; have P5 := Lib.hid (PQ.out.bel hb5); have R5 := Lib.hid (RQ.out.keep hb5); have T5 := Lib.hid (TQ.out.below hb5 (Nat.le_refl _)); have J5 := Lib.hid (HJ.out _ wr w5 JQ.out (Cel.of_below hb5) (hb5.mono hz)); have hw5 := hb5.size; clear ho5 hb5)
      have HLK : Hid ((Tre.leaves A (q + 1 - 5)).length = (Tre.leaves A (q - 5)).length + (lq A q).length) := by show _ = _; rw [leaves_q, List.length_append]
      have HLA : Hid (∀ i, i < (lq A q).length → (Tre.leaves A (q - 5)).length + i < (Tre.leaves A 16).length ∧ (Tre.leaves A 16).getD ((Tre.leaves A (q - 5)).length + i) dIt = (lq A q).getD i dIt) := fun i hi => leaves_at A q i hlt hi
      have HLO : Hid (Oks (lq A q)) := fun x hx => by
        unfold lq at hx
        split at hx
        · cases hx
        · exact HOK.out x (List.mem_filter.1 hx).1
      have HLL : (lq A q).length ≤ 9223372036854775807 := O5.out.its.len
      generalize lq A q = L at *
      generalize (Tre.leaves A (q - 5)).length = K at *
      have hzz : W.heap.size ≤ w5.heap.size := by omega
      obtain ⟨base, hbase⟩ : ∃ base, wr.heap.size = base := ⟨_, rfl⟩
      rw [hbase] at O5
      clear JQ PQ RQ TQ hcB hns hpc hbase
      gi_loopw [23] (fun iv wq => ∃ i : Nat, i ≤ L.length ∧ iv = .int .i64 i ∧ J (K + i) wq ∧ PL wq W.heap.size (.slice (some ⟨pb, po, none⟩) 21 cp) (psTo 3) ∧ Row wq Bt 26 [.pointer (some ⟨b, 0, none⟩)] ∧ Tr wq B b T ∧ W.heap.size ≤ wq.heap.size ∧ OwnI wq base (.slice a5 L.length c5) L) (fun iv _ => L.length - (intOf iv).toNat)
      case atStart => exact ⟨0, Nat.zero_le _, rfl, J5.out, P5.out, R5.out, T5.out, hzz, O5.out⟩
      case round =>
        clear J5 P5 R5 T5 hzz O5
        obtain ⟨i, hi, rfl, hj, hp, hr, ht, hz2, ho⟩ := hrel
        have JQ := Lib.hid hj
        have PQ := Lib.hid hp
        have RQ := Lib.hid hr
        have TQ := Lib.hid ht
        have OQ := Lib.hid ho
        clear hj hp hr ht ho
        by_cases hil : i < L.length
        · have hilI : (i : Int) < (L.length : Int) := by omega
          obtain ⟨ba, off, rfl, -⟩ := OQ.out.its.cells (by omega) HLO.out
          have hrg := OQ.out.its.range HLO.out i hil
          have hym : L.getD i dIt ∈ L := by simp [List.getD, List.getElem?_eq_getElem hil]
          have hyo := HLO.out _ hym
          have hla := HLA.out i hil
          obtain ⟨x, hx⟩ : ∃ x, L.getD i dIt = x := ⟨_, rfl⟩
          rw [hx] at hrg hyo hla
          have HLA1 := Lib.hid hla
          have HXO := Lib.hid hyo
          have HRG := Lib.hid hrg
          obtain ⟨hz0, W6, hW6, hr6, hb6⟩ := pre34 wr x hyo
          dsimp only at hW6 hz0
          have HZ0 := Lib.hid hz0
          have HRX : Hid (W6.rangeAt wr.heap.size 0 (itC x)) := fun k v hv => by rw [Nat.zero_add, Row.cell hr6]; exact hv
          have hj6 := HJ.out (K + i) wr W6 JQ.out (Cel.of_below hb6) (hb6.mono hz2)
          obtain ⟨fn, tmps, assign, body, hy, hR⟩ := HY.out (K + i) (itV' x) W6 HLA1.out.1 hj6 (by rw [HLA1.out.2])
          have HR := Lib.hid hR
          have B6 := Lib.hid hb6
          unfold itV' at hy
          clear hrg hym hyo hla hx hr6 hb6 hz0 hj6 hR
          gi_wp2_with (first
            | (with_reducible refine load_item_in rfl (.tmp 25) rfl ba _ rfl x HXO.out HRG.out ?_)
            | (with_reducible refine store_item_in rfl (.tmp 8) (.tmp 26) rfl wr.heap.size 0 rfl x rfl HXO.out 35 (itC dIt) HZ0.out (by decide) ?_; rw [hW6]; clear hW6)
            | (with_reducible refine load_item_in rfl (.tmp 8) rfl wr.heap.size 0 rfl x HXO.out HRX.out ?_)
            | (refine ⟨noDepth' _, (RoundIn.anyDepth HR.out).mono ?_⟩; rintro e W7 ⟨rfl, hJ7, hK7⟩; have J7 := Lib.hid hJ7; have K7 := Lib.hid hK7; clear hJ7 hK7))
          exact ⟨⟨i + 1, by omega, by go_num, J7.out, (PQ.out.bel B6.out).kd K7.out, (RQ.out.keep B6.out).kd K7.out sd_ptr, (TQ.out.below B6.out (Nat.le_refl _)).kd K7.out, by have := B6.out.size; have := K7.out.size; omega, own_kd (OQ.out.below B6.out (Nat.le_refl _)) K7.out sd_item⟩, by simp [intOf]; omega⟩
        · have hilq : i = L.length := by omega
          have JE : Hid (J (Tre.leaves A (q + 1 - 5)).length wr) := by
            have := JQ.out
            rw [hilq] at this
            rw [HLK.out]; exact this
          have hnI2 : ¬ (i : Int) < (L.length : Int) := by omega
          clear HLA HLK hilq hil
          gi_wp2
          exact ⟨⟨_, _, _, _, _, ⟨q + 1, by omega, by go_num, JE.out, PQ.out, RQ.out, TQ.out⟩, rfl, rfl, rfl, rfl, rfl⟩, by simp [intOf]; omega⟩
    · have hql : q = 21 := by omega
      subst hql
      gi_wp2
      go_end0
      exact ⟨⟨_, rfl⟩, JQ.out⟩
end Go.Proofs.YticabllkadpmeaaDoor
