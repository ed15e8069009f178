/- ref21.Put, ref21.All. (printed by gen/rput.py) -/
import Derived.Test.YticabllkadpmeaaGreatDoorTreR
namespace Go.Proofs.YticabllkadpmeaaGreatDoor
set_option linter.unusedVariables false
set_option linter.unusedSimpArgs false
set_option linter.unnecessarySimpa false
open Go.RowKit
open Tre (It)
set_option maxRecDepth 100000
set_option maxHeartbeats 8000000

theorem build_one {w : World} {ops : Array Oper} {rest : List Oper} {o : Oper} {a : Act} {Q : Exit → Act → World → Prop} (hgd : o.guard = none) (x : Operand) (ho : o.op = .buildSlice 22 1 #[(0, x)])
    (z : It) (hz : ItOk z) (hx : a.eval x = .agg (itC z).toArray) (h : wpList Tryz.prog ops Q rest (a.put o.dst (.slice (some ⟨w.heap.size, 0, none⟩) 1 1)) (w.alloc (.cells (itC z).toArray 38))) : wpList Tryz.prog ops Q (o :: rest) a w :=
  wpList_plain hgd fun K hK => by
    have := step_build_item (K := K) (Q := Q) (E := True) (ops := ops) hgd x ho z hz hx (hK _ _ h)
    rw [if_pos (by simp [Region.wanted, hgd])] at this
    exact this
theorem its_lit (w : World) (z : It) (hz : ItOk z) : Its (w.alloc (.cells (itC z).toArray 38)) (.slice (some ⟨w.heap.size, 0, none⟩) 1 1) [z] := by
  have h := World.ownsRow_lit (e := 38) (size := 34) (base := w.heap.size) w (itC z).toArray 1 (Nat.le_refl _) (by decide) (by simp [itC_length hz])
  have := Shows.of_own h
  unfold Its
  simpa [itsC] using this
theorem ahead_less (L : List It) (n : List UInt8) (j : Nat) (hj : j < Tre.ahead L n) : Go.Op.bytesLess (L.getD j dIt).nm n = true := by
  unfold Tre.ahead at hj
  induction L generalizing j with
  | nil => simp at hj
  | cons y r ih =>
    rw [List.takeWhile_cons] at hj
    by_cases h : Go.Op.bytesLess y.nm n = true
    · rw [if_pos h, List.length_cons] at hj
      cases j with
      | zero => exact h
      | succ j => simpa using ih j (by omega)
    · rw [if_neg h] at hj
      simp at hj
/-- What stands there when j items have been seen. -/
def outF (l : List It) (x : It) (a j : Nat) : List It := if j ≤ a then l.take j else if Tre.has l x.nm then (l.take j).set a x else l.take a ++ x :: (l.take j).drop a
theorem outF_lt (l : List It) (x : It) (a j : Nat) (hj : j < a) (hl : j < l.length) : outF l x a (j + 1) = outF l x a j ++ [l.getD j dIt] := by
  unfold outF
  rw [if_pos (by omega), if_pos (by omega), List.take_add_one, List.getElem?_eq_getElem hl]
  simp [List.getD, List.getElem?_eq_getElem hl]
theorem outF_eq_has (l : List It) (x : It) (a : Nat) (hl : a < l.length) (h : Tre.has l x.nm = true) : outF l x a (a + 1) = outF l x a a ++ [x] := by
  unfold outF
  rw [if_neg (by omega), if_pos h, if_pos (Nat.le_refl _), List.take_add_one, List.getElem?_eq_getElem hl]
  have e : (l.take a).length = a := by rw [List.length_take]; omega
  rw [List.set_append_right _ _ (by omega), e, Nat.sub_self]
  rfl
theorem outF_eq_no (l : List It) (x : It) (a : Nat) (hl : a < l.length) (h : Tre.has l x.nm = false) : outF l x a (a + 1) = outF l x a a ++ [x] ++ [l.getD a dIt] := by
  unfold outF
  rw [if_neg (by omega), h, if_pos (Nat.le_refl _), List.take_add_one, List.getElem?_eq_getElem hl]
  have e : (l.take a).length = a := by rw [List.length_take]; omega
  rw [List.drop_append, e, Nat.sub_self, List.drop_eq_nil_of_le (by omega)]
  simp [List.getD, List.getElem?_eq_getElem hl]
theorem outF_gt (l : List It) (x : It) (a j : Nat) (hj : a < j) (hl : j < l.length) : outF l x a (j + 1) = outF l x a j ++ [l.getD j dIt] := by
  unfold outF
  rw [if_neg (show ¬ j + 1 ≤ a by omega), if_neg (show ¬ j ≤ a by omega)]
  have e : (l.take j).length = j := by rw [List.length_take]; omega
  have e2 : l.take (j + 1) = l.take j ++ [l.getD j dIt] := by
    rw [List.take_add_one, List.getElem?_eq_getElem hl]
    simp [List.getD, List.getElem?_eq_getElem hl]
  by_cases h : Tre.has l x.nm = true
  · rw [if_pos h, if_pos h, e2, List.set_append_left _ _ (by omega)]
  · rw [if_neg h, if_neg h, e2, List.drop_append_of_le_length (by omega)]
    simp
theorem outF_end (l : List It) (x : It) (h : Tre.Rise l) : (if Tre.ahead l x.nm < l.length then outF l x (Tre.ahead l x.nm) l.length else outF l x (Tre.ahead l x.nm) l.length ++ [x]) = Tre.put l x := by
  have hp := Tre.put_at l x h
  have ha := Tre.ahead_le l x.nm
  have hh := has_at l x.nm h (Tre.ahead l x.nm) rfl
  generalize Tre.ahead l x.nm = a at *
  rw [hp]
  unfold outF
  by_cases hl : a < l.length
  · rw [if_pos hl, if_neg (by omega), List.take_length]
  · obtain rfl : a = l.length := by omega
    rw [if_neg hl, if_pos (Nat.le_refl _), hh]
    simp
theorem outF_le (l : List It) (x : It) (a j : Nat) (ha : a ≤ l.length) : (outF l x a j).length ≤ l.length + 1 := by
  unfold outF
  split
  · rw [List.length_take]; omega
  · split
    · rw [List.length_set, List.length_take]; omega
    · simp; omega
theorem OwnI.mono {w : World} {base base' : Nat} {v : Value} {l : List It} (h : OwnI w base v l) (hb : base' ≤ base) : OwnI w base' v l := by
  refine ⟨h.1, ?_⟩
  rcases h.2 with h | ⟨g, cap, cur, r1, r2, r3⟩
  · exact .inl h
  · exact .inr ⟨g, cap, cur, r1, Nat.le_trans hb r2, r3⟩
theorem less_or (a b : List UInt8) (h : Go.Op.bytesLess a b = false) : b = a ∨ Go.Op.bytesLess b a = true := by
  cases h2 : Go.Op.bytesLess b a with
  | true => exact .inr rfl
  | false => exact .inl (Tre.less_total _ _ h2 h)
theorem rangeAt_below' {w w' : World} {b off N : Nat} {cs : List Value} (h : w.rangeAt b off cs) (hb : Below N w w') (hN : w.heap.size ≤ N) : w'.rangeAt b off cs := rangeAt_below h (hb.mono hN)
/-- Items of the call's own, told. -/
def OIQ (w : World) (l : List It) (e : Ending) (w' : World) : Prop := ∃ v, e = .returned v ∧ OwnI w' w.heap.size v l ∧ Below w.heap.size w w'
theorem all_oks {l : List It} (h : Oks l) : Oks (Tre.all l) := by
  have : ∀ (l a : List It), Oks l → Oks a → Oks (l.foldl Tre.put a) := by
    intro l
    induction l with
    | nil => intro a _ ha; exact ha
    | cons x r ih =>
      intro a h ha
      refine ih _ (fun y hy => h y (List.mem_cons_of_mem _ hy)) (fun y hy => ?_)
      rcases Tre.mem_put a x y hy with rfl | h1
      · exact h _ (List.mem_cons_self ..)
      · exact ha y h1
  exact this l [] h (fun y hy => by cases hy)
theorem toL (x : It) : x.name.toList = x.nm := ByteArray.toList_eq _
theorem rput_any (v : Value) (l : List It) (x : It) (w : World) (hs : Its w v l) (hok : Oks l) (hx : ItOk x) (hr : Tre.Rise l) (hsz : l.length ≤ 1000000) :
    Calls Tryz.prog 21 #[v, itV x] w (OIQ w (Tre.put l x)) := by
  obtain ⟨xa, ca, rfl, hc1, hc2, hc3, hs2⟩ := hs.open
  obtain ⟨B, hB⟩ : ∃ B, w.heap.size = B := ⟨_, rfl⟩
  obtain ⟨W0, hW0⟩ : ∃ W0, w.alloc (.cells (itC x).toArray 38) = W0 := ⟨_, rfl⟩
  have hr0 : Row W0 w.heap.size 38 (itC x) := by rw [← hW0]; exact Row.new w 38 (itC x)
  have hb0 : Below w.heap.size w W0 := by rw [← hW0]; exact balloc (Below.refl _ _) _
  have hEND := outF_end l x hr
  obtain ⟨a, ha⟩ : ∃ a, Tre.ahead l x.nm = a := ⟨_, rfl⟩
  have hale : a ≤ l.length := by rw [← ha]; exact Tre.ahead_le _ _
  rw [ha] at hEND
  have hah : ∀ j, j < a → Go.Op.bytesLess (l.getD j dIt).nm x.nm = true := fun j hj => by
    subst ha
    exact ahead_less l x.nm j hj
  have hhas := has_at l x.nm hr a ha
  have hge : a < l.length → Go.Op.bytesLess (l.getD a dIt).nm x.nm = false := fun h => ahead_lt l x.nm a ha h
  have HS := Lib.hid (hs2.below hb0)
  rw [hB] at hr0 hb0
  have hw0 := hr0.lt
  have HOK := Lib.hid hok
  have HXO := Lib.hid hx
  have HRI := Lib.hid hr
  have HR0 := Lib.hid hr0
  have HB0 := Lib.hid hb0
  have HEND := Lib.hid hEND
  have HAH := Lib.hid hah
  have HHAS := Lib.hid hhas
  have HGE := Lib.hid hge
  have HBB := Lib.hid hB
  have hout0 : outF l x a 0 = [] := by unfold outF; rw [if_pos (Nat.zero_le _)]; rfl
  have HO0 := Lib.hid hout0
  have hc0 : W0.cell? ⟨B, 0, none⟩ = some (.string x.name) := Row.cell hr0 0
  have hrx : Hid (W0.rangeAt B 0 (itC x)) := fun k v hv => by rw [Nat.zero_add, Row.cell hr0]; exact hv
  have HLIT := Lib.hid (OwnI.lit0 W0)
  have HB1 : Hid (Below W0.heap.size W0 (W0.alloc (.cells #[] 38))) := balloc (Below.refl _ _) _
  clear hs hs2 hok hx hr hr0 hb0 hEND hah hhas hge ha hout0
  go_enter Tryz.func21, Tryz.ntmps21
  go_wp2_with fail
  clear hW0 hB
  generalize hW1 : W0.alloc (.cells #[] 38) = W1 at *
  generalize hCC : W0.heap.size = C at *
  have HCC := Lib.hid hCC
  clear hW1 hCC
  go_loopw [5, 6, 7] (fun ov qv iv wr => ∃ j : Nat, j ≤ l.length ∧ iv = .int .i64 j ∧ qv = .bool (decide (a < j)) ∧ OwnI wr C ov (outF l x a j) ∧ Below C W0 wr) (fun _ _ iv _ => l.length - (intOf iv).toNat)
  case atStart => exact ⟨0, Nat.zero_le _, rfl, rfl, by rw [HO0.out]; exact HLIT.out, HB1.out⟩
  case round =>
    clear HLIT HO0 HB1
    obtain ⟨j, hj, rfl, rfl, ho, hb⟩ := hrel
    have HO := Lib.hid ho
    have HB := Lib.hid hb
    have hCr : C ≤ wr.heap.size := by have := hb.size; have := HCC.out; omega
    have hCz := HCC.out
    have HOL : Hid ((outF l x a j).length ≤ 1000001) := Nat.le_trans (outF_le l x a j hale) (by omega)
    clear ho hb
    by_cases hlt : j < l.length
    · have hltI : (j : Int) < (l.length : Int) := by omega
      obtain ⟨ba, off, rfl, -⟩ := HS.out.cells (by omega) HOK.out
      have hrg := HS.out.range HOK.out j hlt
      have hym : l.getD j dIt ∈ l := by simp [List.getD, List.getElem?_eq_getElem hlt]
      have hyo := HOK.out _ hym
      have hless : Hid (j < a → Go.Op.bytesLess (l.getD j dIt).nm x.nm = true) := HAH.out j
      have heqa : Hid (j = a → Go.Op.bytesLess (l.getD j dIt).nm x.nm = false ∧ Tre.has l x.nm = decide ((l.getD j dIt).nm = x.nm)) := fun h => by
        subst h
        exact ⟨HGE.out hlt, by rw [HHAS.out]; simp [hlt]⟩
      have hgt : Hid (a < j → Go.Op.bytesLess x.nm (l.getD j dIt).nm = true) := fun h => by
        rcases less_or _ _ (HGE.out (by omega)) with e | e
        · rw [e]; exact rise_lt HRI.out h hlt
        · exact Tre.less_trans _ _ _ e (rise_lt HRI.out h hlt)
      obtain ⟨y, hy⟩ : ∃ y, l.getD j dIt = y := ⟨_, rfl⟩
      rw [hy] at hrg hyo hless hgt heqa
      have HY := Lib.hid hy
      have hcy : W0.cell? ⟨ba, off + j * 34, none⟩ = some (.string y.name) := hrg 0 _ rfl
      have hbl : ba < C := by have := blt hcy; have := HCC.out; simp at *; omega
      have HRG := Lib.hid hrg
      have HYO := Lib.hid hyo
      clear hrg hym hyo hy
      rcases Nat.lt_trichotomy j a with hja | hja | hja
      · have HQ : Hid (decide (a < j + 1) = false) := by show _ = _; simp; omega
        have hq : decide (a < j) = false := by simp; omega
        have hl1 : Go.Op.bytesLess y.name.toList x.name.toList = true := by rw [toL, toL]; exact hless.out hja
        have hne : (y.name.toList == x.name.toList) = false := by rw [toL, toL]; exact beq_eq_false_iff_ne.2 (fun e => by have := hless.out hja; rw [e, Tre.less_irrefl] at this; cases this)
        have HNX := Lib.hid (outF_lt l x a j hja hlt)
        rw [hq]
        clear hq hless hgt heqa
        go_upto_region 5 with fail
        refine wp_region_held_drew (S := fun w' => Below C W0 w') (by kernel_rfl) (by exact HB.out.drew) (fun hHeld => ?_)
        refine wpAnyH_take (i := 0) (v := ?_) (by simp only [List.getElem?_toArray, List.getElem?_cons_zero, List.getElem?_cons_succ] <;> rfl) (by kernel_rfl) (by kernel_rfl) (by kernel_rfl) (by intro _ _ _ h; exact h) (Or.inl ⟨by rfl, ?_⟩) (by assumption) ?_
        rotate_left
        · intro w _; go_simp; try with_reducible rfl
        try simp only [Act.put, List.setIfInBounds_toArray, List.set_cons_zero, List.set_cons_succ, Array.replicate]
        refine wpAnyH_take (i := 1) (v := ?_) (by simp only [List.getElem?_toArray, List.getElem?_cons_zero, List.getElem?_cons_succ] <;> rfl) (by kernel_rfl) (by kernel_rfl) (by kernel_rfl) (by intro _ _ _ h; exact h) (Or.inl ⟨by rfl, ?_⟩) (by assumption) ?_
        rotate_left
        · intro w _; go_simp; try with_reducible rfl
        try simp only [Act.put, List.setIfInBounds_toArray, List.set_cons_zero, List.set_cons_succ, Array.replicate]
        refine wpAnyH_take (i := 2) (v := ?_) (by simp only [List.getElem?_toArray, List.getElem?_cons_zero, List.getElem?_cons_succ] <;> rfl) (by kernel_rfl) (by kernel_rfl) (by kernel_rfl) (by intro _ _ _ h; exact h) (Or.inl ⟨by rfl, ?_⟩) (by assumption) ?_
        rotate_left
        · intro w _; go_simp; try with_reducible rfl
        try simp only [Act.put, List.setIfInBounds_toArray, List.set_cons_zero, List.set_cons_succ, Array.replicate]
        refine wpAnyH_take (i := 3) (v := ?_) (by simp only [List.getElem?_toArray, List.getElem?_cons_zero, List.getElem?_cons_succ] <;> rfl) (by kernel_rfl) (by kernel_rfl) (by kernel_rfl) (by intro _ _ _ h; exact h) (Or.inl ⟨by rfl, ?_⟩) (by assumption) ?_
        rotate_left
        · intro w _; go_simp; try with_reducible rfl
        try simp only [Act.put, List.setIfInBounds_toArray, List.set_cons_zero, List.set_cons_succ, Array.replicate]
        refine wpAnyH_take (i := 4) (v := ?_) (by simp only [List.getElem?_toArray, List.getElem?_cons_zero, List.getElem?_cons_succ] <;> rfl) (by kernel_rfl) (by kernel_rfl) (by kernel_rfl) (by intro _ _ _ h; exact h) (Or.inl ⟨by rfl, ?_⟩) (by assumption) ?_
        rotate_left
        · intro w _; go_simp; try with_reducible rfl
        try simp only [Act.put, List.setIfInBounds_toArray, List.set_cons_zero, List.set_cons_succ, Array.replicate]
        refine wpAnyH_take (i := 5) (v := ?_) (by simp only [List.getElem?_toArray, List.getElem?_cons_zero, List.getElem?_cons_succ] <;> rfl) (by kernel_rfl) (by kernel_rfl) (by kernel_rfl) (by intro _ _ _ h; exact h) (Or.inl ⟨by rfl, ?_⟩) (by assumption) ?_
        rotate_left
        · intro w _; go_simp; try with_reducible rfl
        try simp only [Act.put, List.setIfInBounds_toArray, List.set_cons_zero, List.set_cons_succ, Array.replicate]
        refine wpAnyH_take (i := 6) (v := ?_) (by simp only [List.getElem?_toArray, List.getElem?_cons_zero, List.getElem?_cons_succ] <;> rfl) (by kernel_rfl) (by kernel_rfl) (by kernel_rfl) (by intro _ _ _ h; exact h) (Or.inl ⟨by rfl, ?_⟩) (by assumption) ?_
        rotate_left
        · intro w _; go_simp; try with_reducible rfl
        try simp only [Act.put, List.setIfInBounds_toArray, List.set_cons_zero, List.set_cons_succ, Array.replicate]
        refine wpAnyH_take (i := 7) (v := ?_) (by simp only [List.getElem?_toArray, List.getElem?_cons_zero, List.getElem?_cons_succ] <;> rfl) (by kernel_rfl) (by kernel_rfl) (by kernel_rfl) (by intro _ _ _ h; exact h) (Or.inl ⟨by rfl, ?_⟩) (by assumption) ?_
        rotate_left
        · intro w hSS; have q1 := bcell hSS hcy hbl; go_simp; try with_reducible rfl
        try simp only [Act.put, List.setIfInBounds_toArray, List.set_cons_zero, List.set_cons_succ, Array.replicate]
        refine wpAnyH_take (i := 8) (v := ?_) (by simp only [List.getElem?_toArray, List.getElem?_cons_zero, List.getElem?_cons_succ] <;> rfl) (by kernel_rfl) (by kernel_rfl) (by kernel_rfl) (by intro _ _ _ h; exact h) (Or.inl ⟨by rfl, ?_⟩) (by assumption) ?_
        rotate_left
        · intro w _; go_simp; try with_reducible rfl
        try simp only [Act.put, List.setIfInBounds_toArray, List.set_cons_zero, List.set_cons_succ, Array.replicate]
        refine wpAnyH_take (i := 9) (v := ?_) (by simp only [List.getElem?_toArray, List.getElem?_cons_zero, List.getElem?_cons_succ] <;> rfl) (by kernel_rfl) (by kernel_rfl) (by kernel_rfl) (by intro _ _ _ h; exact h) (Or.inl ⟨by rfl, ?_⟩) (by assumption) ?_
        rotate_left
        · intro w hSS; have q1 := bcell hSS hc0 hw0; go_simp; try with_reducible rfl
        try simp only [Act.put, List.setIfInBounds_toArray, List.set_cons_zero, List.set_cons_succ, Array.replicate]
        refine wpAnyH_take (i := 10) (v := ?_) (by simp only [List.getElem?_toArray, List.getElem?_cons_zero, List.getElem?_cons_succ] <;> rfl) (by kernel_rfl) (by kernel_rfl) (by kernel_rfl) (by intro _ _ _ h; exact h) (Or.inl ⟨by rfl, ?_⟩) (by assumption) ?_
        rotate_left
        · intro w _; go_simp; try with_reducible rfl
        try simp only [Act.put, List.setIfInBounds_toArray, List.set_cons_zero, List.set_cons_succ, Array.replicate]
        refine wpAnyH_take (i := 11) (v := ?_) (by simp only [List.getElem?_toArray, List.getElem?_cons_zero, List.getElem?_cons_succ] <;> rfl) (by kernel_rfl) (by kernel_rfl) (by kernel_rfl) (by intro _ _ _ h; exact h) (Or.inl ⟨by rfl, ?_⟩) (by assumption) ?_
        rotate_left
        · intro w _; go_simp; try with_reducible rfl
        try simp only [Act.put, List.setIfInBounds_toArray, List.set_cons_zero, List.set_cons_succ, Array.replicate]
        refine wpAnyH_done (by kernel_rfl) ?_ _
        go_upto_region 7 with fail
        refine wp_region_held_drew (S := fun w' => Below C W0 w') (by kernel_rfl) (by exact HB.out.drew.drew) (fun hHeld => ?_)
        refine wpAnyH_take (i := 0) (v := ?_) (by simp only [List.getElem?_toArray, List.getElem?_cons_zero, List.getElem?_cons_succ] <;> rfl) (by kernel_rfl) (by kernel_rfl) (by kernel_rfl) (by intro _ _ _ h; exact h) (Or.inl ⟨by rfl, ?_⟩) (by assumption) ?_
        rotate_left
        · intro w _; go_simp; try with_reducible rfl
        try simp only [Act.put, List.setIfInBounds_toArray, List.set_cons_zero, List.set_cons_succ, Array.replicate]
        refine wpAnyH_take (i := 1) (v := ?_) (by simp only [List.getElem?_toArray, List.getElem?_cons_zero, List.getElem?_cons_succ] <;> rfl) (by kernel_rfl) (by kernel_rfl) (by kernel_rfl) (by intro _ _ _ h; exact h) (Or.inl ⟨by rfl, ?_⟩) (by assumption) ?_
        rotate_left
        · intro w _; go_simp; try with_reducible rfl
        try simp only [Act.put, List.setIfInBounds_toArray, List.set_cons_zero, List.set_cons_succ, Array.replicate]
        refine wpAnyH_take (i := 2) (v := ?_) (by simp only [List.getElem?_toArray, List.getElem?_cons_zero, List.getElem?_cons_succ] <;> rfl) (by kernel_rfl) (by kernel_rfl) (by kernel_rfl) (by intro _ _ _ h; exact h) (Or.inl ⟨by rfl, ?_⟩) (by assumption) ?_
        rotate_left
        · intro w _; go_simp; try with_reducible rfl
        try simp only [Act.put, List.setIfInBounds_toArray, List.set_cons_zero, List.set_cons_succ, Array.replicate]
        refine wpAnyH_take (i := 3) (v := ?_) (by simp only [List.getElem?_toArray, List.getElem?_cons_zero, List.getElem?_cons_succ] <;> rfl) (by kernel_rfl) (by kernel_rfl) (by kernel_rfl) (by intro _ _ _ h; exact h) (Or.inl ⟨by rfl, ?_⟩) (by assumption) ?_
        rotate_left
        · intro w _; go_simp; try with_reducible rfl
        try simp only [Act.put, List.setIfInBounds_toArray, List.set_cons_zero, List.set_cons_succ, Array.replicate]
        refine wpAnyH_take (i := 4) (v := ?_) (by simp only [List.getElem?_toArray, List.getElem?_cons_zero, List.getElem?_cons_succ] <;> rfl) (by kernel_rfl) (by kernel_rfl) (by kernel_rfl) (by intro _ _ _ h; exact h) (Or.inl ⟨by rfl, ?_⟩) (by assumption) ?_
        rotate_left
        · intro w hSS; have q1 := bcell hSS hcy hbl; go_simp; try with_reducible rfl
        try simp only [Act.put, List.setIfInBounds_toArray, List.set_cons_zero, List.set_cons_succ, Array.replicate]
        refine wpAnyH_take (i := 5) (v := ?_) (by simp only [List.getElem?_toArray, List.getElem?_cons_zero, List.getElem?_cons_succ] <;> rfl) (by kernel_rfl) (by kernel_rfl) (by kernel_rfl) (by intro _ _ _ h; exact h) (Or.inl ⟨by rfl, ?_⟩) (by assumption) ?_
        rotate_left
        · intro w _; go_simp; try with_reducible rfl
        try simp only [Act.put, List.setIfInBounds_toArray, List.set_cons_zero, List.set_cons_succ, Array.replicate]
        refine wpAnyH_take (i := 6) (v := ?_) (by simp only [List.getElem?_toArray, List.getElem?_cons_zero, List.getElem?_cons_succ] <;> rfl) (by kernel_rfl) (by kernel_rfl) (by kernel_rfl) (by intro _ _ _ h; exact h) (Or.inl ⟨by rfl, ?_⟩) (by assumption) ?_
        rotate_left
        · intro w hSS; have q1 := bcell hSS hc0 hw0; go_simp; try with_reducible rfl
        try simp only [Act.put, List.setIfInBounds_toArray, List.set_cons_zero, List.set_cons_succ, Array.replicate]
        refine wpAnyH_take (i := 7) (v := ?_) (by simp only [List.getElem?_toArray, List.getElem?_cons_zero, List.getElem?_cons_succ] <;> rfl) (by kernel_rfl) (by kernel_rfl) (by kernel_rfl) (by intro _ _ _ h; exact h) (Or.inl ⟨by rfl, ?_⟩) (by assumption) ?_
        rotate_left
        · intro w _; go_simp; try with_reducible rfl
        try simp only [Act.put, List.setIfInBounds_toArray, List.set_cons_zero, List.set_cons_succ, Array.replicate]
        refine wpAnyH_done (by kernel_rfl) ?_ _
        obtain ⟨Wd, hWd⟩ : ∃ Wd, wr.drew.drew = Wd := ⟨_, rfl⟩
        have OWd : Hid (OwnI Wd C u5 (outF l x a j)) := by rw [← hWd]; exact HO.out
        have BWd : Hid (Below C W0 Wd) := by rw [← hWd]; exact HB.out.drew.drew
        have hWdz := BWd.out.size
        rw [hWd]
        clear hWd
        go_wp2_with (first
          | (with_reducible refine load_item rfl (.tmp 42) rfl ba _ rfl y HYO.out (rangeAt_below' HRG.out BWd.out (Nat.le_of_eq HCC.out)) ?_)
          | (with_reducible refine build_one rfl (.tmp 43) rfl y HYO.out rfl ?_)
          | (at_builtin; refine app_items (base := C) rfl (.tmp 39) (.tmp 44) rfl rfl (OWd.out.below (balloc (Below.refl _ Wd) _) (Nat.le_refl _)) rfl (its_lit Wd y HYO.out) (by have := HOL.out; have := hCz; simp; omega) (by have := balloc (Below.refl Wd.heap.size Wd) (.cells (itC y).toArray 38); have := this.size; have := HCC.out; omega) ?_; intro v9 w9 ho9 hb9; have O9 := Lib.hid ho9; have B9 := Lib.hid (BWd.out.trans (((Below.refl C Wd).alloc (by have := HCC.out; omega) _).trans hb9)); clear ho9 hb9))
        exact ⟨⟨j + 1, by omega, by go_num, by rw [HQ.out], by rw [HNX.out, HY.out]; exact O9.out, B9.out⟩, by simp [intOf]; omega⟩
      · have HQ : Hid (decide (a < j + 1) = true) := by show _ = _; simp; omega
        have hq : decide (a < j) = false := by simp; omega
        obtain ⟨h1, h2⟩ := heqa.out hja
        have hl1 : Go.Op.bytesLess y.name.toList x.name.toList = false := by rw [toL, toL]; exact h1
        rw [hq]
        obtain ⟨q, hq2⟩ : ∃ q, Tre.has l x.nm = q := ⟨_, rfl⟩
        have hne : (y.name.toList == x.name.toList) = q := by rw [toL, toL, ← hq2, h2, Bool.eq_iff_iff]; simp
        cases q with
        | true =>
          have HNX : Hid (outF l x a (j + 1) = outF l x a j ++ [x]) := by subst hja; exact outF_eq_has l x j hlt hq2
          clear hq hless hgt heqa h1 h2 hq2 hja
          go_upto_region 5 with fail
          refine wp_region_held_drew (S := fun w' => Below C W0 w') (by kernel_rfl) (by exact HB.out.drew) (fun hHeld => ?_)
          refine wpAnyH_take (i := 0) (v := ?_) (by simp only [List.getElem?_toArray, List.getElem?_cons_zero, List.getElem?_cons_succ] <;> rfl) (by kernel_rfl) (by kernel_rfl) (by kernel_rfl) (by intro _ _ _ h; exact h) (Or.inl ⟨by rfl, ?_⟩) (by assumption) ?_
          rotate_left
          · intro w _; go_simp; try with_reducible rfl
          try simp only [Act.put, List.setIfInBounds_toArray, List.set_cons_zero, List.set_cons_succ, Array.replicate]
          refine wpAnyH_take (i := 1) (v := ?_) (by simp only [List.getElem?_toArray, List.getElem?_cons_zero, List.getElem?_cons_succ] <;> rfl) (by kernel_rfl) (by kernel_rfl) (by kernel_rfl) (by intro _ _ _ h; exact h) (Or.inl ⟨by rfl, ?_⟩) (by assumption) ?_
          rotate_left
          · intro w _; go_simp; try with_reducible rfl
          try simp only [Act.put, List.setIfInBounds_toArray, List.set_cons_zero, List.set_cons_succ, Array.replicate]
          refine wpAnyH_take (i := 2) (v := ?_) (by simp only [List.getElem?_toArray, List.getElem?_cons_zero, List.getElem?_cons_succ] <;> rfl) (by kernel_rfl) (by kernel_rfl) (by kernel_rfl) (by intro _ _ _ h; exact h) (Or.inl ⟨by rfl, ?_⟩) (by assumption) ?_
          rotate_left
          · intro w _; go_simp; try with_reducible rfl
          try simp only [Act.put, List.setIfInBounds_toArray, List.set_cons_zero, List.set_cons_succ, Array.replicate]
          refine wpAnyH_take (i := 3) (v := ?_) (by simp only [List.getElem?_toArray, List.getElem?_cons_zero, List.getElem?_cons_succ] <;> rfl) (by kernel_rfl) (by kernel_rfl) (by kernel_rfl) (by intro _ _ _ h; exact h) (Or.inl ⟨by rfl, ?_⟩) (by assumption) ?_
          rotate_left
          · intro w _; go_simp; try with_reducible rfl
          try simp only [Act.put, List.setIfInBounds_toArray, List.set_cons_zero, List.set_cons_succ, Array.replicate]
          refine wpAnyH_take (i := 4) (v := ?_) (by simp only [List.getElem?_toArray, List.getElem?_cons_zero, List.getElem?_cons_succ] <;> rfl) (by kernel_rfl) (by kernel_rfl) (by kernel_rfl) (by intro _ _ _ h; exact h) (Or.inl ⟨by rfl, ?_⟩) (by assumption) ?_
          rotate_left
          · intro w _; go_simp; try with_reducible rfl
          try simp only [Act.put, List.setIfInBounds_toArray, List.set_cons_zero, List.set_cons_succ, Array.replicate]
          refine wpAnyH_take (i := 5) (v := ?_) (by simp only [List.getElem?_toArray, List.getElem?_cons_zero, List.getElem?_cons_succ] <;> rfl) (by kernel_rfl) (by kernel_rfl) (by kernel_rfl) (by intro _ _ _ h; exact h) (Or.inl ⟨by rfl, ?_⟩) (by assumption) ?_
          rotate_left
          · intro w _; go_simp; try with_reducible rfl
          try simp only [Act.put, List.setIfInBounds_toArray, List.set_cons_zero, List.set_cons_succ, Array.replicate]
          refine wpAnyH_take (i := 6) (v := ?_) (by simp only [List.getElem?_toArray, List.getElem?_cons_zero, List.getElem?_cons_succ] <;> rfl) (by kernel_rfl) (by kernel_rfl) (by kernel_rfl) (by intro _ _ _ h; exact h) (Or.inl ⟨by rfl, ?_⟩) (by assumption) ?_
          rotate_left
          · intro w _; go_simp; try with_reducible rfl
          try simp only [Act.put, List.setIfInBounds_toArray, List.set_cons_zero, List.set_cons_succ, Array.replicate]
          refine wpAnyH_take (i := 7) (v := ?_) (by simp only [List.getElem?_toArray, List.getElem?_cons_zero, List.getElem?_cons_succ] <;> rfl) (by kernel_rfl) (by kernel_rfl) (by kernel_rfl) (by intro _ _ _ h; exact h) (Or.inl ⟨by rfl, ?_⟩) (by assumption) ?_
          rotate_left
          · intro w hSS; have q1 := bcell hSS hcy hbl; go_simp; try with_reducible rfl
          try simp only [Act.put, List.setIfInBounds_toArray, List.set_cons_zero, List.set_cons_succ, Array.replicate]
          refine wpAnyH_take (i := 8) (v := ?_) (by simp only [List.getElem?_toArray, List.getElem?_cons_zero, List.getElem?_cons_succ] <;> rfl) (by kernel_rfl) (by kernel_rfl) (by kernel_rfl) (by intro _ _ _ h; exact h) (Or.inl ⟨by rfl, ?_⟩) (by assumption) ?_
          rotate_left
          · intro w _; go_simp; try with_reducible rfl
          try simp only [Act.put, List.setIfInBounds_toArray, List.set_cons_zero, List.set_cons_succ, Array.replicate]
          refine wpAnyH_take (i := 9) (v := ?_) (by simp only [List.getElem?_toArray, List.getElem?_cons_zero, List.getElem?_cons_succ] <;> rfl) (by kernel_rfl) (by kernel_rfl) (by kernel_rfl) (by intro _ _ _ h; exact h) (Or.inl ⟨by rfl, ?_⟩) (by assumption) ?_
          rotate_left
          · intro w hSS; have q1 := bcell hSS hc0 hw0; go_simp; try with_reducible rfl
          try simp only [Act.put, List.setIfInBounds_toArray, List.set_cons_zero, List.set_cons_succ, Array.replicate]
          refine wpAnyH_take (i := 10) (v := ?_) (by simp only [List.getElem?_toArray, List.getElem?_cons_zero, List.getElem?_cons_succ] <;> rfl) (by kernel_rfl) (by kernel_rfl) (by kernel_rfl) (by intro _ _ _ h; exact h) (Or.inl ⟨by rfl, ?_⟩) (by assumption) ?_
          rotate_left
          · intro w _; go_simp; try with_reducible rfl
          try simp only [Act.put, List.setIfInBounds_toArray, List.set_cons_zero, List.set_cons_succ, Array.replicate]
          refine wpAnyH_take (i := 11) (v := ?_) (by simp only [List.getElem?_toArray, List.getElem?_cons_zero, List.getElem?_cons_succ] <;> rfl) (by kernel_rfl) (by kernel_rfl) (by kernel_rfl) (by intro _ _ _ h; exact h) (Or.inl ⟨by rfl, ?_⟩) (by assumption) ?_
          rotate_left
          · intro w _; go_simp; try with_reducible rfl
          try simp only [Act.put, List.setIfInBounds_toArray, List.set_cons_zero, List.set_cons_succ, Array.replicate]
          refine wpAnyH_done (by kernel_rfl) ?_ _
          obtain ⟨Wc, hWc⟩ : ∃ Wd, wr.drew = Wd := ⟨_, rfl⟩
          have OWc : Hid (OwnI Wc C u5 (outF l x a j)) := by rw [← hWc]; exact HO.out
          have BWc : Hid (Below C W0 Wc) := by rw [← hWc]; exact HB.out.drew
          have hWcz := BWc.out.size
          rw [hWc]
          clear hWc
          go_upto_region 7 with (first
            | (with_reducible refine load_item rfl (.tmp 3) rfl B 0 rfl x HXO.out (rangeAt_below' hrx.out BWc.out (Nat.le_of_eq HCC.out)) ?_)
            | (with_reducible refine build_one rfl (.tmp 28) rfl x HXO.out rfl ?_)
            | (at_builtin; refine app_items (base := C) rfl (.tmp 27) (.tmp 29) rfl rfl (OWc.out.below (balloc (Below.refl _ Wc) _) (Nat.le_refl _)) rfl (its_lit Wc x HXO.out) (by have := HOL.out; have := hCz; simp; omega) (by have := balloc (Below.refl Wc.heap.size Wc) (.cells (itC x).toArray 38); have := this.size; have := HCC.out; omega) ?_; intro v6 w6 ho6 hb6; have O6 := Lib.hid ho6; have B6 := Lib.hid (BWc.out.trans (((Below.refl C Wc).alloc (by have := HCC.out; omega) _).trans hb6)); clear ho6 hb6))
          refine wp_region_held_drew (S := fun w' => Below C W0 w') (by kernel_rfl) (by exact B6.out.drew) (fun hHeld => ?_)
          refine wpAnyH_take (i := 0) (v := ?_) (by simp only [List.getElem?_toArray, List.getElem?_cons_zero, List.getElem?_cons_succ] <;> rfl) (by kernel_rfl) (by kernel_rfl) (by kernel_rfl) (by intro _ _ _ h; exact h) (Or.inl ⟨by rfl, ?_⟩) (by assumption) ?_
          rotate_left
          · intro w _; go_simp; try with_reducible rfl
          try simp only [Act.put, List.setIfInBounds_toArray, List.set_cons_zero, List.set_cons_succ, Array.replicate]
          refine wpAnyH_take (i := 1) (v := ?_) (by simp only [List.getElem?_toArray, List.getElem?_cons_zero, List.getElem?_cons_succ] <;> rfl) (by kernel_rfl) (by kernel_rfl) (by kernel_rfl) (by intro _ _ _ h; exact h) (Or.inl ⟨by rfl, ?_⟩) (by assumption) ?_
          rotate_left
          · intro w _; go_simp; try with_reducible rfl
          try simp only [Act.put, List.setIfInBounds_toArray, List.set_cons_zero, List.set_cons_succ, Array.replicate]
          refine wpAnyH_take (i := 2) (v := ?_) (by simp only [List.getElem?_toArray, List.getElem?_cons_zero, List.getElem?_cons_succ] <;> rfl) (by kernel_rfl) (by kernel_rfl) (by kernel_rfl) (by intro _ _ _ h; exact h) (Or.inl ⟨by rfl, ?_⟩) (by assumption) ?_
          rotate_left
          · intro w _; go_simp; try with_reducible rfl
          try simp only [Act.put, List.setIfInBounds_toArray, List.set_cons_zero, List.set_cons_succ, Array.replicate]
          refine wpAnyH_take (i := 3) (v := ?_) (by simp only [List.getElem?_toArray, List.getElem?_cons_zero, List.getElem?_cons_succ] <;> rfl) (by kernel_rfl) (by kernel_rfl) (by kernel_rfl) (by intro _ _ _ h; exact h) (Or.inl ⟨by rfl, ?_⟩) (by assumption) ?_
          rotate_left
          · intro w _; go_simp; try with_reducible rfl
          try simp only [Act.put, List.setIfInBounds_toArray, List.set_cons_zero, List.set_cons_succ, Array.replicate]
          refine wpAnyH_take (i := 4) (v := ?_) (by simp only [List.getElem?_toArray, List.getElem?_cons_zero, List.getElem?_cons_succ] <;> rfl) (by kernel_rfl) (by kernel_rfl) (by kernel_rfl) (by intro _ _ _ h; exact h) (Or.inl ⟨by rfl, ?_⟩) (by assumption) ?_
          rotate_left
          · intro w hSS; have q1 := bcell hSS hcy hbl; go_simp; try with_reducible rfl
          try simp only [Act.put, List.setIfInBounds_toArray, List.set_cons_zero, List.set_cons_succ, Array.replicate]
          refine wpAnyH_take (i := 5) (v := ?_) (by simp only [List.getElem?_toArray, List.getElem?_cons_zero, List.getElem?_cons_succ] <;> rfl) (by kernel_rfl) (by kernel_rfl) (by kernel_rfl) (by intro _ _ _ h; exact h) (Or.inl ⟨by rfl, ?_⟩) (by assumption) ?_
          rotate_left
          · intro w _; go_simp; try with_reducible rfl
          try simp only [Act.put, List.setIfInBounds_toArray, List.set_cons_zero, List.set_cons_succ, Array.replicate]
          refine wpAnyH_take (i := 6) (v := ?_) (by simp only [List.getElem?_toArray, List.getElem?_cons_zero, List.getElem?_cons_succ] <;> rfl) (by kernel_rfl) (by kernel_rfl) (by kernel_rfl) (by intro _ _ _ h; exact h) (Or.inl ⟨by rfl, ?_⟩) (by assumption) ?_
          rotate_left
          · intro w hSS; have q1 := bcell hSS hc0 hw0; go_simp; try with_reducible rfl
          try simp only [Act.put, List.setIfInBounds_toArray, List.set_cons_zero, List.set_cons_succ, Array.replicate]
          refine wpAnyH_take (i := 7) (v := ?_) (by simp only [List.getElem?_toArray, List.getElem?_cons_zero, List.getElem?_cons_succ] <;> rfl) (by kernel_rfl) (by kernel_rfl) (by kernel_rfl) (by intro _ _ _ h; exact h) (Or.inl ⟨by rfl, ?_⟩) (by assumption) ?_
          rotate_left
          · intro w _; go_simp; try with_reducible rfl
          try simp only [Act.put, List.setIfInBounds_toArray, List.set_cons_zero, List.set_cons_succ, Array.replicate]
          refine wpAnyH_done (by kernel_rfl) ?_ _
          go_wp2_with fail
          exact ⟨⟨j + 1, by omega, by go_num, by rw [HQ.out], by rw [HNX.out]; exact O6.out, B6.out.drew⟩, by simp [intOf]; omega⟩
        | false =>
          have HNX : Hid (outF l x a (j + 1) = outF l x a j ++ [x] ++ [l.getD j dIt]) := by subst hja; exact outF_eq_no l x j hlt hq2
          clear hq hless hgt heqa h1 h2 hq2 hja
          go_upto_region 5 with fail
          refine wp_region_held_drew (S := fun w' => Below C W0 w') (by kernel_rfl) (by exact HB.out.drew) (fun hHeld => ?_)
          refine wpAnyH_take (i := 0) (v := ?_) (by simp only [List.getElem?_toArray, List.getElem?_cons_zero, List.getElem?_cons_succ] <;> rfl) (by kernel_rfl) (by kernel_rfl) (by kernel_rfl) (by intro _ _ _ h; exact h) (Or.inl ⟨by rfl, ?_⟩) (by assumption) ?_
          rotate_left
          · intro w _; go_simp; try with_reducible rfl
          try simp only [Act.put, List.setIfInBounds_toArray, List.set_cons_zero, List.set_cons_succ, Array.replicate]
          refine wpAnyH_take (i := 1) (v := ?_) (by simp only [List.getElem?_toArray, List.getElem?_cons_zero, List.getElem?_cons_succ] <;> rfl) (by kernel_rfl) (by kernel_rfl) (by kernel_rfl) (by intro _ _ _ h; exact h) (Or.inl ⟨by rfl, ?_⟩) (by assumption) ?_
          rotate_left
          · intro w _; go_simp; try with_reducible rfl
          try simp only [Act.put, List.setIfInBounds_toArray, List.set_cons_zero, List.set_cons_succ, Array.replicate]
          refine wpAnyH_take (i := 2) (v := ?_) (by simp only [List.getElem?_toArray, List.getElem?_cons_zero, List.getElem?_cons_succ] <;> rfl) (by kernel_rfl) (by kernel_rfl) (by kernel_rfl) (by intro _ _ _ h; exact h) (Or.inl ⟨by rfl, ?_⟩) (by assumption) ?_
          rotate_left
          · intro w _; go_simp; try with_reducible rfl
          try simp only [Act.put, List.setIfInBounds_toArray, List.set_cons_zero, List.set_cons_succ, Array.replicate]
          refine wpAnyH_take (i := 3) (v := ?_) (by simp only [List.getElem?_toArray, List.getElem?_cons_zero, List.getElem?_cons_succ] <;> rfl) (by kernel_rfl) (by kernel_rfl) (by kernel_rfl) (by intro _ _ _ h; exact h) (Or.inl ⟨by rfl, ?_⟩) (by assumption) ?_
          rotate_left
          · intro w _; go_simp; try with_reducible rfl
          try simp only [Act.put, List.setIfInBounds_toArray, List.set_cons_zero, List.set_cons_succ, Array.replicate]
          refine wpAnyH_take (i := 4) (v := ?_) (by simp only [List.getElem?_toArray, List.getElem?_cons_zero, List.getElem?_cons_succ] <;> rfl) (by kernel_rfl) (by kernel_rfl) (by kernel_rfl) (by intro _ _ _ h; exact h) (Or.inl ⟨by rfl, ?_⟩) (by assumption) ?_
          rotate_left
          · intro w _; go_simp; try with_reducible rfl
          try simp only [Act.put, List.setIfInBounds_toArray, List.set_cons_zero, List.set_cons_succ, Array.replicate]
          refine wpAnyH_take (i := 5) (v := ?_) (by simp only [List.getElem?_toArray, List.getElem?_cons_zero, List.getElem?_cons_succ] <;> rfl) (by kernel_rfl) (by kernel_rfl) (by kernel_rfl) (by intro _ _ _ h; exact h) (Or.inl ⟨by rfl, ?_⟩) (by assumption) ?_
          rotate_left
          · intro w _; go_simp; try with_reducible rfl
          try simp only [Act.put, List.setIfInBounds_toArray, List.set_cons_zero, List.set_cons_succ, Array.replicate]
          refine wpAnyH_take (i := 6) (v := ?_) (by simp only [List.getElem?_toArray, List.getElem?_cons_zero, List.getElem?_cons_succ] <;> rfl) (by kernel_rfl) (by kernel_rfl) (by kernel_rfl) (by intro _ _ _ h; exact h) (Or.inl ⟨by rfl, ?_⟩) (by assumption) ?_
          rotate_left
          · intro w _; go_simp; try with_reducible rfl
          try simp only [Act.put, List.setIfInBounds_toArray, List.set_cons_zero, List.set_cons_succ, Array.replicate]
          refine wpAnyH_take (i := 7) (v := ?_) (by simp only [List.getElem?_toArray, List.getElem?_cons_zero, List.getElem?_cons_succ] <;> rfl) (by kernel_rfl) (by kernel_rfl) (by kernel_rfl) (by intro _ _ _ h; exact h) (Or.inl ⟨by rfl, ?_⟩) (by assumption) ?_
          rotate_left
          · intro w hSS; have q1 := bcell hSS hcy hbl; go_simp; try with_reducible rfl
          try simp only [Act.put, List.setIfInBounds_toArray, List.set_cons_zero, List.set_cons_succ, Array.replicate]
          refine wpAnyH_take (i := 8) (v := ?_) (by simp only [List.getElem?_toArray, List.getElem?_cons_zero, List.getElem?_cons_succ] <;> rfl) (by kernel_rfl) (by kernel_rfl) (by kernel_rfl) (by intro _ _ _ h; exact h) (Or.inl ⟨by rfl, ?_⟩) (by assumption) ?_
          rotate_left
          · intro w _; go_simp; try with_reducible rfl
          try simp only [Act.put, List.setIfInBounds_toArray, List.set_cons_zero, List.set_cons_succ, Array.replicate]
          refine wpAnyH_take (i := 9) (v := ?_) (by simp only [List.getElem?_toArray, List.getElem?_cons_zero, List.getElem?_cons_succ] <;> rfl) (by kernel_rfl) (by kernel_rfl) (by kernel_rfl) (by intro _ _ _ h; exact h) (Or.inl ⟨by rfl, ?_⟩) (by assumption) ?_
          rotate_left
          · intro w hSS; have q1 := bcell hSS hc0 hw0; go_simp; try with_reducible rfl
          try simp only [Act.put, List.setIfInBounds_toArray, List.set_cons_zero, List.set_cons_succ, Array.replicate]
          refine wpAnyH_take (i := 10) (v := ?_) (by simp only [List.getElem?_toArray, List.getElem?_cons_zero, List.getElem?_cons_succ] <;> rfl) (by kernel_rfl) (by kernel_rfl) (by kernel_rfl) (by intro _ _ _ h; exact h) (Or.inl ⟨by rfl, ?_⟩) (by assumption) ?_
          rotate_left
          · intro w _; go_simp; try with_reducible rfl
          try simp only [Act.put, List.setIfInBounds_toArray, List.set_cons_zero, List.set_cons_succ, Array.replicate]
          refine wpAnyH_take (i := 11) (v := ?_) (by simp only [List.getElem?_toArray, List.getElem?_cons_zero, List.getElem?_cons_succ] <;> rfl) (by kernel_rfl) (by kernel_rfl) (by kernel_rfl) (by intro _ _ _ h; exact h) (Or.inl ⟨by rfl, ?_⟩) (by assumption) ?_
          rotate_left
          · intro w _; go_simp; try with_reducible rfl
          try simp only [Act.put, List.setIfInBounds_toArray, List.set_cons_zero, List.set_cons_succ, Array.replicate]
          refine wpAnyH_done (by kernel_rfl) ?_ _
          obtain ⟨Wc, hWc⟩ : ∃ Wd, wr.drew = Wd := ⟨_, rfl⟩
          have OWc : Hid (OwnI Wc C u5 (outF l x a j)) := by rw [← hWc]; exact HO.out
          have BWc : Hid (Below C W0 Wc) := by rw [← hWc]; exact HB.out.drew
          have hWcz := BWc.out.size
          rw [hWc]
          clear hWc
          go_upto_region 7 with (first
            | (with_reducible refine load_item rfl (.tmp 3) rfl B 0 rfl x HXO.out (rangeAt_below' hrx.out BWc.out (Nat.le_of_eq HCC.out)) ?_)
            | (with_reducible refine build_one rfl (.tmp 28) rfl x HXO.out rfl ?_)
            | (at_builtin; refine app_items (base := C) rfl (.tmp 27) (.tmp 29) rfl rfl (OWc.out.below (balloc (Below.refl _ Wc) _) (Nat.le_refl _)) rfl (its_lit Wc x HXO.out) (by have := HOL.out; have := hCz; simp; omega) (by have := balloc (Below.refl Wc.heap.size Wc) (.cells (itC x).toArray 38); have := this.size; have := HCC.out; omega) ?_; intro v6 w6 ho6 hb6; have O6 := Lib.hid ho6; have B6 := Lib.hid (BWc.out.trans (((Below.refl C Wc).alloc (by have := HCC.out; omega) _).trans hb6)); clear ho6 hb6))
          refine wp_region_held_drew (S := fun w' => Below C W0 w') (by kernel_rfl) (by exact B6.out.drew) (fun hHeld => ?_)
          refine wpAnyH_take (i := 0) (v := ?_) (by simp only [List.getElem?_toArray, List.getElem?_cons_zero, List.getElem?_cons_succ] <;> rfl) (by kernel_rfl) (by kernel_rfl) (by kernel_rfl) (by intro _ _ _ h; exact h) (Or.inl ⟨by rfl, ?_⟩) (by assumption) ?_
          rotate_left
          · intro w _; go_simp; try with_reducible rfl
          try simp only [Act.put, List.setIfInBounds_toArray, List.set_cons_zero, List.set_cons_succ, Array.replicate]
          refine wpAnyH_take (i := 1) (v := ?_) (by simp only [List.getElem?_toArray, List.getElem?_cons_zero, List.getElem?_cons_succ] <;> rfl) (by kernel_rfl) (by kernel_rfl) (by kernel_rfl) (by intro _ _ _ h; exact h) (Or.inl ⟨by rfl, ?_⟩) (by assumption) ?_
          rotate_left
          · intro w _; go_simp; try with_reducible rfl
          try simp only [Act.put, List.setIfInBounds_toArray, List.set_cons_zero, List.set_cons_succ, Array.replicate]
          refine wpAnyH_take (i := 2) (v := ?_) (by simp only [List.getElem?_toArray, List.getElem?_cons_zero, List.getElem?_cons_succ] <;> rfl) (by kernel_rfl) (by kernel_rfl) (by kernel_rfl) (by intro _ _ _ h; exact h) (Or.inl ⟨by rfl, ?_⟩) (by assumption) ?_
          rotate_left
          · intro w _; go_simp; try with_reducible rfl
          try simp only [Act.put, List.setIfInBounds_toArray, List.set_cons_zero, List.set_cons_succ, Array.replicate]
          refine wpAnyH_take (i := 3) (v := ?_) (by simp only [List.getElem?_toArray, List.getElem?_cons_zero, List.getElem?_cons_succ] <;> rfl) (by kernel_rfl) (by kernel_rfl) (by kernel_rfl) (by intro _ _ _ h; exact h) (Or.inl ⟨by rfl, ?_⟩) (by assumption) ?_
          rotate_left
          · intro w _; go_simp; try with_reducible rfl
          try simp only [Act.put, List.setIfInBounds_toArray, List.set_cons_zero, List.set_cons_succ, Array.replicate]
          refine wpAnyH_take (i := 4) (v := ?_) (by simp only [List.getElem?_toArray, List.getElem?_cons_zero, List.getElem?_cons_succ] <;> rfl) (by kernel_rfl) (by kernel_rfl) (by kernel_rfl) (by intro _ _ _ h; exact h) (Or.inl ⟨by rfl, ?_⟩) (by assumption) ?_
          rotate_left
          · intro w hSS; have q1 := bcell hSS hcy hbl; go_simp; try with_reducible rfl
          try simp only [Act.put, List.setIfInBounds_toArray, List.set_cons_zero, List.set_cons_succ, Array.replicate]
          refine wpAnyH_take (i := 5) (v := ?_) (by simp only [List.getElem?_toArray, List.getElem?_cons_zero, List.getElem?_cons_succ] <;> rfl) (by kernel_rfl) (by kernel_rfl) (by kernel_rfl) (by intro _ _ _ h; exact h) (Or.inl ⟨by rfl, ?_⟩) (by assumption) ?_
          rotate_left
          · intro w _; go_simp; try with_reducible rfl
          try simp only [Act.put, List.setIfInBounds_toArray, List.set_cons_zero, List.set_cons_succ, Array.replicate]
          refine wpAnyH_take (i := 6) (v := ?_) (by simp only [List.getElem?_toArray, List.getElem?_cons_zero, List.getElem?_cons_succ] <;> rfl) (by kernel_rfl) (by kernel_rfl) (by kernel_rfl) (by intro _ _ _ h; exact h) (Or.inl ⟨by rfl, ?_⟩) (by assumption) ?_
          rotate_left
          · intro w hSS; have q1 := bcell hSS hc0 hw0; go_simp; try with_reducible rfl
          try simp only [Act.put, List.setIfInBounds_toArray, List.set_cons_zero, List.set_cons_succ, Array.replicate]
          refine wpAnyH_take (i := 7) (v := ?_) (by simp only [List.getElem?_toArray, List.getElem?_cons_zero, List.getElem?_cons_succ] <;> rfl) (by kernel_rfl) (by kernel_rfl) (by kernel_rfl) (by intro _ _ _ h; exact h) (Or.inl ⟨by rfl, ?_⟩) (by assumption) ?_
          rotate_left
          · intro w _; go_simp; try with_reducible rfl
          try simp only [Act.put, List.setIfInBounds_toArray, List.set_cons_zero, List.set_cons_succ, Array.replicate]
          refine wpAnyH_done (by kernel_rfl) ?_ _
          obtain ⟨Wd, hWd⟩ : ∃ Wd, w6.drew = Wd := ⟨_, rfl⟩
          have OWd : Hid (OwnI Wd C v6 (outF l x a j ++ [x])) := by rw [← hWd]; exact O6.out
          have BWd : Hid (Below C W0 Wd) := by rw [← hWd]; exact B6.out.drew
          have hWdz := BWd.out.size
          rw [hWd]
          clear hWd
          go_wp2_with (first
            | (with_reducible refine load_item rfl (.tmp 42) rfl ba _ rfl y HYO.out (rangeAt_below' HRG.out BWd.out (Nat.le_of_eq HCC.out)) ?_)
            | (with_reducible refine build_one rfl (.tmp 43) rfl y HYO.out rfl ?_)
            | (at_builtin; refine app_items (base := C) rfl (.tmp 39) (.tmp 44) rfl rfl (OWd.out.below (balloc (Below.refl _ Wd) _) (Nat.le_refl _)) rfl (its_lit Wd y HYO.out) (by have := HOL.out; have := hCz; simp; omega) (by have := balloc (Below.refl Wd.heap.size Wd) (.cells (itC y).toArray 38); have := this.size; have := HCC.out; omega) ?_; intro v9 w9 ho9 hb9; have O9 := Lib.hid ho9; have B9 := Lib.hid (BWd.out.trans (((Below.refl C Wd).alloc (by have := HCC.out; omega) _).trans hb9)); clear ho9 hb9))
          exact ⟨⟨j + 1, by omega, by go_num, by rw [HQ.out], by rw [HNX.out, HY.out]; exact O9.out, B9.out⟩, by simp [intOf]; omega⟩
      · have HQ : Hid (decide (a < j + 1) = true) := by show _ = _; simp; omega
        have hq : decide (a < j) = true := by simp; omega
        have hne : (y.name.toList == x.name.toList) = false := by rw [toL, toL]; exact beq_eq_false_iff_ne.2 (fun e => by have := hgt.out hja; rw [e, Tre.less_irrefl] at this; cases this)
        have HNX := Lib.hid (outF_gt l x a j hja hlt)
        rw [hq]
        clear hq hless hgt heqa
        go_upto_region 5 with fail
        refine wp_region_held_drew (S := fun w' => Below C W0 w') (by kernel_rfl) (by exact HB.out.drew) (fun hHeld => ?_)
        refine wpAnyH_take (i := 0) (v := ?_) (by simp only [List.getElem?_toArray, List.getElem?_cons_zero, List.getElem?_cons_succ] <;> rfl) (by kernel_rfl) (by kernel_rfl) (by kernel_rfl) (by intro _ _ _ h; exact h) (Or.inl ⟨by rfl, ?_⟩) (by assumption) ?_
        rotate_left
        · intro w _; go_simp; try with_reducible rfl
        try simp only [Act.put, List.setIfInBounds_toArray, List.set_cons_zero, List.set_cons_succ, Array.replicate]
        refine wpAnyH_take (i := 1) (v := ?_) (by simp only [List.getElem?_toArray, List.getElem?_cons_zero, List.getElem?_cons_succ] <;> rfl) (by kernel_rfl) (by kernel_rfl) (by kernel_rfl) (by intro _ _ _ h; exact h) (Or.inl ⟨by rfl, ?_⟩) (by assumption) ?_
        rotate_left
        · intro w _; go_simp; try with_reducible rfl
        try simp only [Act.put, List.setIfInBounds_toArray, List.set_cons_zero, List.set_cons_succ, Array.replicate]
        refine wpAnyH_take (i := 2) (v := ?_) (by simp only [List.getElem?_toArray, List.getElem?_cons_zero, List.getElem?_cons_succ] <;> rfl) (by kernel_rfl) (by kernel_rfl) (by kernel_rfl) (by intro _ _ _ h; exact h) (Or.inl ⟨by rfl, ?_⟩) (by assumption) ?_
        rotate_left
        · intro w _; go_simp; try with_reducible rfl
        try simp only [Act.put, List.setIfInBounds_toArray, List.set_cons_zero, List.set_cons_succ, Array.replicate]
        refine wpAnyH_take (i := 3) (v := undef) (by simp only [List.getElem?_toArray, List.getElem?_cons_zero, List.getElem?_cons_succ] <;> rfl) (by kernel_rfl) (by kernel_rfl) (by kernel_rfl) (by intro _ _ _ h; exact h) (Or.inr ⟨by rfl, rfl⟩) (by assumption) ?_
        try simp only [Act.put, List.setIfInBounds_toArray, List.set_cons_zero, List.set_cons_succ, Array.replicate]
        refine wpAnyH_take (i := 4) (v := undef) (by simp only [List.getElem?_toArray, List.getElem?_cons_zero, List.getElem?_cons_succ] <;> rfl) (by kernel_rfl) (by kernel_rfl) (by kernel_rfl) (by intro _ _ _ h; exact h) (Or.inr ⟨by rfl, rfl⟩) (by assumption) ?_
        try simp only [Act.put, List.setIfInBounds_toArray, List.set_cons_zero, List.set_cons_succ, Array.replicate]
        refine wpAnyH_take (i := 5) (v := undef) (by simp only [List.getElem?_toArray, List.getElem?_cons_zero, List.getElem?_cons_succ] <;> rfl) (by kernel_rfl) (by kernel_rfl) (by kernel_rfl) (by intro _ _ _ h; exact h) (Or.inr ⟨by rfl, rfl⟩) (by assumption) ?_
        try simp only [Act.put, List.setIfInBounds_toArray, List.set_cons_zero, List.set_cons_succ, Array.replicate]
        refine wpAnyH_take (i := 6) (v := undef) (by simp only [List.getElem?_toArray, List.getElem?_cons_zero, List.getElem?_cons_succ] <;> rfl) (by kernel_rfl) (by kernel_rfl) (by kernel_rfl) (by intro _ _ _ h; exact h) (Or.inr ⟨by rfl, rfl⟩) (by assumption) ?_
        try simp only [Act.put, List.setIfInBounds_toArray, List.set_cons_zero, List.set_cons_succ, Array.replicate]
        refine wpAnyH_take (i := 7) (v := undef) (by simp only [List.getElem?_toArray, List.getElem?_cons_zero, List.getElem?_cons_succ] <;> rfl) (by kernel_rfl) (by kernel_rfl) (by kernel_rfl) (by intro _ _ _ h; exact h) (Or.inr ⟨by rfl, rfl⟩) (by assumption) ?_
        try simp only [Act.put, List.setIfInBounds_toArray, List.set_cons_zero, List.set_cons_succ, Array.replicate]
        refine wpAnyH_take (i := 8) (v := undef) (by simp only [List.getElem?_toArray, List.getElem?_cons_zero, List.getElem?_cons_succ] <;> rfl) (by kernel_rfl) (by kernel_rfl) (by kernel_rfl) (by intro _ _ _ h; exact h) (Or.inr ⟨by rfl, rfl⟩) (by assumption) ?_
        try simp only [Act.put, List.setIfInBounds_toArray, List.set_cons_zero, List.set_cons_succ, Array.replicate]
        refine wpAnyH_take (i := 9) (v := undef) (by simp only [List.getElem?_toArray, List.getElem?_cons_zero, List.getElem?_cons_succ] <;> rfl) (by kernel_rfl) (by kernel_rfl) (by kernel_rfl) (by intro _ _ _ h; exact h) (Or.inr ⟨by rfl, rfl⟩) (by assumption) ?_
        try simp only [Act.put, List.setIfInBounds_toArray, List.set_cons_zero, List.set_cons_succ, Array.replicate]
        refine wpAnyH_take (i := 10) (v := undef) (by simp only [List.getElem?_toArray, List.getElem?_cons_zero, List.getElem?_cons_succ] <;> rfl) (by kernel_rfl) (by kernel_rfl) (by kernel_rfl) (by intro _ _ _ h; exact h) (Or.inr ⟨by rfl, rfl⟩) (by assumption) ?_
        try simp only [Act.put, List.setIfInBounds_toArray, List.set_cons_zero, List.set_cons_succ, Array.replicate]
        refine wpAnyH_take (i := 11) (v := ?_) (by simp only [List.getElem?_toArray, List.getElem?_cons_zero, List.getElem?_cons_succ] <;> rfl) (by kernel_rfl) (by kernel_rfl) (by kernel_rfl) (by intro _ _ _ h; exact h) (Or.inl ⟨by rfl, ?_⟩) (by assumption) ?_
        rotate_left
        · intro w _; go_simp; try with_reducible rfl
        try simp only [Act.put, List.setIfInBounds_toArray, List.set_cons_zero, List.set_cons_succ, Array.replicate]
        refine wpAnyH_done (by kernel_rfl) ?_ _
        go_upto_region 7 with fail
        refine wp_region_held_drew (S := fun w' => Below C W0 w') (by kernel_rfl) (by exact HB.out.drew.drew) (fun hHeld => ?_)
        refine wpAnyH_take (i := 0) (v := ?_) (by simp only [List.getElem?_toArray, List.getElem?_cons_zero, List.getElem?_cons_succ] <;> rfl) (by kernel_rfl) (by kernel_rfl) (by kernel_rfl) (by intro _ _ _ h; exact h) (Or.inl ⟨by rfl, ?_⟩) (by assumption) ?_
        rotate_left
        · intro w _; go_simp; try with_reducible rfl
        try simp only [Act.put, List.setIfInBounds_toArray, List.set_cons_zero, List.set_cons_succ, Array.replicate]
        refine wpAnyH_take (i := 1) (v := ?_) (by simp only [List.getElem?_toArray, List.getElem?_cons_zero, List.getElem?_cons_succ] <;> rfl) (by kernel_rfl) (by kernel_rfl) (by kernel_rfl) (by intro _ _ _ h; exact h) (Or.inl ⟨by rfl, ?_⟩) (by assumption) ?_
        rotate_left
        · intro w _; go_simp; try with_reducible rfl
        try simp only [Act.put, List.setIfInBounds_toArray, List.set_cons_zero, List.set_cons_succ, Array.replicate]
        refine wpAnyH_take (i := 2) (v := ?_) (by simp only [List.getElem?_toArray, List.getElem?_cons_zero, List.getElem?_cons_succ] <;> rfl) (by kernel_rfl) (by kernel_rfl) (by kernel_rfl) (by intro _ _ _ h; exact h) (Or.inl ⟨by rfl, ?_⟩) (by assumption) ?_
        rotate_left
        · intro w _; go_simp; try with_reducible rfl
        try simp only [Act.put, List.setIfInBounds_toArray, List.set_cons_zero, List.set_cons_succ, Array.replicate]
        refine wpAnyH_take (i := 3) (v := ?_) (by simp only [List.getElem?_toArray, List.getElem?_cons_zero, List.getElem?_cons_succ] <;> rfl) (by kernel_rfl) (by kernel_rfl) (by kernel_rfl) (by intro _ _ _ h; exact h) (Or.inl ⟨by rfl, ?_⟩) (by assumption) ?_
        rotate_left
        · intro w _; go_simp; try with_reducible rfl
        try simp only [Act.put, List.setIfInBounds_toArray, List.set_cons_zero, List.set_cons_succ, Array.replicate]
        refine wpAnyH_take (i := 4) (v := ?_) (by simp only [List.getElem?_toArray, List.getElem?_cons_zero, List.getElem?_cons_succ] <;> rfl) (by kernel_rfl) (by kernel_rfl) (by kernel_rfl) (by intro _ _ _ h; exact h) (Or.inl ⟨by rfl, ?_⟩) (by assumption) ?_
        rotate_left
        · intro w hSS; have q1 := bcell hSS hcy hbl; go_simp; try with_reducible rfl
        try simp only [Act.put, List.setIfInBounds_toArray, List.set_cons_zero, List.set_cons_succ, Array.replicate]
        refine wpAnyH_take (i := 5) (v := ?_) (by simp only [List.getElem?_toArray, List.getElem?_cons_zero, List.getElem?_cons_succ] <;> rfl) (by kernel_rfl) (by kernel_rfl) (by kernel_rfl) (by intro _ _ _ h; exact h) (Or.inl ⟨by rfl, ?_⟩) (by assumption) ?_
        rotate_left
        · intro w _; go_simp; try with_reducible rfl
        try simp only [Act.put, List.setIfInBounds_toArray, List.set_cons_zero, List.set_cons_succ, Array.replicate]
        refine wpAnyH_take (i := 6) (v := ?_) (by simp only [List.getElem?_toArray, List.getElem?_cons_zero, List.getElem?_cons_succ] <;> rfl) (by kernel_rfl) (by kernel_rfl) (by kernel_rfl) (by intro _ _ _ h; exact h) (Or.inl ⟨by rfl, ?_⟩) (by assumption) ?_
        rotate_left
        · intro w hSS; have q1 := bcell hSS hc0 hw0; go_simp; try with_reducible rfl
        try simp only [Act.put, List.setIfInBounds_toArray, List.set_cons_zero, List.set_cons_succ, Array.replicate]
        refine wpAnyH_take (i := 7) (v := ?_) (by simp only [List.getElem?_toArray, List.getElem?_cons_zero, List.getElem?_cons_succ] <;> rfl) (by kernel_rfl) (by kernel_rfl) (by kernel_rfl) (by intro _ _ _ h; exact h) (Or.inl ⟨by rfl, ?_⟩) (by assumption) ?_
        rotate_left
        · intro w _; go_simp; try with_reducible rfl
        try simp only [Act.put, List.setIfInBounds_toArray, List.set_cons_zero, List.set_cons_succ, Array.replicate]
        refine wpAnyH_done (by kernel_rfl) ?_ _
        obtain ⟨Wd, hWd⟩ : ∃ Wd, wr.drew.drew = Wd := ⟨_, rfl⟩
        have OWd : Hid (OwnI Wd C u5 (outF l x a j)) := by rw [← hWd]; exact HO.out
        have BWd : Hid (Below C W0 Wd) := by rw [← hWd]; exact HB.out.drew.drew
        have hWdz := BWd.out.size
        rw [hWd]
        clear hWd
        go_wp2_with (first
          | (with_reducible refine load_item rfl (.tmp 42) rfl ba _ rfl y HYO.out (rangeAt_below' HRG.out BWd.out (Nat.le_of_eq HCC.out)) ?_)
          | (with_reducible refine build_one rfl (.tmp 43) rfl y HYO.out rfl ?_)
          | (at_builtin; refine app_items (base := C) rfl (.tmp 39) (.tmp 44) rfl rfl (OWd.out.below (balloc (Below.refl _ Wd) _) (Nat.le_refl _)) rfl (its_lit Wd y HYO.out) (by have := HOL.out; have := hCz; simp; omega) (by have := balloc (Below.refl Wd.heap.size Wd) (.cells (itC y).toArray 38); have := this.size; have := HCC.out; omega) ?_; intro v9 w9 ho9 hb9; have O9 := Lib.hid ho9; have B9 := Lib.hid (BWd.out.trans (((Below.refl C Wd).alloc (by have := HCC.out; omega) _).trans hb9)); clear ho9 hb9))
        exact ⟨⟨j + 1, by omega, by go_num, by rw [HQ.out], by rw [HNX.out, HY.out]; exact O9.out, B9.out⟩, by simp [intOf]; omega⟩
    · have hjl : j = l.length := by omega
      have hnI : ¬ (j : Int) < (l.length : Int) := by omega
      by_cases hal : a < l.length
      · have hq : decide (a < j) = true := by simp; omega
        have HF : Hid (outF l x a j = Tre.put l x) := by
          have h1 := HEND.out
          rw [if_pos hal] at h1
          rw [hjl]; exact h1
        rw [hq]
        clear hq hjl
        go_wp2_with fail
        go_ret
        refine ⟨_, rfl, ?_, ?_⟩
        · rw [← HF.out]; exact HO.out.mono (by have := HBB.out; omega)
        · rw [HBB.out]; exact HB0.out.trans (HB.out.mono (Nat.le_of_lt hw0))
      · have hq : decide (a < j) = false := by simp; omega
        have HF : Hid (outF l x a j ++ [x] = Tre.put l x) := by
          have h1 := HEND.out
          rw [if_neg hal] at h1
          rw [hjl]; exact h1
        rw [hq]
        clear hq hjl
        go_wp2_with (first
  | (with_reducible refine load_item rfl (.tmp 3) rfl B 0 rfl x HXO.out (rangeAt_below' hrx.out HB.out (Nat.le_of_eq HCC.out)) ?_)
  | (with_reducible refine build_one rfl (.tmp 49) rfl x HXO.out rfl ?_)
  | (at_builtin; refine app_items (base := C) rfl (.tmp 48) (.tmp 50) rfl rfl (HO.out.below (balloc (Below.refl _ wr) _) (Nat.le_refl _)) rfl (its_lit wr x HXO.out) (by have := HOL.out; have := hCz; simp; omega) (by have := balloc (Below.refl wr.heap.size wr) (.cells (itC x).toArray 38); have := this.size; have := HCC.out; omega) ?_; intro v9 w9 ho9 hb9; have O9 := Lib.hid ho9; have B9 := Lib.hid (HB.out.trans (((Below.refl C wr).alloc (by have := HCC.out; omega) _).trans hb9)); clear ho9 hb9))
        go_ret
        refine ⟨_, rfl, ?_, ?_⟩
        · rw [← HF.out]; exact O9.out.mono (by have := HBB.out; omega)
        · rw [HBB.out]; exact HB0.out.trans (B9.out.mono (Nat.le_of_lt hw0))
/-- ref21.All. -/
theorem rall_any (v : Value) (l : List It) (w : World) (hs : Its w v l) (hok : Oks l) (hsz : l.length ≤ 1000000) :
    Calls Tryz.prog 10 #[v] w (OIQ w (Tre.all l)) := by
  obtain ⟨xa, ca, rfl, hc1, hc2, hc3, hs2⟩ := hs.open
  have HS := Lib.hid hs2
  have HOK := Lib.hid hok
  clear hs hs2 hok
  go_enter Tryz.func10, Tryz.ntmps10
  go_wp2_with fail
  have HLIT := Lib.hid (OwnI.lit0 w)
  have HB1 : Hid (Below w.heap.size w (w.alloc (.cells #[] 38))) := balloc (Below.refl _ _) _
  generalize hW1 : w.alloc (.cells #[] 38) = W1 at *
  clear hW1
  go_loopw [3, 4] (fun ov iv wr => ∃ j : Nat, j ≤ l.length ∧ iv = .int .i64 j ∧ OwnI wr w.heap.size ov (Tre.all (l.take j)) ∧ Below w.heap.size w wr) (fun _ iv _ => l.length - (intOf iv).toNat)
  case atStart => exact ⟨0, Nat.zero_le _, rfl, HLIT.out, HB1.out⟩
  case round =>
    clear HLIT HB1
    obtain ⟨j, hj, rfl, ho, hb⟩ := hrel
    have HO := Lib.hid ho
    have HB := Lib.hid hb
    have hwr := hb.size
    clear ho hb
    by_cases hlt : j < l.length
    · have hltI : (j : Int) < (l.length : Int) := by omega
      obtain ⟨ba, off, rfl, -⟩ := HS.out.cells (by omega) HOK.out
      have hrg := rangeAt_below (HS.out.range HOK.out j hlt) HB.out
      have hym : l.getD j dIt ∈ l := by simp [List.getD, List.getElem?_eq_getElem hlt]
      have hyo := HOK.out _ hym
      have hnx : Tre.all (l.take (j + 1)) = Tre.put (Tre.all (l.take j)) (l.getD j dIt) := by
        rw [List.take_add_one, List.getElem?_eq_getElem hlt, ← Tre.all_snoc]
        simp [List.getD, List.getElem?_eq_getElem hlt]
      have HNX := Lib.hid hnx
      obtain ⟨y, hy⟩ : ∃ y, l.getD j dIt = y := ⟨_, rfl⟩
      rw [hy] at hrg hyo HNX
      have HRG := Lib.hid hrg
      have HYO := Lib.hid hyo
      have HIT := Lib.hid HO.out.its
      have HAO : Hid (Oks (Tre.all (l.take j))) := all_oks (fun z hz => HOK.out z (List.mem_of_mem_take hz))
      have HAR := Lib.hid (Tre.all_rise (l.take j))
      have HAL : Hid ((Tre.all (l.take j)).length ≤ 1000000) := Nat.le_trans (Tre.all_length _) (by rw [List.length_take]; omega)
      clear hrg hym hyo hnx hy
      go_wp2_with (first
        | (with_reducible refine load_item rfl (.tmp 15) rfl ba _ rfl y HYO.out HRG.out ?_)
        | (go_at_call 21; refine (rput_any _ (Tre.all (l.take j)) y _ HIT.out HAO.out HYO.out HAR.out HAL.out).mono ?_; rintro e w2 ⟨v2, rfl, ho2, hb2⟩; have O2 := Lib.hid ho2; have B2 := Lib.hid hb2; clear ho2 hb2))
      exact ⟨⟨j + 1, by omega, by go_num, by rw [HNX.out]; exact O2.out.mono hwr, HB.out.trans (B2.out.mono hwr)⟩, by simp [intOf]; omega⟩
    · have hjl : j = l.length := by omega
      have hnI : ¬ (j : Int) < (l.length : Int) := by omega
      have H3 : Hid (OwnI wr w.heap.size u3 (Tre.all l)) := by have := HO.out; rw [hjl, List.take_length] at this; exact this
      clear hjl hlt hj
      go_wp2_with fail
      go_ret
      exact ⟨_, rfl, H3.out, HB.out⟩
end Go.Proofs.YticabllkadpmeaaGreatDoor
