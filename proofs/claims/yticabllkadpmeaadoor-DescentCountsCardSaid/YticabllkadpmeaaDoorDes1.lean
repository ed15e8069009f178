/- Package descent: some, have, Wants; the document's Have, Wants. (printed by gen/des1.py) -/
import Derived.Test.YticabllkadpmeaaDoorRPut
import Derived.Test.YticabllkadpmeaaDoorDesP
namespace Go.Proofs.YticabllkadpmeaaDoor
set_option linter.unusedVariables false
set_option linter.unusedSimpArgs false
set_option linter.unnecessarySimpa false
open Go.RowKit
open Tre (It)
set_option maxRecDepth 100000
set_option maxHeartbeats 8000000

theorem ret_item1 {fn : Func} {p : Tmp} (h : fn.results = #[.cell p 35]) {R : Ending → World → Prop} {a : Act} {w : World} (hd : a.defers = []) (g : Nat) (hp : a.tmps.getD p undef = .pointer (some ⟨g, 0, none⟩)) (t : TypeId) (x : It) (hr : Row w g t (itC x)) (hx : ItOk x)
    (hR : R (.returned (.agg (itC x).toArray)) w) : bodyPost Tryd.prog fn R .ret a w :=
  bodyPost_ret (results_cell_row h a.tmps w g t _ _ _ hp hr Tryd.underlying35 rfl (by rw [size_item]; simp [itC_length hx])) hd hR
theorem haveOf_cells (A : List It) (n : ByteArray) : itC (Tre.haveOf A n) = (itC (optIt (Tre.find A n.data.toList))).set 0 (.string n) := by
  have hn := Tre.haveOf_name A n
  unfold Tre.haveOf at hn ⊢
  cases h : Tre.find A n.data.toList with
  | none => rfl
  | some x =>
    rw [h] at hn
    simp only at hn
    subst hn
    rfl
theorem find_mem {A : List It} {n : List UInt8} {x : It} (h : Tre.find A n = some x) : x ∈ A := List.mem_of_find?_eq_some h
theorem haveOf_ok {A : List It} (h : Oks A) (n : ByteArray) (hn : n.size ≤ 140737488351232) : ItOk (Tre.haveOf A n) := by
  have hnm := Tre.haveOf_name A n
  have : (Tre.haveOf A n).len < 18446744073709551616 ∧ (Tre.haveOf A n).sum.length = 32 := by
    unfold Tre.haveOf
    split
    · rename_i x hx; exact ⟨(h x (find_mem hx)).1, (h x (find_mem hx)).2.1⟩
    · exact ⟨show (0 : Nat) < _ by decide, nought_len⟩
  refine ⟨this.1, this.2, ?_⟩
  rw [hnm]; unfold maxLen; omega
theorem optIt_ok {A : List It} (h : Oks A) (n : List UInt8) : ItOk (optIt (Tre.find A n)) := by
  cases hf : Tre.find A n with
  | none => exact dit_ok
  | some x => exact h x (find_mem hf)
theorem some_some (w : World) (b : Nat) : Calls Tryd.prog 17 #[.pointer (some ⟨b, 0, none⟩)] w fun e w' => e = .returned (.pointer (some ⟨b, 0, none⟩)) ∧ w = w' := by
  go_enter Tryd.func17, Tryd.ntmps17
  go_wp2
  go_ret
  exact ⟨rfl, rfl⟩
theorem some_none (w : World) (hg : Glob w) : Calls Tryd.prog 17 #[.pointer none] w (BuildQ w [] 0) := by
  have HG := Lib.hid hg
  clear hg
  go_enter Tryd.func17, Tryd.ntmps17
  go_wp2_with (go_at_call 8; refine (Build_any (.slice none 0 0) [] _ HG.out (Its.nil _) (fun x hx => by cases hx) (by decide)).mono ?_; rintro e w1 ⟨T, rfl, ht, hi, hn, hb⟩; have HT := Lib.hid ht; have HI := Lib.hid hi; have HN := Lib.hid hn; have HB := Lib.hid hb; clear ht hi hn hb)
  go_ret
  exact ⟨T, rfl, HT.out, HI.out, HN.out, HB.out⟩
theorem have_any (w : World) (B b : Nat) (T : TS) (A : List It) (n : ByteArray) (hg : Glob w) (h : Tr w B b T) (hA : IsT T A) (hok : Oks A) (hn : n.size ≤ 140737488351232) :
    Calls Tryd.prog 18 #[.pointer (some ⟨b, 0, none⟩), .string n] w fun e w' => e = .returned (.agg (itC (Tre.haveOf A n)).toArray) ∧ Below w.heap.size w w' := by
  have hz3 := hg.1
  obtain ⟨W1, hW1⟩ : ∃ W1, w.alloc (.cells #[.string ⟨#[]⟩, .int .u64 0, .int .u8 0, .int .u8 0, .int .u8 0, .int .u8 0, .int .u8 0, .int .u8 0, .int .u8 0, .int .u8 0, .int .u8 0, .int .u8 0, .int .u8 0, .int .u8 0, .int .u8 0, .int .u8 0, .int .u8 0, .int .u8 0, .int .u8 0, .int .u8 0, .int .u8 0, .int .u8 0, .int .u8 0, .int .u8 0, .int .u8 0, .int .u8 0, .int .u8 0, .int .u8 0, .int .u8 0, .int .u8 0, .int .u8 0, .int .u8 0, .int .u8 0, .int .u8 0] 35) = W1 := ⟨_, rfl⟩
  have hr1 : Row W1 w.heap.size 35 (itC dIt) := by rw [← hW1]; exact Row.new w 35 (itC dIt)
  have hb1 : Below w.heap.size w W1 := by rw [← hW1]; exact balloc (Below.refl _ _) _
  dsimp only at hW1
  have HG := Lib.hid (Glob.below hg hb1 hz3)
  have HT := Lib.hid (h.below hb1 (Nat.le_refl _))
  have HA := Lib.hid hA
  have hww := hr1.lt
  have R1 := Lib.hid hr1
  have B1 := Lib.hid hb1
  have HO := Lib.hid (haveOf_ok hok n hn)
  have hop := optIt_ok hok n.data.toList
  have hc := haveOf_cells A n
  obtain ⟨y, hy⟩ : ∃ y, optIt (Tre.find A n.data.toList) = y := ⟨_, rfl⟩
  rw [hy] at hop hc
  have HOP := Lib.hid hop
  have HC := Lib.hid hc
  have HY := Lib.hid hy
  clear hop hc hy
  clear hr1 hb1 hg h hA hok
  go_enter Tryd.func18, Tryd.ntmps18
  go_upto_region 1 with fail
  try rw [hW1]
  clear hW1
  go_upto_region 2 with (first
    | (go_at_call 27; refine (Find_any _ B b T A n HG.out HT.out HA.out hn).mono ?_; rw [HY.out]; rintro e w2 ⟨rfl, hb2⟩; have hyo := HOP.out; obtain ⟨hz0, W6, hW6, hr6, hb6⟩ := pre34 w2 y hyo; dsimp only at hW6 hz0; have HZ0 := Lib.hid hz0; have R6 := Lib.hid hr6; have hw2 := hb2.size; have B6 := Lib.hid (hb2.trans (hb6.mono hw2)); have hw6 := hr6.lt; have R16 := Lib.hid (Row.below (Row.below R1.out hb2 hww) hb6 (by omega)); have hx0 : W6.cell? ⟨w2.heap.size, 0, none⟩ = some (.string y.name) := Row.cell hr6 0; have hf0 := Row.frozen hr6 0; have hq2 : w.heap.size < w2.heap.size := (by omega); clear hyo hz0 hr6 hb6 hb2)
    | (with_reducible refine store_item_mid rfl (.tmp 5) (.tmp 11) rfl w2.heap.size 0 rfl y rfl HOP.out 35 (itC dIt) HZ0.out (by decide) ?_))
  try rw [hW6]
  clear hW6 HZ0
  generalize w2.heap.size = g at *
  go_upto_region 3 with fail
  obtain ⟨z, hz⟩ : ∃ z, Tre.haveOf A n = z := ⟨_, rfl⟩
  obtain ⟨W7, hW7⟩ : ∃ W7, W6.setCell ⟨g, 0, none⟩ (.string n) = W7 := ⟨_, rfl⟩
  have hr7 : Row W7 g 35 (itC z) := by rw [← hW7, ← hz, HC.out]; exact R6.out.set 0 _
  have hb7 : Below g W6 W7 := by rw [← hW7]; exact (Below.refl _ _).setCell (p := ⟨g, 0, none⟩) (Nat.le_refl _) _
  have HRX : Hid (W7.rangeAt g 0 (itC z)) := fun k v hv => by rw [Nat.zero_add, Row.cell hr7]; exact hv
  have R17 := Lib.hid (Row.below R16.out hb7 hq2)
  have HZO : Hid (ItOk z) := by rw [← hz]; exact HO.out
  have HZ := Lib.hid hz
  have BF := Lib.hid (B1.out.trans ((B6.out.mono (Nat.le_of_lt hww)).trans (hb7.mono (Nat.le_of_lt hq2))))
  rw [hW7]
  clear hW7 hr7 hb7 hz hx0 hf0 R6 R16 HC HO HOP
  go_wp2_with (first
    | (with_reducible refine load_item rfl (.tmp 5) rfl g 0 rfl z HZO.out HRX.out ?_)
    | (with_reducible refine store_item_mid rfl (.tmp 4) (.tmp 15) rfl w.heap.size 0 rfl z rfl HZO.out 35 (itC dIt) R17.out (by decide) ?_))
  refine ret_item1 rfl rfl w.heap.size rfl 35 z (set_item R17.out HZO.out) HZO.out ?_
  exact ⟨by rw [HZ.out], below_setCells BF.out _ _ _ (Nat.le_refl _)⟩

/-- Names that a call can be handed. -/
def NmOk (L : List It) : Prop := ∀ x ∈ L, ItOk x ∧ x.name.size ≤ 140737488351232
theorem NmOk.oks {L : List It} (h : NmOk L) : Oks L := fun x hx => (h x hx).1
theorem take_snocI (L : List It) (j : Nat) (hj : j < L.length) : L.take (j + 1) = L.take j ++ [L.getD j dIt] := by
  rw [List.take_add_one, List.getElem?_eq_getElem hj]
  simp [List.getD, List.getElem?_eq_getElem hj]
theorem wants_any (w : World) (B b : Nat) (T : TS) (A : List It) (v : Value) (L : List It) (hg : Glob w) (h : Tr w B b T) (hA : IsT T A) (hok : Oks A) (hs : Its w v L) (hL : NmOk L) (hsz : L.length ≤ 100000) :
    Calls Tryd.prog 7 #[.pointer (some ⟨b, 0, none⟩), v] w fun e w' => ∃ v', e = .returned v' ∧ Its w' v' (Tre.wantsF A L) ∧ Below w.heap.size w w' := by
  obtain ⟨xa, ca, rfl, hc1, hc2, -, hs2⟩ := hs.open
  have hz3 := hg.1
  have HG := Lib.hid hg
  have HT := Lib.hid h
  have HA := Lib.hid hA
  have HOK := Lib.hid hok
  have HS := Lib.hid hs2
  have HL := Lib.hid hL
  have HLO := Lib.hid hL.oks
  clear hg h hA hok hs hs2 hL
  go_enter Tryd.func7, Tryd.ntmps7
  go_wp2_with (go_at_call 17; refine (some_some _ b).mono ?_; rintro e w1 ⟨rfl, rfl⟩)
  go_loopw [5, 13] (fun ov iv wr => ∃ j : Nat, j ≤ L.length ∧ iv = .int .i64 j ∧ OwnI wr w.heap.size ov (Tre.wantsF A (L.take j)) ∧ Below w.heap.size w wr) (fun _ iv _ => L.length - (intOf iv).toNat)
  case atStart => exact ⟨0, Nat.zero_le _, rfl, OwnI.nil _ _, Below.refl _ _⟩
  case round =>
    obtain ⟨j, hj, rfl, ho, hb⟩ := hrel
    have O := Lib.hid ho
    have BR := Lib.hid hb
    have hwr := hb.size
    have HWL : Hid ((Tre.wantsF A (L.take j)).length ≤ 100000) := by
      have := Tre.wantsF_length A (L.take j)
      rw [List.length_take] at this
      show _ ≤ _
      omega
    clear ho hb
    by_cases hlt : j < L.length
    · have hltI : (j : Int) < (L.length : Int) := by omega
      obtain ⟨ba, off, rfl, -⟩ := HS.out.cells (by omega) HLO.out
      have hrg := rangeAt_below (HS.out.range HLO.out j hlt) BR.out
      have hym : L.getD j dIt ∈ L := by simp [List.getD, List.getElem?_eq_getElem hlt]
      have hyo := HL.out _ hym
      have hnx : Tre.wantsF A (L.take (j + 1)) = Tre.wantsF A (L.take j) ++ (if (Tre.haveOf A (L.getD j dIt).name).len < (L.getD j dIt).len then [Tre.haveOf A (L.getD j dIt).name] else []) := by rw [take_snocI L j hlt, Tre.wantsF_snoc]
      have HNX := Lib.hid hnx
      generalize L.getD j dIt = x at *
      generalize Tre.wantsF A (L.take j) = V at *
      have HRG := Lib.hid hrg
      have HXO := Lib.hid hyo.1
      have hxn := hyo.2
      obtain ⟨hz0, W6, hW6, hr6, hb6⟩ := pre34 wr x hyo.1
      dsimp only at hW6 hz0
      have HZ0 := Lib.hid hz0
      have R6 := Lib.hid hr6
      have B6 := Lib.hid hb6
      have hw6 := hr6.lt
      have hx0 : W6.cell? ⟨wr.heap.size, 0, none⟩ = some (.string x.name) := Row.cell hr6 0
      clear hrg hym hyo hnx hz0 hr6 hb6
      go_upto_region 6 with (first
        | (with_reducible refine load_item rfl (.tmp 15) rfl ba _ rfl x HXO.out HRG.out ?_)
        | (with_reducible refine store_item_mid rfl (.tmp 7) (.tmp 16) rfl wr.heap.size 0 rfl x rfl HXO.out 35 (itC dIt) HZ0.out (by decide) ?_))
      try rw [hW6]
      clear hW6 HZ0 HRG
      have BW6 := Lib.hid (BR.out.trans (B6.out.mono hwr))
      have G6 := Lib.hid (Glob.below HG.out BW6.out hz3)
      have T6 := Lib.hid (HT.out.below BW6.out (Nat.le_refl _))
      obtain ⟨z, hz⟩ : ∃ z, Tre.haveOf A x.name = z := ⟨_, rfl⟩
      have HZO : Hid (ItOk z) := by rw [← hz]; exact haveOf_ok HOK.out _ hxn
      rw [hz] at HNX
      have HZ := Lib.hid hz
      clear hz
      go_upto_region 7 with (first
        | (go_at_call 18; refine (have_any _ B b T A x.name G6.out T6.out HA.out HOK.out hxn).mono ?_; rw [HZ.out]; rintro e w7 ⟨rfl, hb7⟩; obtain ⟨hz0, W8, hW8, hr8, hb8⟩ := pre34 w7 z HZO.out; dsimp only at hW8 hz0; have HZ0 := Lib.hid hz0; have R8 := Lib.hid hr8; have hw7 := hb7.size; have hw8 := hr8.lt; have B68 := Lib.hid (hb7.trans (hb8.mono hw7)); have hzc : W8.cell? ⟨w7.heap.size, 1, none⟩ = some (.int .u64 (z.len : Int)) := Row.cell hr8 1; clear hz0 hr8 hb8 hb7)
        | (with_reducible refine store_item_mid rfl (.tmp 8) (.tmp 20) rfl w7.heap.size 0 rfl z rfl HZO.out 35 (itC dIt) HZ0.out (by decide) ?_))
      try rw [hW8]
      clear hW8 HZ0 hx0
      have hxc : W8.cell? ⟨wr.heap.size, 1, none⟩ = some (.int .u64 (x.len : Int)) := Row.cell (R6.out.keep B68.out) 1
      have B8 := Lib.hid (BW6.out.trans (B68.out.mono (by have := BW6.out.size; omega)))
      have O8 := Lib.hid (O.out.below (B6.out.trans (B68.out.mono (Nat.le_of_lt hw6))) (Nat.le_refl _))
      have HRZ : Hid (W8.rangeAt w7.heap.size 0 (itC z)) := fun k v hv => by rw [Nat.zero_add, Row.cell R8.out]; exact hv
      have hxb := HXO.out.1
      have hzb := HZO.out.1
      clear R6 T6 G6 BW6 R8 O
      generalize w7.heap.size = g at *
      have hw8w := B8.out.size
      by_cases hlen : z.len < x.len
      · have hlenI : (z.len : Int) < (x.len : Int) := by omega
        have HN2 := HNX.out
        rw [if_pos hlen] at HN2
        have HNX2 := Lib.hid HN2
        clear HN2 HNX
        have HAL : Hid (Below w.heap.size W8 (W8.alloc (.cells (itC z).toArray 35))) := (Below.refl _ _).alloc hw8w _
        go_wp2_with (first
          | (with_reducible refine load_item rfl (.tmp 8) rfl g 0 rfl z HZO.out HRZ.out ?_)
          | (with_reducible refine build_one rfl (.tmp 27) rfl z HZO.out rfl ?_)
          | (at_builtin; refine app_items (base := w.heap.size) rfl (.tmp 26) (.tmp 28) rfl rfl (O8.out.below (balloc (Below.refl _ W8) _) (Nat.le_refl _)) rfl (its_lit W8 z HZO.out) (by have := HWL.out; simp only [List.length_singleton]; omega) (by have := HAL.out.size; omega) ?_; intro v9 w9 ho9 hb9; have O9 := Lib.hid ho9; have B9 := Lib.hid (B8.out.trans (HAL.out.trans hb9)); clear ho9 hb9))
        exact ⟨⟨j + 1, by omega, by go_num, by rw [HNX2.out]; exact O9.out, B9.out⟩, by simp [intOf]; omega⟩
      · have hlenI : ¬ (z.len : Int) < (x.len : Int) := by omega
        have HN2 := HNX.out
        rw [if_neg hlen, List.append_nil] at HN2
        have HNX2 := Lib.hid HN2
        clear HN2 HNX
        go_wp2_with fail
        exact ⟨⟨j + 1, by omega, by go_num, by rw [HNX2.out]; exact O8.out, B8.out⟩, by simp [intOf]; omega⟩
    · have hjl : j = L.length := by omega
      have hnI : ¬ (j : Int) < (L.length : Int) := by omega
      have O2 : Hid (OwnI wr w.heap.size u5 (Tre.wantsF A L)) := by have := O.out; rw [hjl, List.take_length] at this; exact this
      clear hjl hlt hj O
      go_wp2_with fail
      go_ret
      exact ⟨_, rfl, O2.out.its, BR.out⟩

/-! ### the document's -/
theorem builtN (n : ByteArray) : Tryd.prog.built 35 [(0, .string n)] = some (itC { dIt with name := n }).toArray := by rfl
theorem build_named {w : World} {ops : Array Oper} {rest : List Oper} {o : Oper} {a : Act} {Q : Exit → Act → World → Prop} (z : It) (n : ByteArray) (hz : z = { dIt with name := n }) (hgd : o.guard = none) (x : Operand) (ho : o.op = .build 35 #[(0, x)]) (hx : a.eval x = .string n)
    (h : wpList Tryd.prog ops Q rest (a.put o.dst (.agg (itC z).toArray)) w) : wpList Tryd.prog ops Q (o :: rest) a w :=
  wpList_plain hgd fun K hK => by
    unfold Oper.wp execOp
    subst hz
    have e : (#[(0, x)] : Array (Nat × Operand)).map (fun (i, y) => (i, a.eval y)) = #[(0, .string n)] := by simp [hx]
    simp only [ho, Sem.run_bind, e, run_build w _ #[(0, .string n)] _ (builtN n), Result.andThen_ok, Sem.run_pure]
    exact hK _ _ h
theorem find_none {L : List It} {n : List UInt8} (h : ∀ k, k < L.length → (L.getD k dIt).nm ≠ n) : Tre.find L n = none := by
  unfold Tre.find
  rw [List.find?_eq_none]
  intro x hx
  obtain ⟨k, hk, rfl⟩ := List.getElem_of_mem hx
  have := h k hk
  simpa [List.getD, List.getElem?_eq_getElem hk] using this
theorem find_first {L : List It} {n : List UInt8} {j : Nat} (hj : j < L.length) (h : ∀ k, k < j → (L.getD k dIt).nm ≠ n) (he : (L.getD j dIt).nm = n) : Tre.find L n = some (L.getD j dIt) := by
  induction L generalizing j with
  | nil => simp at hj
  | cons y r ih =>
    unfold Tre.find
    rw [List.find?_cons]
    cases j with
    | zero =>
      have : (y.nm == n) = true := by simpa using he
      rw [this]; rfl
    | succ j =>
      have h0 : (y.nm == n) = false := by simpa using h 0 (by omega)
      rw [h0]
      exact ih (j := j) (by simpa using hj) (fun k hk => by simpa using h (k + 1) (by omega)) (by simpa using he)
/-- What 'Have' leaves. -/
def HavQ (w : World) (z : It) (e : Ending) (w' : World) : Prop := ∃ q : Bool, e = .returned (.tuple #[.agg (itC z).toArray, .bool q]) ∧ Below w.heap.size w w'
theorem rhave_any (v : Value) (L : List It) (n : ByteArray) (w : World) (hs : Its w v L) (hok : Oks L) (hn : n.size ≤ 140737488351232) :
    Calls Tryd.prog 11 #[v, .string n] w (HavQ w (Tre.haveOf L n)) := by
  obtain ⟨xa, ca, rfl, hc1, hc2, -, hs2⟩ := hs.open
  have HS := Lib.hid hs2
  have HOK := Lib.hid hok
  obtain ⟨W1, hW1⟩ : ∃ W1, w.alloc (.cells #[.string ⟨#[]⟩, .int .u64 0, .int .u8 0, .int .u8 0, .int .u8 0, .int .u8 0, .int .u8 0, .int .u8 0, .int .u8 0, .int .u8 0, .int .u8 0, .int .u8 0, .int .u8 0, .int .u8 0, .int .u8 0, .int .u8 0, .int .u8 0, .int .u8 0, .int .u8 0, .int .u8 0, .int .u8 0, .int .u8 0, .int .u8 0, .int .u8 0, .int .u8 0, .int .u8 0, .int .u8 0, .int .u8 0, .int .u8 0, .int .u8 0, .int .u8 0, .int .u8 0, .int .u8 0, .int .u8 0] 35) = W1 := ⟨_, rfl⟩
  have hr1 : Row W1 w.heap.size 35 (itC dIt) := by rw [← hW1]; exact Row.new w 35 (itC dIt)
  have hb1 : Below w.heap.size w W1 := by rw [← hW1]; exact balloc (Below.refl _ _) _
  dsimp only at hW1
  have R1 := Lib.hid hr1
  have B1 := Lib.hid hb1
  have HNL : Hid (n.toList = n.data.toList) := ByteArray.toList_eq _
  clear hs hs2 hok hr1 hb1
  go_enter Tryd.func11, Tryd.ntmps11
  go_upto_region 1 with fail
  try rw [hW1]
  clear hW1
  go_wp2_with fail
  go_loop [6] (fun iv => ∃ j : Nat, j ≤ L.length ∧ iv = .int .i64 j ∧ ∀ k, k < j → (L.getD k dIt).nm ≠ n.data.toList) (fun iv => L.length - (intOf iv).toNat)
  case atStart => exact ⟨0, Nat.zero_le _, rfl, fun k hk => by omega⟩
  case round =>
    obtain ⟨j, hj, rfl, h0⟩ := hrel
    have H0 := Lib.hid h0
    clear h0
    by_cases hlt : j < L.length
    · have hltI : (j : Int) < (L.length : Int) := by omega
      obtain ⟨ba, off, rfl, -⟩ := HS.out.cells (by omega) HOK.out
      have hrg := rangeAt_below (HS.out.range HOK.out j hlt) B1.out
      have hym : L.getD j dIt ∈ L := by simp [List.getD, List.getElem?_eq_getElem hlt]
      have hyo := HOK.out _ hym
      obtain ⟨x, hx⟩ : ∃ x, L.getD j dIt = x := ⟨_, rfl⟩
      rw [hx] at hrg hyo
      have HX := Lib.hid hx
      have hx0 : W1.cell? ⟨ba, off + j * 34 + 0, none⟩ = some (.string x.name) := hrg 0 _ rfl
      rw [Nat.add_zero] at hx0
      have HRG := Lib.hid hrg
      have HXO := Lib.hid hyo
      clear hrg hym hyo hx
      by_cases he : x.nm = n.data.toList
      · have hne : (x.name.toList == n.toList) = true := by rw [toL, HNL.out, beq_iff_eq]; exact he
        have HF : Hid (Tre.haveOf L n = x) := by
          have := find_first (n := n.data.toList) hlt H0.out (by rw [HX.out]; exact he)
          show _ = _
          unfold Tre.haveOf
          rw [this, HX.out]
        clear he
        go_wp2_with (first
          | (with_reducible refine load_item rfl (.tmp 22) rfl ba _ rfl x HXO.out HRG.out ?_)
          | (with_reducible refine store_item_mid rfl (.tmp 4) (.tmp 23) rfl w.heap.size 0 rfl x rfl HXO.out 35 (itC dIt) R1.out (by decide) ?_))
        refine ret_item2 rfl rfl w.heap.size rfl 35 x (set_item R1.out HXO.out) HXO.out ?_
        exact ⟨true, by rw [HF.out]; rfl, below_setCells B1.out _ _ _ (Nat.le_refl _)⟩
      · have hne : (x.name.toList == n.toList) = false := by rw [toL, HNL.out, beq_eq_false_iff_ne]; exact he
        have HE := Lib.hid he
        clear he
        go_wp2_with fail
        refine ⟨⟨j + 1, by omega, by go_num, fun k hk => ?_⟩, by simp [intOf]; omega⟩
        by_cases hkj : k = j
        · subst hkj; rw [HX.out]; exact HE.out
        · exact H0.out k (by omega)
    · have hjl : j = L.length := by omega
      have hnI : ¬ (j : Int) < (L.length : Int) := by omega
      obtain ⟨z, hz⟩ : ∃ z : It, z = { dIt with name := n } := ⟨_, rfl⟩
      have HF : Hid (Tre.haveOf L n = z) := by
        have := find_none (n := n.data.toList) (L := L) (fun k hk => H0.out k (by omega))
        show _ = _
        unfold Tre.haveOf
        rw [this, hz]; rfl
      have HZO : Hid (ItOk z) := by rw [hz]; exact ⟨dit_ok.1, dit_ok.2.1, by unfold maxLen; show n.size ≤ _; omega⟩
      have HZ := Lib.hid hz
      clear hjl hlt hj H0 hz
      go_wp2_with (first
        | (refine build_named z n HZ.out rfl (.tmp 24) rfl rfl ?_)
        | (with_reducible refine store_item_mid rfl (.tmp 4) (.tmp 25) rfl w.heap.size 0 rfl z rfl HZO.out 35 (itC dIt) R1.out (by decide) ?_))
      refine ret_item2 rfl rfl w.heap.size rfl 35 z (set_item R1.out HZO.out) HZO.out ?_
      exact ⟨false, by rw [HF.out]; rfl, below_setCells B1.out _ _ _ (Nat.le_refl _)⟩
theorem rwants_any (vl v : Value) (A L : List It) (w : World) (hA : Its w vl A) (hok : Oks A) (hs : Its w v L) (hL : NmOk L) (hsz : L.length ≤ 100000) :
    Calls Tryd.prog 9 #[vl, v] w fun e w' => ∃ v', e = .returned v' ∧ Its w' v' (Tre.wantsF A L) ∧ Below w.heap.size w w' := by
  obtain ⟨xa, ca, rfl, hc1, hc2, -, hs2⟩ := hs.open
  have HA := Lib.hid hA
  have HOK := Lib.hid hok
  have HS := Lib.hid hs2
  have HL := Lib.hid hL
  have HLO := Lib.hid hL.oks
  clear hA hok hs hs2 hL
  go_enter Tryd.func9, Tryd.ntmps9
  go_wp2_with fail
  have HLIT := Lib.hid (OwnI.lit0 w)
  have HBL : Hid (Below w.heap.size w (w.alloc (.cells #[] 35))) := balloc (Below.refl _ _) _
  go_loopw [5, 6] (fun ov iv wr => ∃ j : Nat, j ≤ L.length ∧ iv = .int .i64 j ∧ OwnI wr w.heap.size ov (Tre.wantsF A (L.take j)) ∧ Below w.heap.size w wr) (fun _ iv _ => L.length - (intOf iv).toNat)
  case atStart => exact ⟨0, Nat.zero_le _, rfl, HLIT.out, HBL.out⟩
  case round =>
    clear HLIT HBL
    obtain ⟨j, hj, rfl, ho, hb⟩ := hrel
    have O := Lib.hid ho
    have BR := Lib.hid hb
    have hwr := hb.size
    have HWL : Hid ((Tre.wantsF A (L.take j)).length ≤ 100000) := by
      have := Tre.wantsF_length A (L.take j)
      rw [List.length_take] at this
      show _ ≤ _
      omega
    clear ho hb
    by_cases hlt : j < L.length
    · have hltI : (j : Int) < (L.length : Int) := by omega
      obtain ⟨ba, off, rfl, -⟩ := HS.out.cells (by omega) HLO.out
      have hrg := rangeAt_below (HS.out.range HLO.out j hlt) BR.out
      have hym : L.getD j dIt ∈ L := by simp [List.getD, List.getElem?_eq_getElem hlt]
      have hyo := HL.out _ hym
      have hnx : Tre.wantsF A (L.take (j + 1)) = Tre.wantsF A (L.take j) ++ (if (Tre.haveOf A (L.getD j dIt).name).len < (L.getD j dIt).len then [Tre.haveOf A (L.getD j dIt).name] else []) := by rw [take_snocI L j hlt, Tre.wantsF_snoc]
      have HNX := Lib.hid hnx
      generalize L.getD j dIt = x at *
      generalize Tre.wantsF A (L.take j) = V at *
      have HXO := Lib.hid hyo.1
      have hxn := hyo.2
      have hx0 : wr.cell? ⟨ba, off + j * 34 + 0, none⟩ = some (.string x.name) := hrg 0 _ rfl
      rw [Nat.add_zero] at hx0
      have hx1 : wr.cell? ⟨ba, off + j * 34 + 1, none⟩ = some (.int .u64 (x.len : Int)) := hrg 1 _ rfl
      have hxl1 := blt hx1
      have A1 := Lib.hid (HA.out.below BR.out)
      clear hrg hym hyo hnx
      obtain ⟨z, hz⟩ : ∃ z, Tre.haveOf A x.name = z := ⟨_, rfl⟩
      have HZO : Hid (ItOk z) := by rw [← hz]; exact haveOf_ok HOK.out _ hxn
      rw [hz] at HNX
      have HZ := Lib.hid hz
      clear hz
      go_upto_region 6 with (first
        | (go_at_call 11; refine (rhave_any _ A x.name _ A1.out HOK.out hxn).mono ?_; rw [HZ.out]; rintro e w7 ⟨q, rfl, hb7⟩; obtain ⟨hz0, W8, hW8, hr8, hb8⟩ := pre34 w7 z HZO.out; dsimp only at hW8 hz0; have HZ0 := Lib.hid hz0; have R8 := Lib.hid hr8; have hw7 := hb7.size; have hw8 := hr8.lt; have B68 := Lib.hid (hb7.trans (hb8.mono hw7)); have hzc : W8.cell? ⟨w7.heap.size, 1, none⟩ = some (.int .u64 (z.len : Int)) := Row.cell hr8 1; clear hz0 hr8 hb8 hb7)
        | (with_reducible refine store_item_mid rfl (.tmp 7) (.tmp 24) rfl w7.heap.size 0 rfl z rfl HZO.out 35 (itC dIt) HZ0.out (by decide) ?_))
      try rw [hW8]
      clear hW8 HZ0 hx0
      have hxc := bcell B68.out hx1 hxl1
      have B8 := Lib.hid (BR.out.trans (B68.out.mono hwr))
      have O8 := Lib.hid (O.out.below B68.out (Nat.le_refl _))
      have HRZ : Hid (W8.drew.rangeAt w7.heap.size 0 (itC z)) := fun k v hv => by rw [Nat.zero_add]; exact (Row.cell R8.out k).trans hv
      have hxb := HXO.out.1
      have hzb := HZO.out.1
      clear R8 O A1 hx1 hxl1
      generalize w7.heap.size = g at *
      have hw8w := B8.out.size
      by_cases hlen : z.len < x.len
      · have hlenI : (z.len : Int) < (x.len : Int) := by omega
        have HN2 := HNX.out
        rw [if_pos hlen] at HN2
        have HNX2 := Lib.hid HN2
        clear HN2 HNX
        go_upto_region 6 with fail
        go_region
        obtain ⟨W9, hW9⟩ : ∃ W9, W8.drew = W9 := ⟨_, rfl⟩
        rw [hW9] at HRZ ⊢
        have B89 : Hid (Below w.heap.size w W9) := by rw [← hW9]; exact B8.out.drew
        have O89 : Hid (OwnI W9 w.heap.size u5 V) := by rw [← hW9]; exact O8.out.below ((Below.refl _ _).drew) (Nat.le_refl _)
        clear hW9 hxc hzc B8 O8
        have hw9w := B89.out.size
        have HAL : Hid (Below w.heap.size W9 (W9.alloc (.cells (itC z).toArray 35))) := (Below.refl _ _).alloc hw9w _
        go_wp2_with (first
          | (with_reducible refine load_item rfl (.tmp 7) rfl g 0 rfl z HZO.out HRZ.out ?_)
          | (with_reducible refine build_one rfl (.tmp 35) rfl z HZO.out rfl ?_)
          | (at_builtin; refine app_items (base := w.heap.size) rfl (.tmp 34) (.tmp 36) rfl rfl (O89.out.below (balloc (Below.refl _ W9) _) (Nat.le_refl _)) rfl (its_lit W9 z HZO.out) (by have := HWL.out; simp only [List.length_singleton]; omega) (by have := HAL.out.size; omega) ?_; intro v9 w9 ho9 hb9; have O9 := Lib.hid ho9; have B9 := Lib.hid (B89.out.trans (HAL.out.trans hb9)); clear ho9 hb9))
        exact ⟨⟨j + 1, by omega, by go_num, by rw [HNX2.out]; exact O9.out, B9.out⟩, by simp [intOf]; omega⟩
      · have hlenI : ¬ (z.len : Int) < (x.len : Int) := by omega
        have HN2 := HNX.out
        rw [if_neg hlen, List.append_nil] at HN2
        have HNX2 := Lib.hid HN2
        clear HN2 HNX
        go_upto_region 6 with fail
        go_region
        go_wp2_with fail
        exact ⟨⟨j + 1, by omega, by go_num, by rw [HNX2.out]; exact O8.out.below ((Below.refl _ _).drew) (Nat.le_refl _), B8.out.drew⟩, by simp [intOf]; omega⟩
    · have hjl : j = L.length := by omega
      have hnI : ¬ (j : Int) < (L.length : Int) := by omega
      have O2 : Hid (OwnI wr w.heap.size u5 (Tre.wantsF A L)) := by have := O.out; rw [hjl, List.take_length] at this; exact this
      clear hjl hlt hj O
      go_wp2_with fail
      go_ret
      exact ⟨_, rfl, O2.out.its, BR.out⟩
end Go.Proofs.YticabllkadpmeaaDoor
