/- slices.Concat, Index, Contains of items; descent.unlike of one item against none. (printed by gen/des6.py) -/
import Derived.Test.YticabllkadpmeaaGreatDoorDes5
import Derived.Test.YticabllkadpmeaaGreatDoorTre8
import Derived.Test.YticabllkadpmeaaGreatDoorSrt
namespace Go.Proofs.YticabllkadpmeaaGreatDoor
set_option linter.unusedVariables false
set_option linter.unusedSimpArgs false
set_option linter.unnecessarySimpa false
open Go.RowKit
open Tre (It)
set_option maxRecDepth 100000
set_option maxHeartbeats 8000000

/-- Lists of items in memory. -/
def Niss (w : World) (v : Value) (Ls : List (List It)) : Prop :=
  ∃ xs : List Value, Shows w 1 v Ls.length xs ∧ ∀ i, i < Ls.length → ∃ u, xs[i]? = some u ∧ Its w u (Ls.getD i [])
theorem Niss.below {w w' : World} {v : Value} {Ls : List (List It)} (h : Niss w v Ls) (hb : Below w.heap.size w w') : Niss w' v Ls := by
  obtain ⟨xs, h1, h2⟩ := h
  exact ⟨xs, h1.below hb, fun i hi => by obtain ⟨u, hu, hs⟩ := h2 i hi; exact ⟨u, hu, hs.below hb⟩⟩
theorem Niss.open {w : World} {v : Value} {Ls : List (List It)} (h : Niss w v Ls) : ∃ a cap, v = .slice a Ls.length cap ∧ Ls.length ≤ cap ∧ cap ≤ 9223372036854775807 ∧ (a = none → cap = 0) := by
  obtain ⟨xs, h1, h2⟩ := h
  obtain ⟨a, cap, e, k1, k2, k3, _⟩ := Shows.open h1
  exact ⟨a, cap, e, k1, k2, k3⟩
theorem Niss.cells {w : World} {a : Option Addr} {n cap : Nat} {Ls : List (List It)} (h : Niss w (.slice a n cap) Ls) (hl : 0 < Ls.length) :
    ∃ b off, a = some ⟨b, off, none⟩ ∧ n = Ls.length ∧ ∀ i, i < Ls.length → ∃ u, w.cell? ⟨b, off + i, none⟩ = some u ∧ Its w u (Ls.getD i []) := by
  obtain ⟨xs, h1, h2⟩ := h
  have h3 := h1
  obtain ⟨hxl, a', cap', he, -⟩ := h1
  simp only [Value.slice.injEq] at he
  obtain ⟨rfl, rfl, rfl⟩ := he
  obtain ⟨b, off, rfl, hc⟩ := Shows.cells1 h3 (by omega)
  exact ⟨b, off, rfl, rfl, fun i hi => by obtain ⟨u, hu, hs⟩ := h2 i hi; exact ⟨u, hc i u hu, hs⟩⟩

theorem growI_nil (n : Nat) (w : World) (hn : n ≤ 1000000) :
    Calls Tryz.prog 73 #[.slice none 0 0, .int .i64 n] w fun e w' => ∃ v', e = .returned v' ∧ OwnI w' w.heap.size v' [] ∧ Below w.heap.size w w' := by
  by_cases h0 : n = 0
  · subst h0
    go_enter Tryz.func73, Tryz.ntmps73
    go_wp2_with fail
    go_ret
    exact ⟨_, rfl, OwnI.nil _ _, Below.refl _ _⟩
  · have hnI : ¬ (n : Int) < 0 := by omega
    have hnI2 : 0 < (n : Int) := by omega
    obtain ⟨i, hi, hz0, hz1, hz2⟩ := info_parts item_info
    go_enter Tryz.func73, Tryz.ntmps73
    go_wp2_with (at_builtin; refine Lib.wpList_append_run _ rfl (.tmp 20) (.tmp 21) _ _ rfl _ _ rfl rfl _ _ (Lib.run_append_nil_zeros w 22 3 _ 38 i (.agg (itC dIt).toArray) .i64 .i64 Tryz.underlying22 Tryz.underlying3 hi hz0 n (by omega) (by rw [hz1]; omega) (by omega) (by rw [hz2]; omega)) ?_)
    have hc := grownCap_ge w n 0 38
    have hm := grownCap_le_maxLen w n 0 38 (by unfold maxLen; omega)
    generalize grownCap w n 0 38 = C at *
    go_ret
    refine ⟨_, rfl, ?_, ((Below.refl _ _).alloc (Nat.le_refl _) _).drew⟩
    have hs : (Builtin.zeroCells (itC dIt).toArray n ++ Builtin.zeroCells (itC dIt).toArray (C - n)).size = C * 34 := by
      have e34 : (itC dIt).toArray.size = 34 := rfl
      rw [Array.size_append, size_zeroCells, size_zeroCells, e34]; omega
    exact World.ownsRow_made (base := w.heap.size) (size := 34) (e := 38) w _ C (Nat.le_refl _) hm hs
theorem catI_take (Ls : List (List It)) (j : Nat) (hj : j < Ls.length) : (Ls.take (j + 1)).flatten = (Ls.take j).flatten ++ Ls.getD j [] := by
  rw [List.take_add_one, List.getElem?_eq_getElem hj, List.flatten_append]
  simp [List.getD, List.getElem?_eq_getElem hj]
theorem catI_le (Ls : List (List It)) (j : Nat) : (Ls.take j).flatten.length ≤ Ls.flatten.length := by
  have : Ls.flatten = (Ls.take j).flatten ++ (Ls.drop j).flatten := by rw [← List.flatten_append, List.take_append_drop]
  rw [this, List.length_append]; omega
/-- slices.Concat. -/
theorem concatI_any (lv : Value) (Ls : List (List It)) (w : World) (hs : Niss w lv Ls) (hn : Ls.length ≤ 1000000) (hl : Ls.flatten.length ≤ 1000000) :
    Calls Tryz.prog 60 #[lv] w fun e w' => ∃ v', e = .returned v' ∧ OwnI w' w.heap.size v' Ls.flatten ∧ Below w.heap.size w w' := by
  obtain ⟨a, cap, rfl, g1, g2, g3⟩ := hs.open
  have HS := Lib.hid hs
  have HL := Lib.hid hl
  have HL2 := Lib.hid hl
  clear hs g3
  go_enter Tryz.func60, Tryz.ntmps60
  go_wp2_with fail
  go_loopw [3, 11] (fun n i wr => ∃ j : Nat, j ≤ Ls.length ∧ i = .int .i64 j ∧ n = .int .i64 ((Ls.take j).flatten.length : Int) ∧ wr = w) (fun _ i _ => Ls.length - (intOf i).toNat)
  case atStart => exact ⟨0, by omega, rfl, rfl, rfl⟩
  case round =>
    obtain ⟨j, hj, rfl, rfl, hw⟩ := hrel
    have hw := hw.symm
    subst hw
    by_cases hlt : j < Ls.length
    · have hct := congrArg List.length (catI_take Ls j hlt)
      rw [List.length_append] at hct
      have hle := catI_le Ls (j + 1)
      have HT := Lib.hid hct
      obtain ⟨b, off, rfl, -, hat⟩ := HS.out.cells (by omega)
      obtain ⟨u, hu, hsu⟩ := hat j hlt
      obtain ⟨x, c, rfl, -⟩ := hsu.open
      have hjI : (j : Int) < (Ls.length : Int) := by omega
      have hb : (Ls.take j).flatten.length + (Ls.getD j []).length ≤ 1000000 := by omega
      clear hat hsu hct hle hl
      generalize (Ls.take j).flatten.length = A at *
      generalize (Ls.getD j []).length = B at *
      go_wp2_with fail
      exact ⟨⟨j + 1, by omega, by go_num, by rw [HT.out]; go_num, by trivial⟩, by simp [intOf]; omega⟩
    · obtain rfl : j = Ls.length := by omega
      rw [List.take_length]
      have HL0 := Lib.hid hl
      clear hlt hj
      clear HL HL0
      generalize hTT : Ls.flatten.length = T at *
      have HTT := Lib.hid hTT
      clear hTT
      go_wp2_with (go_at_call 73; refine (growI_nil _ _ hl).mono ?_; rintro e w1 ⟨v1, rfl, ho1, hb1⟩)
      have HO := Lib.hid ho1
      have HB := Lib.hid hb1
      clear ho1 hb1
      go_loopw [6, 27] (fun o i wr => ∃ j : Nat, j ≤ Ls.length ∧ i = .int .i64 j ∧ OwnI wr w.heap.size o (Ls.take j).flatten ∧ Below w.heap.size w wr) (fun _ i _ => Ls.length - (intOf i).toNat)
      case atStart => exact ⟨0, by omega, rfl, HO.out, HB.out⟩
      case round =>
        obtain ⟨j, hj, rfl, ho, hb⟩ := hrel
        by_cases hlt : j < Ls.length
        · have hct := congrArg List.length (catI_take Ls j hlt)
          rw [List.length_append] at hct
          have hle := catI_le Ls (j + 1)
          have HT := Lib.hid (catI_take Ls j hlt)
          obtain ⟨b, off, rfl, -, hat⟩ := HS.out.cells (by omega)
          obtain ⟨u, hu, hsu⟩ := hat j hlt
          have hsu' := hsu.at' hb (Nat.le_refl _)
          have HSU := Lib.hid hsu'
          have hu' := bcell hb hu (blt hu)
          have hjI : (j : Int) < (Ls.length : Int) := by omega
          have hsz : (Ls.take j).flatten.length + (Ls.getD j []).length ≤ 1000000 := by have := HL2.out; have := HTT.out; omega
          have HSZ := Lib.hid hsz
          have HOO := Lib.hid ho
          have HBB := Lib.hid hb
          clear hat hsu hct hle hsz hsu' hu ho hb
          go_wp2_with (at_builtin; refine app_items (base := w.heap.size) rfl (.tmp 31) (.tmp 32) rfl rfl HOO.out rfl HSU.out (by have := HSZ.out; omega) HBB.out.size ?_; intro v2 w2 ho2 hb2)
          exact ⟨⟨j + 1, by omega, by go_num, by rw [HT.out]; exact ho2, HBB.out.trans hb2⟩, by simp [intOf]; omega⟩
        · obtain rfl : j = Ls.length := by omega
          have hoo := ho
          rw [List.take_length] at hoo
          clear hlt hj
          go_wp2_with fail
          go_ret
          exact ⟨_, rfl, hoo, hb⟩

theorem niss2 (w : World) (a a' : Option Addr) (n n' c c' : Nat) (L M : List It) (h1 : Its w (.slice a n c) L) (h2 : Its w (.slice a' n' c') M) :
    Niss (w.alloc (.cells #[.slice a n c, .slice a' n' c'] 22)) (.slice (some ⟨w.heap.size, 0, none⟩) 2 2) [L, M] := by
  have h3 := Own1.lit w 22 [.slice a n c, .slice a' n' c']
  refine ⟨[.slice a n c, .slice a' n' c'], h3.shows, fun j hj => ?_⟩
  simp only [List.length_cons, List.length_nil] at hj
  rcases (show j = 0 ∨ j = 1 by omega) with rfl | rfl
  · exact ⟨_, rfl, h1.below (balloc (Below.refl _ _) _)⟩
  · exact ⟨_, rfl, h2.below (balloc (Below.refl _ _) _)⟩
theorem exec_eql_item' {ρ : Operand → Value} {o : Oper} (x y : Operand) (ho : o.op = .binOp .eql 38 x y 38) (A B : It) (hx : ρ x = .agg (itC A).toArray) (hy : ρ y = .agg (itC B).toArray) (hA : ItOk A) (hB : ItOk B) (w : World) :
    (execOp ρ o).run Tryz.prog w = .ok (.value (.bool (itEq A B))) w := by
  have h1 := run_eqGuard_agg w .eql 38 x y (itC A).toArray (itC B).toArray eqG_item
  have h2 := run_eql_struct (P := Tryz.prog) w 38 (itC A).toArray (itC B).toArray
  have h3 := eq_item_d 9997 A B hA hB w
  rw [h3] at h2
  unfold execOp
  rw [ho]
  simp only [hx, hy, Sem.run_bind, h1, h2, Result.andThen_ok, Sem.run_pure]
  rfl
theorem yieldsIf_eql_item {ops : Array Oper} {S : World → Prop} {o : Oper} {a : Act} (hw : Region.wanted o (yielded ops a.tmps) = true) (x y : Operand) (ho : o.op = .binOp .eql 38 x y 38) (A B : It) (hx : a.eval x = .agg (itC A).toArray) (hy : a.eval y = .agg (itC B).toArray) (hA : ItOk A) (hB : ItOk B) (b : Bool) (hb : itEq A B = b) :
    YieldsIf Tryz.prog ops S o (.bool b) a := .inl ⟨hw, fun w _ => by rw [exec_eql_item' x y ho A B hx hy hA hB w, hb]⟩
theorem index_none (c : Nat) (a : Option Addr) (x : It) (w : World) :
    Calls Tryz.prog 74 #[.slice a 0 c, .agg (itC x).toArray] w fun e w' => e = .returned (.int .i64 (-1)) ∧ Below w.heap.size w w' := by
  go_enter Tryz.func74, Tryz.ntmps74
  go_wp2_with fail
  go_loop [8] (fun iv => iv = .int .i64 0) (fun iv => 0)
  case atStart => rfl
  case round =>
    subst hrel
    go_wp2_with fail
    go_ret
    exact ⟨rfl, balloc (Below.refl _ _) _⟩
theorem index_hit (v : Value) (x : It) (w : World) (hs : Its w v [x]) (hx : ItOk x) :
    Calls Tryz.prog 74 #[v, .agg (itC x).toArray] w fun e w' => e = .returned (.int .i64 0) ∧ Below w.heap.size w w' := by
  obtain ⟨xa, ca, rfl, hc1, hc2, -, hs2⟩ := hs.open
  obtain ⟨ba, off, rfl, -⟩ := hs2.cells (by simp) (fun y hy => by rw [List.mem_singleton] at hy; subst hy; exact hx)
  obtain ⟨W1, hW1⟩ : ∃ W1, w.alloc (.cells (itC x).toArray 38) = W1 := ⟨_, rfl⟩
  have hr1 : Row W1 w.heap.size 38 (itC x) := by rw [← hW1]; exact Row.new w 38 (itC x)
  have hb1 : Below w.heap.size w W1 := by rw [← hW1]; exact balloc (Below.refl _ _) _
  have hrg := hs2.range (fun y hy => by rw [List.mem_singleton] at hy; subst hy; exact hx) 0 (by simp)
  have HRG := Lib.hid (show w.rangeAt ba (off + 0 * 34) (itC x) from hrg)
  have R1 := Lib.hid hr1
  have HB1 := Lib.hid hb1
  have HX := Lib.hid hx
  have HEQ : Hid (itEq x x = true) := (itEq_iff x x).2 rfl
  have hww := hr1.lt
  simp only [List.length_cons, List.length_nil, Nat.zero_add] at hc1 ⊢
  clear hs hs2 hr1 hb1 hrg hx
  go_enter Tryz.func74, Tryz.ntmps74
  go_wp2_with fail
  go_loop [8] (fun iv => iv = .int .i64 0) (fun iv => 0)
  case atStart => rfl
  case round =>
    subst hrel
    go_upto_region 4 with fail
    refine wp_region_held_drew (S := fun w' => Below W1.heap.size W1 w') (by kernel_rfl) (by exact (Below.refl _ _).drew) (fun hHeld => ?_)
    refine wpAnyH_take (i := 0) (v := _) (by simp only [List.getElem?_toArray, List.getElem?_cons_zero, List.getElem?_cons_succ] <;> rfl) (by kernel_rfl) (by kernel_rfl) (by kernel_rfl) (by intro _ _ _ h; exact h) (yieldsIf_item_mid (by with_unfolding_all rfl) (.tmp 3) rfl w.heap.size 0 rfl x HX.out (fun w' hS => (fun k v hv => by rw [Nat.zero_add, Row.cell (R1.out.keep hS)]; exact hv))) (by assumption) ?_
    try simp only [Act.put, List.setIfInBounds_toArray, List.set_cons_zero, List.set_cons_succ, Array.replicate]
    refine wpAnyH_take (i := 1) (v := ?_) (by simp only [List.getElem?_toArray, List.getElem?_cons_zero, List.getElem?_cons_succ] <;> rfl) (by kernel_rfl) (by kernel_rfl) (by kernel_rfl) (by intro _ _ _ h; exact h) (Or.inl ⟨by rfl, ?_⟩) (by assumption) ?_
    rotate_left
    · intro w _; go_simp; try with_reducible rfl
    try simp only [Act.put, List.setIfInBounds_toArray, List.set_cons_zero, List.set_cons_succ, Array.replicate]
    refine wpAnyH_take (i := 2) (v := ?_) (by simp only [List.getElem?_toArray, List.getElem?_cons_zero, List.getElem?_cons_succ] <;> rfl) (by kernel_rfl) (by kernel_rfl) (by kernel_rfl) (by intro _ _ _ h; exact h) (Or.inl ⟨by rfl, ?_⟩) (by assumption) ?_
    rotate_left
    · intro w _; go_simp; try with_reducible rfl
    try simp only [Act.put, List.setIfInBounds_toArray, List.set_cons_zero, List.set_cons_succ, Array.replicate]
    refine wpAnyH_take (i := 3) (v := ?_) (by simp only [List.getElem?_toArray, List.getElem?_cons_zero, List.getElem?_cons_succ] <;> rfl) (by kernel_rfl) (by kernel_rfl) (by kernel_rfl) (by intro _ _ _ h; exact h) (Or.inl ⟨by rfl, ?_⟩) (by assumption) ?_
    rotate_left
    · intro w _; go_simp; try with_reducible rfl
    try simp only [Act.put, List.setIfInBounds_toArray, List.set_cons_zero, List.set_cons_succ, Array.replicate]
    refine wpAnyH_take (i := 4) (v := _) (by simp only [List.getElem?_toArray, List.getElem?_cons_zero, List.getElem?_cons_succ] <;> rfl) (by kernel_rfl) (by kernel_rfl) (by kernel_rfl) (by intro _ _ _ h; exact h) (yieldsIf_item_mid (by with_unfolding_all rfl) (.tmp 14) rfl ba _ rfl x HX.out (fun w' hS => rangeAt_below (rangeAt_below HRG.out HB1.out) hS)) (by assumption) ?_
    try simp only [Act.put, List.setIfInBounds_toArray, List.set_cons_zero, List.set_cons_succ, Array.replicate]
    refine wpAnyH_take (i := 5) (v := _) (by simp only [List.getElem?_toArray, List.getElem?_cons_zero, List.getElem?_cons_succ] <;> rfl) (by kernel_rfl) (by kernel_rfl) (by kernel_rfl) (by intro _ _ _ h; exact h) (yieldsIf_eql_item (by with_unfolding_all rfl) (.tmp 11) (.tmp 15) rfl x x rfl rfl HX.out HX.out _ HEQ.out) (by assumption) ?_
    try simp only [Act.put, List.setIfInBounds_toArray, List.set_cons_zero, List.set_cons_succ, Array.replicate]
    refine wpAnyH_done (by kernel_rfl) ?_ _
    go_wp2_with fail
    go_ret
    exact ⟨rfl, HB1.out.trans ((show Below W1.heap.size W1 _ from hHeld).mono HB1.out.size)⟩
theorem contains_none (c : Nat) (a : Option Addr) (x : It) (hx : ItOk x) (w : World) :
    Calls Tryz.prog 61 #[.slice a 0 c, .agg (itC x).toArray] w fun e w' => e = .returned (.bool false) ∧ Below w.heap.size w w' := by
  obtain ⟨W1, hW1⟩ : ∃ W1, w.alloc (.cells (itC x).toArray 38) = W1 := ⟨_, rfl⟩
  have hr1 : Row W1 w.heap.size 38 (itC x) := by rw [← hW1]; exact Row.new w 38 (itC x)
  have hb1 : Below w.heap.size w W1 := by rw [← hW1]; exact balloc (Below.refl _ _) _
  have HRX : Hid (W1.rangeAt w.heap.size 0 (itC x)) := fun k v hv => by rw [Nat.zero_add, Row.cell hr1]; exact hv
  have HB1 := Lib.hid hb1
  have HX := Lib.hid hx
  clear hr1 hb1 hx
  go_enter Tryz.func61, Tryz.ntmps61
  go_wp2_with (first
    | (with_reducible refine load_item rfl (.tmp 3) rfl w.heap.size 0 rfl x HX.out HRX.out ?_)
    | (go_at_call 74; refine (index_none c a x _).mono ?_; rintro e w2 ⟨rfl, hb2⟩; have B2 := Lib.hid (HB1.out.trans (hb2.mono HB1.out.size)); clear hb2))
  go_ret
  exact ⟨rfl, B2.out⟩
theorem contains_hit (v : Value) (x : It) (w : World) (hs : Its w v [x]) (hx : ItOk x) :
    Calls Tryz.prog 61 #[v, .agg (itC x).toArray] w fun e w' => e = .returned (.bool true) ∧ Below w.heap.size w w' := by
  obtain ⟨W1, hW1⟩ : ∃ W1, w.alloc (.cells (itC x).toArray 38) = W1 := ⟨_, rfl⟩
  have hr1 : Row W1 w.heap.size 38 (itC x) := by rw [← hW1]; exact Row.new w 38 (itC x)
  have hb1 : Below w.heap.size w W1 := by rw [← hW1]; exact balloc (Below.refl _ _) _
  have HRX : Hid (W1.rangeAt w.heap.size 0 (itC x)) := fun k v hv => by rw [Nat.zero_add, Row.cell hr1]; exact hv
  have HB1 := Lib.hid hb1
  have HX := Lib.hid hx
  have HS := Lib.hid (hs.below hb1)
  clear hr1 hb1 hx hs
  go_enter Tryz.func61, Tryz.ntmps61
  go_wp2_with (first
    | (with_reducible refine load_item rfl (.tmp 3) rfl w.heap.size 0 rfl x HX.out HRX.out ?_)
    | (go_at_call 74; refine (index_hit v x _ HS.out HX.out).mono ?_; rintro e w2 ⟨rfl, hb2⟩; have B2 := Lib.hid (HB1.out.trans (hb2.mono HB1.out.size)); clear hb2))
  go_ret
  exact ⟨rfl, B2.out⟩
theorem info_str6 : (Tryz.prog.info? 9).map (fun i => (i.zero, i.size, i.bytes)) = some (some (.string .empty), 1, 16) := by kernel_rfl
theorem unlike_one (va : Value) (a : Option Addr) (c : Nat) (x : It) (w : World) (hs : Its w va [x]) (hx : ItOk x) (hn : Its w (.slice a 0 c) []) :
    Calls Tryz.prog 38 #[va, .slice a 0 c] w fun e w' => ∃ v', e = .returned v' ∧ OwnS w' w.heap.size v' [x.name] ∧ Below w.heap.size w w' := by
  obtain ⟨xa, ca, rfl, hc1, hc2, -, hs2⟩ := hs.open
  obtain ⟨W1, hW1⟩ : ∃ W1, w.alloc (.cells #[.slice xa 1 ca, .slice a 0 c] 22) = W1 := ⟨_, rfl⟩
  have hb1 : Below w.heap.size w W1 := by rw [← hW1]; exact balloc (Below.refl _ _) _
  have HNI : Hid (Niss W1 (.slice (some ⟨w.heap.size, 0, none⟩) 2 2) [[x], []]) := by rw [← hW1]; exact niss2 w xa a 1 0 ca c [x] [] hs2 hn
  have HS := Lib.hid (show Its w (.slice xa 1 ca) [x] from hs2)
  have HB1 := Lib.hid hb1
  have HX := Lib.hid hx
  simp only [List.length_cons, List.length_nil, Nat.zero_add] at hc1 ⊢
  clear hs hs2 hb1 hx hn
  go_enter Tryz.func38, Tryz.ntmps38
  go_wp2_with (go_at_call 60; refine (concatI_any _ [[x], []] W1 HNI.out (by simp) (by simp)).mono ?_; rintro e w2 ⟨v2, rfl, ho2, hb2⟩; obtain ⟨a2, c2, hv2, -, -, -, hs3⟩ := ho2.its.open; subst hv2; have S2 := Lib.hid (show Its w2 (.slice a2 1 c2) [x] from hs3); have B2 := Lib.hid (HB1.out.trans (hb2.mono HB1.out.size)); clear ho2 hb2 hs3)
  go_loopw [5, 13] (fun ov iv wr => ∃ j : Nat, j ≤ 1 ∧ iv = .int .i64 j ∧ OwnS wr w2.heap.size ov ([x.name].take j) ∧ Below w2.heap.size w2 wr) (fun _ iv _ => 1 - (intOf iv).toNat)
  case atStart => exact ⟨0, by omega, rfl, OwnS.nil _ _, Below.refl _ _⟩
  case round =>
    obtain ⟨j, hj, rfl, ho, hb2⟩ := hrel
    have hb := B2.out.trans (hb2.mono B2.out.size)
    have O := Lib.hid ho
    have BR := Lib.hid hb
    have SR := Lib.hid (S2.out.below hb2)
    have hwr := hb.size
    have hwr2 := hb2.size
    have BR2 := Lib.hid hb2
    clear ho hb hb2
    rcases (show j = 0 ∨ j = 1 by omega) with rfl | rfl
    · obtain ⟨ba, off, rfl, -⟩ := SR.out.cells (by simp) (fun y hy => by rw [List.mem_singleton] at hy; subst hy; exact HX.out)
      have hrg := SR.out.range (fun y hy => by rw [List.mem_singleton] at hy; subst hy; exact HX.out) 0 (by simp)
      have HRG := Lib.hid (show wr.rangeAt ba off (itC x) by rw [Nat.zero_mul, Nat.add_zero] at hrg; exact hrg)
      obtain ⟨hz0, W6, hW6, hr6, hb6⟩ := pre34 wr x HX.out
      dsimp only at hW6 hz0
      have HZ0 := Lib.hid hz0
      have R6 := Lib.hid hr6
      have B6 := Lib.hid hb6
      have HRX : Hid (W6.rangeAt wr.heap.size 0 (itC x)) := fun k v hv => by rw [Nat.zero_add, Row.cell hr6]; exact hv
      have S6 := Lib.hid (HS.out.below (BR.out.trans (hb6.mono hwr)))
      clear hrg hz0 hr6 hb6
      go_wp2_with (first
        | (with_reducible refine load_item rfl (.tmp 15) rfl ba _ rfl x HX.out HRG.out ?_)
        | (with_reducible refine store_item_mid rfl (.tmp 7) (.tmp 16) rfl wr.heap.size 0 rfl x rfl HX.out 38 (itC dIt) HZ0.out (by decide) ?_; rw [hW6]; clear hW6)
        | (with_reducible refine load_item rfl (.tmp 7) rfl wr.heap.size 0 rfl x HX.out HRX.out ?_)
        | (go_at_call 61; refine (contains_hit _ x _ S6.out HX.out).mono ?_; rintro e w7 ⟨rfl, hb7⟩; have R7 := Lib.hid (R6.out.keep hb7); have HRX7 : Hid (w7.rangeAt wr.heap.size 0 (itC x)) := (fun k v hv => by rw [Nat.zero_add, Row.cell R7.out]; exact hv); have B7 := Lib.hid (B6.out.trans (hb7.mono (Nat.le_of_lt R6.out.lt))); clear hb7)
        | (go_at_call 61; refine (contains_none c a x HX.out _).mono ?_; rintro e w8 ⟨rfl, hb8⟩; have R8 := Lib.hid (R7.out.keep hb8); have hx0 : w8.cell? ⟨wr.heap.size, 0, none⟩ = some (.string x.name) := Row.cell R8.out 0; have B8 := Lib.hid (B7.out.trans (hb8.mono (Nat.le_of_lt R7.out.lt))); have hb8n : Below wr.heap.size wr (w8.alloc (.cells #[.string x.name] 9)) := B8.out.alloc B8.out.size _; have O8 : Hid (Own1 (w8.alloc (.cells #[.string x.name] 9)) w2.heap.size 9 u5 []) := own_cel O.out (Cel.of_below hb8n); have B8N := Lib.hid hb8n; have hw8n := hb8n.size; clear hb8 hb8n)
        | (refine load_item_g (by with_unfolding_all rfl) (.tmp 7) rfl wr.heap.size 0 rfl x HX.out HRX7.out ?_)
        | (at_builtin; refine app_one (base := w2.heap.size) (l := []) (m := [.string x.name]) Tryz.underlying50 info_str6 rfl rfl (.tmp 27) (.tmp 30) rfl rfl O8.out rfl (Own1.lit w8 9 [.string x.name]).shows (by intro q hq; simp at hq; subst hq; rfl) (by simp) (by simp) (by omega) ?_; intro v9 w9 ho9 hb9; have O9 := Lib.hid ho9; have B9 := Lib.hid hb9; clear ho9 hb9))
      exact ⟨⟨1, by omega, rfl, O9.out, (BR2.out.trans (B8N.out.mono hwr2)).trans B9.out⟩, by simp [intOf]⟩
    · go_wp2_with fail
      go_ret
      exact ⟨_, rfl, own_mono O.out B2.out.size, BR.out⟩
end Go.Proofs.YticabllkadpmeaaGreatDoor
