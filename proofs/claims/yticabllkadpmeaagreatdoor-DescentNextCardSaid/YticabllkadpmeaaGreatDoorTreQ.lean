/- Package tree: strings.Compare, the comparison of find, slot. -/
import Derived.Test.YticabllkadpmeaaGreatDoorSha5
import Derived.Test.YticabllkadpmeaaGreatDoorTreP
import Derived.Test.YticabllkadpmeaaGreatDoorOpenI
import Derived.Lib.Bytealg
import Derived.Lib.ConvBytes
import Derived.Laws.Externs
namespace Go.Proofs.YticabllkadpmeaaGreatDoor
set_option linter.unusedVariables false
set_option linter.unusedSimpArgs false
set_option linter.unnecessarySimpa false
open Go.RowKit
open Tre (It)
set_option maxRecDepth 100000
set_option maxHeartbeats 4000000

theorem cmps_any (a b : ByteArray) (w : World) :
    Calls Tryz.prog 66 #[.string a, .string b] w fun e w' => e = .returned (.int .i64 (Lib.compareBytes a.data.toList b.data.toList)) ∧ w' = w := by
  go_enter Tryz.func66, Tryz.ntmps66
  go_wp2
  rw [run_callFunc_extern Tryz.func87 (by kernel_rfl) (by kernel_rfl) (by kernel_rfl) (e := Extern.BytealgCompare.compare) (by kernel_rfl), Lib.run_compareString]
  simp only [Result.andThen]
  rw [Oper.upon_value]
  go_wp2
  go_ret
  exact ⟨rfl, rfl⟩
theorem cmp_any (a b : ByteArray) (w : World) :
    Calls Tryz.prog 47 #[.string a, .string b] w fun e w' => e = .returned (.int .i64 (Lib.compareBytes a.data.toList b.data.toList)) ∧ w' = w := by
  go_enter Tryz.func47, Tryz.ntmps47
  go_wp2_with (go_at_call 66; refine (cmps_any _ _ _).mono ?_; rintro e w1 ⟨rfl, rfl⟩)
  go_ret
  exact ⟨rfl, rfl⟩
/-- How the order of bytes tells it. -/
theorem cmp_less : ∀ a b : List UInt8, (Lib.compareBytes a b < 0 ↔ Go.Op.bytesLess a b = true) ∧ (Lib.compareBytes a b = 0 ↔ a = b)
  | [], [] => by simp [Lib.compareBytes, Go.Op.bytesLess]
  | [], _ :: _ => by simp [Lib.compareBytes, Go.Op.bytesLess]
  | _ :: _, [] => by simp [Lib.compareBytes, Go.Op.bytesLess]
  | a :: x, b :: y => by
    have ih := cmp_less x y
    simp only [Lib.compareBytes, Go.Op.bytesLess]
    by_cases h : a < b
    · have hne : a ≠ b := fun e => by subst e; exact UInt8.lt_irrefl _ h
      simp [h, hne]
    · by_cases k : b < a
      · have hne : a ≠ b := fun e => by subst e; exact UInt8.lt_irrefl _ k
        simp [h, k, hne]
      · have e : a = b := by
          rw [UInt8.lt_iff_toNat_lt] at h k
          exact UInt8.toNat_inj.1 (by omega)
        subst e
        simp [h, ih.1, ih.2]
/-- An item's value. -/
abbrev itV (x : It) : Value := .agg (itC x).toArray
theorem fcmp_any (x : It) (hx : ItOk x) (n : ByteArray) (w : World) :
    Calls Tryz.prog 46 #[itV x, .string n] w fun e w' => e = .returned (.int .i64 (Lib.compareBytes x.nm n.data.toList)) ∧ Below w.heap.size w w' := by
  go_enter Tryz.func46, Tryz.ntmps46
  have hc : (w.alloc (.cells (itC x).toArray 38)).cell? ⟨w.heap.size, 0, none⟩ = some (.string x.name) := Row.cell (Row.new w 38 (itC x)) 0
  go_wp2_with (go_at_call 47; refine (cmp_any _ _ _).mono ?_; rintro e w1 ⟨rfl, rfl⟩)
  go_ret
  exact ⟨rfl, balloc (Below.refl _ _) _⟩
theorem index_sum (l : List UInt8) (hl : l.length = 32) (j : Nat) (hj : j < 32) (w : World) : (Instr.index 36 (sumV l) (.int .i64 (j : Int))).run Tryz.prog w = .ok (.int .u8 ((l.getD j 0).toNat : Int)) w := by
  have := run_index_nums (P := Tryz.prog) Tryz.underlying36 Tryz.underlying5 (by kernel_rfl) (l.map fun c => (c.toNat : Int)) j (by simpa [hl] using hj) (by simpa using hl) w
  have e : nums .u8 (l.map fun c => (c.toNat : Int)) = bytes l := by simp [nums, bytes]
  rw [e] at this
  unfold sumV
  rw [this]
  simp [List.getD, List.getElem?_eq_getElem (show j < l.length by omega)]
theorem slot_any (s : ByteArray) (w : World) (hg : Glob w) (hs : s.size ≤ 140737488351232) :
    Calls Tryz.prog 24 #[.string s] w fun e w' => e = .returned (.int .i64 (Tre.slot s.data.toList : Int)) ∧ Below w.heap.size w w' := by
  have hrun := fun w => Lib.run_convert_string_bytes (P := Tryz.prog) w 9 64 5 s Tryz.underlying9 Tryz.underlying64 Tryz.underlying5
  have hsh : Sh (Lib.bytesWorld w 5 s) (.slice (some ⟨w.heap.size, 0, none⟩) s.size (grownCap w s.size 0 5)) s.data.toList := by
    have hl : s.data.toList.length = s.size := Array.length_toList
    refine ⟨by simp, _, _, by rw [hl], by rw [hl]; exact grownCap_ge w _ _ _, grownCap_le_maxLen w _ _ _ (by unfold maxLen; omega), fun e => by simp at e, fun x hx j q hq => ?_⟩
    simp only [Option.some.injEq] at hx
    subst hx
    have hj : j < s.data.toList.length := by have := (List.getElem?_eq_some_iff.1 hq).1; simpa using this
    rw [Addr.add_lit, Nat.zero_add, Lib.bytesWorld_cell w _ s j (by omega), ← hq, bytes_get, List.getElem?_eq_getElem hj]
    simp [List.getD, List.getElem?_eq_getElem hj]
  have hb : Below w.heap.size w (Lib.bytesWorld w 5 s) := ⟨rfl, rfl, rfl, by rw [Lib.bytesWorld_size]; omega, fun k hk => Lib.bytesWorld_at_old w _ s k hk⟩
  have HG := Lib.hid (Glob.below hg hb hg.1)
  have HSH := Lib.hid hsh
  have HB := Lib.hid hb
  clear hsh hb hg
  go_enter Tryz.func24, Tryz.ntmps24
  go_wp2_with (first
    | (rw [hrun])
    | (go_at_call 44; refine (Sums_any _ s.data.toList _ HG.out HSH.out (by rw [show s.data.toList.length = s.size from Array.length_toList]; exact hs)).mono ?_; rintro e w1 ⟨rfl, hb1⟩; have hix : (Instr.index 36 (sumV (Sha.sum s.data.toList)) (.int .i64 0)).run Tryz.prog w1 = .ok (.int .u8 (((Sha.sum s.data.toList).getD 0 0).toNat : Int)) w1 := index_sum (Sha.sum s.data.toList) (Sha.sum_length _) 0 (by decide) w1; have hx8 := ((Sha.sum s.data.toList).getD 0 0).toNat_lt; have HSL : Hid (Tre.slot s.data.toList = ((Sha.sum s.data.toList).getD 0 0).toNat / 16) := rfl; generalize ((Sha.sum s.data.toList).getD 0 0).toNat = x0 at *))
  go_ret
  refine ⟨?_, HB.out.trans (hb1.mono HB.out.size)⟩
  rw [HSL.out]
  go_num
end Go.Proofs.YticabllkadpmeaaGreatDoor
namespace Go.Proofs.YticabllkadpmeaaGreatDoor
set_option linter.unusedVariables false
set_option linter.unusedSimpArgs false
set_option linter.unnecessarySimpa false
namespace Tre
open Go.Op (bytesLess)

/-- The item of a name. -/
def find (A : List It) (n : List UInt8) : Option It := A.find? fun y => y.nm == n
theorem find_put (A : List It) (x : It) (n : List UInt8) (h : Rise A) : find (put A x) n = if x.nm = n then some x else find A n := by
  induction A with
  | nil =>
    simp only [put, find, List.find?_cons, List.find?_nil]
    by_cases e : x.nm = n
    · simp [e]
    · simp [e, beq_eq_false_iff_ne.2 e]
  | cons y r ih =>
    obtain ⟨h1, h2⟩ := List.pairwise_cons.1 h
    have ih := ih h2
    unfold find at ih ⊢
    unfold put
    split
    · rename_i hlt
      rw [List.find?_cons, List.find?_cons, ih]
      by_cases hy : y.nm = n
      · have hx : ¬ x.nm = n := by
          intro e; rw [hy, ← e, less_irrefl] at hlt; simp at hlt
        simp [hy, hx]
      · simp [beq_eq_false_iff_ne.2 hy]
    · rename_i hlt
      split
      · rw [List.find?_cons]
        by_cases e : x.nm = n
        · simp [e]
        · simp [e, beq_eq_false_iff_ne.2 e]
      · rename_i hgt
        have e := less_total _ _ (by simpa using hlt) (by simpa using hgt)
        rw [List.find?_cons, List.find?_cons, e]
        by_cases e : x.nm = n
        · simp [e]
        · simp [e, beq_eq_false_iff_ne.2 e]
/-- The last item of a name. -/
def last (l : List It) (n : List UInt8) : Option It := l.foldl (fun o x => if x.nm = n then some x else o) none
theorem last_snoc (l : List It) (x : It) (n : List UInt8) : last (l ++ [x]) n = if x.nm = n then some x else last l n := by simp [last, List.foldl_append]
theorem find_fold (l : List It) (n : List UInt8) : ∀ a : List It, Rise a → find (l.foldl put a) n = l.foldl (fun o x => if x.nm = n then some x else o) (find a n) := by
  induction l with
  | nil => intro a _; rfl
  | cons x r ih => intro a h; simp only [List.foldl_cons]; rw [ih _ (put_rise a x h), find_put a x n h]
theorem find_all (l : List It) (n : List UInt8) : find (all l) n = last l n := find_fold l n [] List.Pairwise.nil
theorem find_leaf (A : List It) (n : List UInt8) : find (leafItems A (slot n)) n = find A n := by
  unfold find leafItems
  induction A with
  | nil => rfl
  | cons y r ih =>
    rw [List.filter_cons, List.find?_cons]
    by_cases e : y.nm = n
    · have hs : (slot y.nm == slot n) = true := by rw [e]; simp
      rw [if_pos hs, List.find?_cons]; simp [e]
    · rw [beq_eq_false_iff_ne.2 e]
      split
      · rw [List.find?_cons, beq_eq_false_iff_ne.2 e]; exact ih
      · exact ih
/-- What stands at the place, if the name is there. -/
theorem find_ahead (L : List It) (n : List UInt8) (h : Rise L) : find L n = if has L n then L[ahead L n]? else none := by
  unfold find
  induction L with
  | nil => simp [has]
  | cons y r ih =>
    obtain ⟨h1, h2⟩ := List.pairwise_cons.1 h
    have ih := ih h2
    rw [List.find?_cons]
    by_cases e : y.nm = n
    · have ha : ahead (y :: r) n = 0 := by simp [ahead, List.takeWhile_cons, e, less_irrefl]
      have hb : has (y :: r) n = true := by simp [has, e]
      rw [ha, hb]; simp [e]
    · have hb : has (y :: r) n = has r n := by simp only [has, List.any_cons, beq_eq_false_iff_ne.2 e, Bool.false_or]
      rw [beq_eq_false_iff_ne.2 e, hb]
      by_cases hlt : bytesLess y.nm n = true
      · have ha : ahead (y :: r) n = ahead r n + 1 := by simp [ahead, List.takeWhile_cons, hlt]
        rw [ha, List.getElem?_cons_succ]; exact ih
      · have hr : has r n = false := by
          simp only [has, List.any_eq_false]
          intro z hz ez
          have := h1 z hz
          rw [beq_iff_eq.1 ez] at this
          exact hlt this
        rw [hr, ih, hr]; rfl
theorem find_none {A : List It} {n : List UInt8} (h : find A n = none) : ∀ x ∈ A, x.nm ≠ n := by
  intro x hx e
  unfold find at h
  rw [List.find?_eq_none] at h
  exact h x hx (by simp [e])
theorem find_some {A : List It} {n : List UInt8} {x : It} (h : find A n = some x) : x ∈ A ∧ x.nm = n := by
  unfold find at h
  exact ⟨List.mem_of_find?_eq_some h, by have := List.find?_some h; simpa using this⟩
theorem find_mem {A : List It} (h : Rise A) {x : It} (hx : x ∈ A) : find A x.nm = some x := by
  induction A with
  | nil => cases hx
  | cons y r ih =>
    obtain ⟨h1, h2⟩ := List.pairwise_cons.1 h
    unfold find
    rw [List.find?_cons]
    rcases List.mem_cons.1 hx with rfl | hx
    · simp
    · have hne : ¬ y.nm = x.nm := by intro e; have := h1 x hx; rw [e, less_irrefl] at this; simp at this
      rw [beq_eq_false_iff_ne.2 hne]
      exact ih h2 hx
/-- Rising items are told by what is found. -/
theorem rise_ext : ∀ A B : List It, Rise A → Rise B → (∀ n, find A n = find B n) → A = B
  | [], [], _, _, _ => rfl
  | [], y :: s, _, hB, h => by have := h y.nm; rw [find_mem hB (List.mem_cons_self ..)] at this; simp [find] at this
  | x :: r, [], hA, _, h => by have := h x.nm; rw [find_mem hA (List.mem_cons_self ..)] at this; simp [find] at this
  | x :: r, y :: s, hA, hB, h => by
    obtain ⟨a1, a2⟩ := List.pairwise_cons.1 hA
    obtain ⟨b1, b2⟩ := List.pairwise_cons.1 hB
    have hx := h x.nm
    rw [find_mem hA (List.mem_cons_self ..)] at hx
    have hx := (find_some hx.symm).1
    have hy := h y.nm
    rw [find_mem hB (List.mem_cons_self ..)] at hy
    have hy := (find_some hy).1
    have e : x = y := by
      rcases List.mem_cons.1 hx with e | hx
      · exact e
      rcases List.mem_cons.1 hy with e | hy
      · exact e.symm
      have := less_asymm _ _ (b1 x hx)
      rw [a1 y hy] at this
      simp at this
    subst e
    rw [rise_ext r s a2 b2 fun n => ?_]
    have hn := h n
    by_cases e : x.nm = n
    · have hr : find r n = none := by
        unfold find; rw [List.find?_eq_none]; intro z hz ez
        have := a1 z hz; rw [e, beq_iff_eq.1 ez, less_irrefl] at this; simp at this
      have hs : find s n = none := by
        unfold find; rw [List.find?_eq_none]; intro z hz ez
        have := b1 z hz; rw [e, beq_iff_eq.1 ez, less_irrefl] at this; simp at this
      rw [hr, hs]
    · unfold find at hn ⊢
      rw [List.find?_cons, List.find?_cons, beq_eq_false_iff_ne.2 e] at hn
      exact hn
/-- Some of rising items, each at least once, in any order. -/
theorem any_order (A M : List It) (h : Rise A) (h1 : ∀ x ∈ M, x ∈ A) (h2 : ∀ x ∈ A, x ∈ M) : all M = A := by
  refine rise_ext _ _ (all_rise M) h fun n => ?_
  rw [find_all]
  have : ∀ (M : List It) (o : Option It), (∀ x ∈ M, x ∈ A) → M.foldl (fun o x => if x.nm = n then some x else o) o = if M.any (fun x => x.nm == n) then find A n else o := by
    intro M
    induction M with
    | nil => intro o _; simp
    | cons x r ih =>
      intro o hM
      simp only [List.foldl_cons, List.any_cons]
      rw [ih _ (fun z hz => hM z (List.mem_cons_of_mem _ hz))]
      by_cases e : x.nm = n
      · have hf := find_mem h (hM x (List.mem_cons_self ..))
        rw [e] at hf
        simp only [e, if_true, hf, beq_self_eq_true, Bool.true_or]
        split <;> rfl
      · simp only [if_neg e, beq_eq_false_iff_ne.2 e, Bool.false_or]
  unfold last
  rw [this M none h1]
  split
  · rfl
  · rename_i hM
    cases hf : find A n with
    | none => rfl
    | some x =>
      exfalso; apply hM
      obtain ⟨hx, hn⟩ := find_some hf
      rw [List.any_eq_true]
      exact ⟨x, h2 x hx, by simp [hn]⟩
/-- Behind an item's coming only the sums on its way are others. -/
theorem leafAt_put (A : List It) (x : It) (h : Rise A) (i : Nat) (hi : slot x.nm ≠ i) : leafAt (put A x) i = leafAt A i := by
  unfold leafAt; rw [leafItems_put A x h, if_neg hi]
theorem nodeAt_put (A : List It) (x : It) (h : Rise A) (a : Nat) (ha : slot x.nm / 4 ≠ a) : nodeAt (put A x) a = nodeAt A a := by
  unfold nodeAt
  rw [leafAt_put A x h _ (by omega), leafAt_put A x h _ (by omega), leafAt_put A x h _ (by omega), leafAt_put A x h _ (by omega)]
end Tre
end Go.Proofs.YticabllkadpmeaaGreatDoor
