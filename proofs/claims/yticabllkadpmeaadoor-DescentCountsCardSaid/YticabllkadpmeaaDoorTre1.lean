/- Package tree: strings.Compare, the comparison of find, slot. -/
import Derived.Test.YticabllkadpmeaaDoorSha5
import Derived.Test.YticabllkadpmeaaDoorTreP
import Derived.Test.YticabllkadpmeaaDoorOpenI
import Derived.Lib.Bytealg
import Derived.Lib.ConvBytes
import Derived.Laws.Externs
namespace Go.Proofs.YticabllkadpmeaaDoor
set_option linter.unusedVariables false
set_option linter.unusedSimpArgs false
set_option linter.unnecessarySimpa false
open Go.RowKit
open Tre (It)
set_option maxRecDepth 100000
set_option maxHeartbeats 4000000

theorem cmps_any (a b : ByteArray) (w : World) :
    Calls Tryd.prog 80 #[.string a, .string b] w fun e w' => e = .returned (.int .i64 (Lib.compareBytes a.data.toList b.data.toList)) ∧ w' = w := by
  go_enter Tryd.func80, Tryd.ntmps80
  go_wp2
  rw [run_callFunc_extern Tryd.func95 (by kernel_rfl) (by kernel_rfl) (by kernel_rfl) (e := Extern.BytealgCompare.compare) (by kernel_rfl), Lib.run_compareString]
  simp only [Result.andThen]
  rw [Oper.upon_value]
  go_wp2
  go_ret
  exact ⟨rfl, rfl⟩
theorem cmp_any (a b : ByteArray) (w : World) :
    Calls Tryd.prog 52 #[.string a, .string b] w fun e w' => e = .returned (.int .i64 (Lib.compareBytes a.data.toList b.data.toList)) ∧ w' = w := by
  go_enter Tryd.func52, Tryd.ntmps52
  go_wp2_with (go_at_call 80; refine (cmps_any _ _ _).mono ?_; rintro e w1 ⟨rfl, rfl⟩)
  go_ret
  exact ⟨rfl, rfl⟩
/-- How the order of bytes tells it. -/
theorem cmp_less : ∀ a b : List UInt8, (Lib.compareBytes a b < 0 ↔ Go.Op.bytesLess a b = true) ∧ (Lib.compareBytes a b = 0 ↔ a = b)
  | [], [] => by simp [Lib.compareBytes, Go.Op.bytesLess]
  | [], _ :: _ => by simp [Lib.compareBytes, Go.Op.bytesLess]
  | _ :: _, [] => by simp [Lib.compareBytes, Go.Op.bytesLess]
  | a :: x, b :: y => by
    have ih := cmp_less x y
    simp only [Lib.compareBytes, Go.Op.bytesLess]
    by_cases h : a < b
    · have hne : a ≠ b := fun e => by subst e; exact UInt8.lt_irrefl _ h
      simp [h, hne]
    · by_cases k : b < a
      · have hne : a ≠ b := fun e => by subst e; exact UInt8.lt_irrefl _ k
        simp [h, k, hne]
      · have e : a = b := by
          rw [UInt8.lt_iff_toNat_lt] at h k
          exact UInt8.toNat_inj.1 (by omega)
        subst e
        simp [h, ih.1, ih.2]
/-- An item's value. -/
abbrev itV (x : It) : Value := .agg (itC x).toArray
theorem fcmp_any (x : It) (hx : ItOk x) (n : ByteArray) (w : World) :
    Calls Tryd.prog 51 #[itV x, .string n] w fun e w' => e = .returned (.int .i64 (Lib.compareBytes x.nm n.data.toList)) ∧ Below w.heap.size w w' := by
  go_enter Tryd.func51, Tryd.ntmps51
  have hc : (w.alloc (.cells (itC x).toArray 35)).cell? ⟨w.heap.size, 0, none⟩ = some (.string x.name) := Row.cell (Row.new w 35 (itC x)) 0
  go_wp2_with (go_at_call 52; refine (cmp_any _ _ _).mono ?_; rintro e w1 ⟨rfl, rfl⟩)
  go_ret
  exact ⟨rfl, balloc (Below.refl _ _) _⟩
theorem index_sum (l : List UInt8) (hl : l.length = 32) (j : Nat) (hj : j < 32) (w : World) : (Instr.index 33 (sumV l) (.int .i64 (j : Int))).run Tryd.prog w = .ok (.int .u8 ((l.getD j 0).toNat : Int)) w := by
  have := run_index_nums (P := Tryd.prog) Tryd.underlying33 Tryd.underlying5 (by kernel_rfl) (l.map fun c => (c.toNat : Int)) j (by simpa [hl] using hj) (by simpa using hl) w
  have e : nums .u8 (l.map fun c => (c.toNat : Int)) = bytes l := by simp [nums, bytes]
  rw [e] at this
  unfold sumV
  rw [this]
  simp [List.getD, List.getElem?_eq_getElem (show j < l.length by omega)]
theorem slot_any (s : ByteArray) (w : World) (hg : Glob w) (hs : s.size ≤ 140737488351232) :
    Calls Tryd.prog 28 #[.string s] w fun e w' => e = .returned (.int .i64 (Tre.slot s.data.toList : Int)) ∧ Below w.heap.size w w' := by
  have hrun := fun w => Lib.run_convert_string_bytes (P := Tryd.prog) w 9 67 5 s Tryd.underlying9 Tryd.underlying67 Tryd.underlying5
  have hsh : Sh (Lib.bytesWorld w 5 s) (.slice (some ⟨w.heap.size, 0, none⟩) s.size (grownCap w s.size 0 5)) s.data.toList := by
    have hl : s.data.toList.length = s.size := Array.length_toList
    refine ⟨by simp, _, _, by rw [hl], by rw [hl]; exact grownCap_ge w _ _ _, grownCap_le_maxLen w _ _ _ (by unfold maxLen; omega), fun e => by simp at e, fun x hx j q hq => ?_⟩
    simp only [Option.some.injEq] at hx
    subst hx
    have hj : j < s.data.toList.length := by have := (List.getElem?_eq_some_iff.1 hq).1; simpa using this
    rw [Addr.add_lit, Nat.zero_add, Lib.bytesWorld_cell w _ s j (by omega), ← hq, bytes_get, List.getElem?_eq_getElem hj]
    simp [List.getD, List.getElem?_eq_getElem hj]
  have hb : Below w.heap.size w (Lib.bytesWorld w 5 s) := ⟨rfl, rfl, rfl, by rw [Lib.bytesWorld_size]; omega, fun k hk => Lib.bytesWorld_at_old w _ s k hk⟩
  have HG := Lib.hid (Glob.below hg hb hg.1)
  have HSH := Lib.hid hsh
  have HB := Lib.hid hb
  clear hsh hb hg
  go_enter Tryd.func28, Tryd.ntmps28
  go_wp2_with (first
    | (rw [hrun])
    | (go_at_call 49; refine (Sums_any _ s.data.toList _ HG.out HSH.out (by rw [show s.data.toList.length = s.size from Array.length_toList]; exact hs)).mono ?_; rintro e w1 ⟨rfl, hb1⟩; have hix : (Instr.index 33 (sumV (Sha.sum s.data.toList)) (.int .i64 0)).run Tryd.prog w1 = .ok (.int .u8 (((Sha.sum s.data.toList).getD 0 0).toNat : Int)) w1 := index_sum (Sha.sum s.data.toList) (Sha.sum_length _) 0 (by decide) w1; have hx8 := ((Sha.sum s.data.toList).getD 0 0).toNat_lt; have HSL : Hid (Tre.slot s.data.toList = ((Sha.sum s.data.toList).getD 0 0).toNat / 16) := rfl; generalize ((Sha.sum s.data.toList).getD 0 0).toNat = x0 at *))
  go_ret
  refine ⟨?_, HB.out.trans (hb1.mono HB.out.size)⟩
  rw [HSL.out]
  go_num
end Go.Proofs.YticabllkadpmeaaDoor
