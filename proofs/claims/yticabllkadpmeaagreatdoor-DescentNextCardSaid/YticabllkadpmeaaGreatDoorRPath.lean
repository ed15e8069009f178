/- ref21.Path. (printed by gen/rpath.py) -/
import Derived.Test.YticabllkadpmeaaGreatDoorShaR
import Derived.Test.YticabllkadpmeaaGreatDoorShaR2
namespace Go.Proofs.YticabllkadpmeaaGreatDoor
set_option linter.unusedVariables false
set_option linter.unusedSimpArgs false
set_option linter.unnecessarySimpa false
open Go.RowKit
open Tre (It)
set_option maxRecDepth 100000
set_option maxHeartbeats 8000000

theorem rpath_any (s : ByteArray) (w : World) (hs : s.size ≤ 100000000000000) :
    Calls Tryz.prog 71 #[.string s] w fun e w' => ∃ v, e = .returned v ∧ Ns w' v (pathOf s) ∧ Below w.heap.size w w' := by
  have hrun := fun w => Lib.run_convert_string_bytes (P := Tryz.prog) w 9 64 5 s Tryz.underlying9 Tryz.underlying64 Tryz.underlying5
  have hsh : Sh (Lib.bytesWorld w 5 s) (.slice (some ⟨w.heap.size, 0, none⟩) s.size (grownCap w s.size 0 5)) s.data.toList := by
    have hl : s.data.toList.length = s.size := Array.length_toList
    refine ⟨by simp, _, _, by rw [hl], by rw [hl]; exact grownCap_ge w _ _ _, grownCap_le_maxLen w _ _ _ (by unfold maxLen; omega), fun e => by simp at e, fun x hx j q hq => ?_⟩
    simp only [Option.some.injEq] at hx
    subst hx
    have hj : j < s.data.toList.length := by have := (List.getElem?_eq_some_iff.1 hq).1; simpa using this
    rw [Addr.add_lit, Nat.zero_add, Lib.bytesWorld_cell w _ s j (by omega), ← hq, bytes_get, List.getElem?_eq_getElem hj]
    simp [List.getD, List.getElem?_eq_getElem hj]
  have hb : Below w.heap.size w (Lib.bytesWorld w 5 s) := ⟨rfl, rfl, rfl, by rw [Lib.bytesWorld_size]; omega, fun k hk => Lib.bytesWorld_at_old w _ s k hk⟩
  have HSH := Lib.hid hsh
  have HB := Lib.hid hb
  clear hsh hb
  go_enter Tryz.func71, Tryz.ntmps71
  go_wp2_with (first
    | (rw [hrun])
    | (go_at_call 69; refine (rsum_any _ s.data.toList _ HSH.out (by rw [show s.data.toList.length = s.size from Array.length_toList]; exact hs)).mono ?_; rintro e w1 ⟨rfl, hb1⟩; have hix : (Instr.index 36 (sumV (Sha.sum s.data.toList)) (.int .i64 0)).run Tryz.prog w1 = .ok (.int .u8 (((Sha.sum s.data.toList).getD 0 0).toNat : Int)) w1 := index_sum (Sha.sum s.data.toList) (Sha.sum_length _) 0 (by decide) w1; have hx8 := ((Sha.sum s.data.toList).getD 0 0).toNat_lt; have HSL : Hid (pathOf s = [((((Sha.sum s.data.toList).getD 0 0).toNat / 16 / 4 : Nat) : Int), ((((Sha.sum s.data.toList).getD 0 0).toNat / 16 % 4 : Nat) : Int)]) := rfl; generalize ((Sha.sum s.data.toList).getD 0 0).toNat = x0 at *; have B1 := Lib.hid (HB.out.trans (hb1.mono HB.out.size)); clear hb1))
  go_ret
  refine ⟨_, rfl, ?_, B1.out.alloc B1.out.size _⟩
  rw [HSL.out]
  have := lit2 w1 ((x0 / 16 / 4 : Nat) : Int) ((x0 / 16 % 4 : Nat) : Int)
  rw [Nat.div_div_eq_div_mul] at this ⊢
  simpa using this
end Go.Proofs.YticabllkadpmeaaGreatDoor
