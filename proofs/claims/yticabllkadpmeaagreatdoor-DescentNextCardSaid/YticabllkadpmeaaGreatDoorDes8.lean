/- The laws of chapter 22: lives; the reference's Same of texts. -/
import Derived.Test.YticabllkadpmeaaGreatDoorDes7
--DEV
namespace Go.Proofs.YticabllkadpmeaaGreatDoor
set_option linter.unusedVariables false
set_option linter.unusedSimpArgs false
set_option linter.unnecessarySimpa false
open Go.RowKit
open Tre (It)
set_option maxRecDepth 100000
set_option maxHeartbeats 8000000

theorem rsameS_any (av bv : Value) (ss : List ByteArray) (w : World) (h1 : ShS w av ss) (h2 : ShS w bv ss) (hl : ss.length < 4611686018427387904) :
    Calls Tryz.prog 20 #[av, bv] w fun r w' => r = .returned (.bool true) ∧ Below w.heap.size w w' := by
  unfold ShS at h1 h2
  rw [strs_length] at h1 h2
  obtain ⟨a, cap, rfl, a1, a2, a3, a4⟩ := h1.open
  obtain ⟨b, cap2, rfl, b1, b2, b3, b4⟩ := h2.open
  clear a3 b3 h1 h2
  have HX := Lib.hid (fun j hj => strs_get ss j hj)
  have htl : (strs ss).length = ss.length := strs_length ss
  generalize hL : ss.length = L at *
  clear hL
  generalize strs ss = xs at *
  have HTL := Lib.hid htl
  clear htl
  have hlI : (L : Int) < 4611686018427387904 := by omega
  have hne : ((L : Int) != (L : Int)) = false := by simp
  go_enter Tryz.func20, Tryz.ntmps20
  go_wp2
  go_loopw [5] (fun i wr => ∃ j : Nat, j ≤ L ∧ i = .int .i64 j ∧ ∃ m, wr = w.drewN m) (fun i _ => L - (intOf i).toNat)
  case atStart => exact ⟨0, by omega, rfl, 0, rfl⟩
  case round =>
    obtain ⟨j, hj, rfl, m, rfl⟩ := hrel
    by_cases hlt : j < L
    · obtain ⟨ba, oa, rfl, hca⟩ := a4.cells1 (by rw [HTL.out]; omega)
      obtain ⟨bb, ob, rfl, hcb⟩ := b4.cells1 (by rw [HTL.out]; omega)
      have ka := hca j _ (HX.out j hlt)
      have kb := hcb j _ (HX.out j hlt)
      clear hca hcb
      have hjI : (j : Int) < (L : Int) := by omega
      generalize ss.getD j .empty = t at *
      go_wp2
      go_quiet (fail)
      go_wp2
      go_roundw
      case rel => exact ⟨j + 1, by omega, by go_num, m + nq, by simp⟩
      case measure => simp [intOf]; omega
    · obtain rfl : j = L := by omega
      go_wp2
      go_ret
      exact ⟨rfl, drewN_below w m⟩
theorem lives22_any (w : World) (hg : Glob w) : Calls Tryz.prog 9 #[] w fun e w' => e = .returned (.bool true) ∧ Below w.heap.size w w' := by
  have HG := Lib.hid hg
  have hz3 := hg.1
  obtain ⟨z, hz⟩ : ∃ z, z = sIt := ⟨_, rfl⟩
  have HZ := Lib.hid hz
  have HZO : Hid (ItS z) := by rw [hz]; exact sIt_ok
  have HZK : Hid (ItOk z) := HZO.out.1
  have HAL : Hid (Tre.all [z] = [z]) := rfl
  have HZN : Hid (z.name = ⟨#[115]⟩) := by rw [hz]; rfl
  clear hg hz
  go_enter Tryz.func9, Tryz.ntmps9
  have BL : Hid (Below w.heap.size w (w.alloc (.cells (itC z).toArray 38))) := balloc (Below.refl _ _) _
  have IL := Lib.hid (its_lit w z HZO.out.1)
  have GL := Lib.hid (Glob.below HG.out BL.out hz3)
  have hwl := BL.out.size
  generalize hW1 : w.alloc (.cells (itC z).toArray 38) = W1 at *
  go_upto_region 2 with (first
    | (with_reducible refine build_s z HZ.out rfl rfl ?_)
    | (with_reducible refine build_one rfl (.tmp 6) rfl z HZK.out rfl ?_; rw [hW1]; clear hW1)
    | (go_at_call 6; refine (Build_any _ [z] _ GL.out IL.out (fun x hx => by rw [List.mem_singleton] at hx; subst hx; exact HZO.out) (by simp)).mono ?_; rw [HAL.out]; rintro e w2 ⟨T, rfl, ht, hi, hn, hb⟩; have HT := Lib.hid ht; have HI := Lib.hid hi; have B2 := Lib.hid (BL.out.trans (hb.mono hwl)); have G2 := Lib.hid (Glob.below GL.out hb (by omega)); have hw2 := B2.out.size; clear ht hi hn hb)
    | (go_at_call 19; refine (diff_s _ _ _ T z HZ.out G2.out HT.out HI.out).mono ?_; rintro e w3 ⟨v3, rfl, ho3, hb3⟩; obtain ⟨a3, c3, hv3, -, -, -, -⟩ := ho3.shS.open; rw [strs_length] at hv3; simp only [List.length_cons, List.length_nil, Nat.zero_add] at hv3; subst hv3; have O3 := Lib.hid ho3; have B3 := Lib.hid (B2.out.trans (hb3.mono hw2)); have G3 := Lib.hid (Glob.below G2.out hb3 (by omega)); have hw3 := hb3.size; clear ho3 hb3))
  go_upto_region 3 with (go_at_call 19; refine (diff_nil _ G3.out).mono ?_; rintro e w4 ⟨rfl, hb4⟩; have O4 := Lib.hid (own_cel O3.out (Cel.of_below (hb4.mono (Nat.le_refl _)))); have B4 := Lib.hid (B3.out.trans (hb4.mono (by omega))); have hw4 := B4.out.size; clear hb4)
  have BQ : Hid (Below w4.heap.size w4 (w4.alloc (.cells #[.string ⟨#[115]⟩] 9))) := balloc (Below.refl _ _) _
  have S1 : Hid (ShS (w4.alloc (.cells #[.string ⟨#[115]⟩] 9)) (.slice a3 1 c3) [z.name]) := OwnS.shS (own_cel O4.out (Cel.of_below BQ.out))
  have S2 : Hid (ShS (w4.alloc (.cells #[.string ⟨#[115]⟩] 9)) (.slice (some ⟨w4.heap.size, 0, none⟩) 1 1) [z.name]) := by rw [HZN.out]; exact (Own1.lit w4 9 [.string ⟨#[115]⟩]).shows
  go_wp2_with (go_at_call 20; refine (rsameS_any _ _ [z.name] _ S1.out S2.out (by simp)).mono ?_; rintro e w6 ⟨rfl, hb6⟩; have B6 := Lib.hid (B4.out.trans ((BQ.out.trans (hb6.mono BQ.out.size)).mono hw4)); clear hb6)
  go_ret
  exact ⟨rfl, B6.out⟩
end Go.Proofs.YticabllkadpmeaaGreatDoor
