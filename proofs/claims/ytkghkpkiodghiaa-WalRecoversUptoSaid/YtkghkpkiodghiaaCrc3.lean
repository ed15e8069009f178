/- Check sums: the document's answer, walked. -/
import Derived.Test.YtkghkpkiodghiaaCrc2
namespace Go.Proofs.Ytkghkpkiodghiaa
set_option linter.unusedVariables false
set_option linter.unusedSimpArgs false
set_option linter.unnecessarySimpa false
open Go.RowKit
set_option maxRecDepth 100000
set_option maxHeartbeats 4000000

theorem stepN_hi (x : Nat) (hx : x < 4294967296) (h : 2147483648 ≤ x) : stepN x = (x * 2 % 4294967296) ^^^ 79764919 := by
  unfold stepN
  rw [if_neg (fun hc => by have := (top_lt x hx).1 hc; omega)]
theorem byteL_lt (s : Nat) (hs : s < 4294967296) (l : List UInt8) : byteL s l < 4294967296 := by rw [← onL_eq l s hs]; exact onL_lt s hs l
theorem byteL_take (s : Nat) (l : List UInt8) (j : Nat) (hj : j < l.length) : byteL s (l.take (j + 1)) = byteN (byteL s (l.take j)) (l.getD j 0).toNat := by
  unfold byteL
  rw [List.take_add_one, List.getElem?_eq_getElem hj]
  rw [List.foldl_append]
  simp [List.getD, List.getElem?_eq_getElem hj]
theorem refGo_any (s : Nat) (hs : s < 4294967296) (v : Value) (l : List UInt8) (w : World) (h : Sh w v l) :
    Calls Try.prog 76 #[.int .u32 (s : Int), v] w fun e w' => e = .returned (.int .u32 (byteL s l : Int)) ∧ w' = w := by
  obtain ⟨a, cap, rfl, g1, g2, g3, g4⟩ := h.open
  have H := Lib.hid h
  have hll := Sh.len h
  clear h g3 g4
  go_enter Try.func76, Try.ntmps76
  go_wp2_with fail
  go_loopw [0, 5] (fun st i wr => ∃ j : Nat, j ≤ l.length ∧ i = .int .i64 j ∧ st = .int .u32 (byteL s (l.take j) : Int) ∧ wr = w) (fun _ i _ => l.length - (intOf i).toNat)
  case atStart => exact ⟨0, by omega, rfl, rfl, rfl⟩
  case round =>
    obtain ⟨j, hj, rfl, rfl, rfl⟩ := hrel
    by_cases hlt : j < l.length
    · obtain ⟨b, off, rfl, hby⟩ := H.out.cells (by omega)
      have hbyte := hby j hlt
      have hst := byteL_take s l j hlt
      have ht := byteL_lt s hs (l.take j)
      have hc := UInt8.toNat_lt (l.getD j 0)
      have HST := Lib.hid hst
      clear hby hst
      generalize byteL s (l.take j) = t at *
      generalize (l.getD j 0).toNat = c at *
      have hjI : (j : Int) < (l.length : Int) := by omega
      have hx : bits .xor .u32 (t : Int) ((c : Int) * 16777216) = ((t ^^^ c * 16777216 : Nat) : Int) := by rw [← xor32 _ _ ht (by omega)]; congr 1
      have hb := Lib.hid (show byteN t c = stepsN (t ^^^ c * 16777216) 8 from rfl)
      have hlt32 : t ^^^ c * 16777216 < 4294967296 := Nat.xor_lt_two_pow (n := 32) (by omega) (by omega)
      generalize t ^^^ c * 16777216 = x at *
      go_wp2_with fail
      go_loopw [0, 6] (fun st i w' => ∃ k : Nat, k ≤ 8 ∧ i = .int .i64 k ∧ st = .int .u32 (stepsN x k : Int) ∧ w' = wr) (fun _ i _ => 8 - (intOf i).toNat)
      case atStart => exact ⟨0, by omega, rfl, rfl, rfl⟩
      case round =>
        obtain ⟨k, hk, rfl, rfl, rfl⟩ := hrel
        by_cases hlt8 : k < 8
        · have hyl := stepsN_lt x hlt32 k
          have HE := Lib.hid (show stepsN x (k + 1) = stepN (stepsN x k) from rfl)
          generalize stepsN x k = y at *
          by_cases hy : 2147483648 ≤ y
          · have hs2 := stepN_hi y hyl hy
            have hx2 : bits .xor .u32 ((y : Int) * 2 % 4294967296) 79764919 = (((y * 2 % 4294967296) ^^^ 79764919 : Nat) : Int) := by rw [← xor32 _ _ (by omega) (by omega)]; congr 1
            have HS := Lib.hid hs2
            have hyI : 2147483648 ≤ (y : Int) := by omega
            clear hs2
            go_wp2_with fail
            exact ⟨⟨k + 1, by omega, by go_num, by rw [HE.out, HS.out], by trivial⟩, by simp [intOf]; omega⟩
          · have hs2 := stepN_low y (by omega)
            have HS := Lib.hid hs2
            have hyI : ¬ 2147483648 ≤ (y : Int) := by omega
            clear hs2
            go_wp2_with fail
            exact ⟨⟨k + 1, by omega, by go_num, by rw [HE.out, HS.out]; go_num, by trivial⟩, by simp [intOf]; omega⟩
        · obtain rfl : k = 8 := by omega
          have HB := Lib.hid hb.out.symm
          rw [HB.out]
          go_wp2_with fail
          exact ⟨⟨j + 1, by omega, by go_num, by rw [HST.out], by trivial⟩, by simp [intOf]; omega⟩
    · obtain rfl : j = l.length := by omega
      have HTk := Lib.hid (show l.take l.length = l from List.take_length ..)
      rw [HTk.out]
      go_wp2_with fail
      go_ret
      exact ⟨rfl, rfl⟩

theorem refSum_any (v : Value) (l : List UInt8) (w : World) (h : Sh w v l) :
    Calls Try.prog 73 #[v] w fun e w' => e = .returned (.int .u32 (onL 4294967295 l : Int)) ∧ w' = w := by
  have H := Lib.hid h
  have HE := Lib.hid (onL_eq l 4294967295 (by omega))
  clear h
  go_enter Try.func73, Try.ntmps73
  go_wp2_with (go_at_call 76; refine (refGo_any 4294967295 (by omega) v l _ H.out).mono ?_; rintro e w1 ⟨rfl, rfl⟩)
  go_ret
  rw [HE.out]
  exact ⟨rfl, rfl⟩
theorem refBytes_any (s : Nat) (hs : s < 4294967296) (w : World) :
    Calls Try.prog 72 #[.int .u32 (s : Int)] w fun e w' => ∃ v, e = .returned v ∧ Own w' w.heap.size 5 v (sumB s) ∧ Below w.heap.size w w' := by
  have H0 := Lib.hid (ofNat_int (s / 16777216) ((s : Int) / 16777216) (by omega)).symm
  have H1 := Lib.hid (ofNat_int (s / 65536) ((s : Int) / 65536 % 256) (by omega)).symm
  have H2 := Lib.hid (ofNat_int (s / 256) ((s : Int) / 256 % 256) (by omega)).symm
  have H3 := Lib.hid (ofNat_int s ((s : Int) % 256) (by omega)).symm
  go_enter Try.func72, Try.ntmps72
  go_wp2_with fail
  go_ret
  rw [H0.out, H1.out, H2.out, H3.out]
  exact ⟨_, rfl, Own.lit w 5 (sumB s) (by simp [sumB]), balloc (Below.refl _ _) _⟩
end Go.Proofs.Ytkghkpkiodghiaa
