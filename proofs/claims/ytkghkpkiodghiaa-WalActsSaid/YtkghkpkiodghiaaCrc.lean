/- Check sums: half, on, Sum, Bytes. -/
import Derived.Test.YtkghkpkiodghiaaRows
import Derived.Test.YtkghkpkiodghiaaArr
import Derived.Laws.Tables
namespace Go.Proofs.Ytkghkpkiodghiaa
set_option linter.unusedVariables false
set_option linter.unusedSimpArgs false
set_option linter.unnecessarySimpa false
open Go.RowKit
set_option maxRecDepth 100000
set_option maxHeartbeats 4000000

theorem xor32 (a b : Nat) (ha : a < 4294967296) (hb : b < 4294967296) : bits .xor .u32 (a : Int) (b : Int) = ((a ^^^ b : Nat) : Int) := by
 have hx : a ^^^ b < 2 ^ 32 := Nat.xor_lt_two_pow (by omega) (by omega)
 have h1 : (BitVec.ofInt 32 (a : Int)).toNat = a := by rw [BitVec.ofInt_natCast, BitVec.toNat_ofNat]; exact Nat.mod_eq_of_lt (by omega)
 have h2 : (BitVec.ofInt 32 (b : Int)).toNat = b := by rw [BitVec.ofInt_natCast, BitVec.toNat_ofNat]; exact Nat.mod_eq_of_lt (by omega)
 show IntKind.u32.wrap ((BitVec.ofInt 32 (a : Int) ^^^ BitVec.ofInt 32 (b : Int)).toNat : Int) = _
 rw [BitVec.toNat_xor, h1, h2, IntWalk.u32_in _ ⟨by omega, by omega⟩]
theorem and32 (a b : Nat) (ha : a < 4294967296) (hb : b < 4294967296) : bits .and .u32 (a : Int) (b : Int) = ((a &&& b : Nat) : Int) := by
 have hx : a &&& b < 2 ^ 32 := Nat.and_lt_two_pow _ (by omega)
 have h1 : (BitVec.ofInt 32 (a : Int)).toNat = a := by rw [BitVec.ofInt_natCast, BitVec.toNat_ofNat]; exact Nat.mod_eq_of_lt (by omega)
 have h2 : (BitVec.ofInt 32 (b : Int)).toNat = b := by rw [BitVec.ofInt_natCast, BitVec.toNat_ofNat]; exact Nat.mod_eq_of_lt (by omega)
 show IntKind.u32.wrap ((BitVec.ofInt 32 (a : Int) &&& BitVec.ofInt 32 (b : Int)).toNat : Int) = _
 rw [BitVec.toNat_and, h1, h2, IntWalk.u32_in _ ⟨by omega, by omega⟩]
theorem xor8 (a b : Nat) (ha : a < 256) (hb : b < 256) : bits .xor .u8 (a : Int) (b : Int) = ((a ^^^ b : Nat) : Int) := by
 have hx : a ^^^ b < 2 ^ 8 := Nat.xor_lt_two_pow (by omega) (by omega)
 have h1 : (BitVec.ofInt 8 (a : Int)).toNat = a := by rw [BitVec.ofInt_natCast, BitVec.toNat_ofNat]; exact Nat.mod_eq_of_lt (by omega)
 have h2 : (BitVec.ofInt 8 (b : Int)).toNat = b := by rw [BitVec.ofInt_natCast, BitVec.toNat_ofNat]; exact Nat.mod_eq_of_lt (by omega)
 show IntKind.u8.wrap ((BitVec.ofInt 8 (a : Int) ^^^ BitVec.ofInt 8 (b : Int)).toNat : Int) = _
 rw [BitVec.toNat_xor, h1, h2, IntWalk.u8_in _ ⟨by omega, by omega⟩]
theorem and8 (a b : Nat) (ha : a < 256) (hb : b < 256) : bits .and .u8 (a : Int) (b : Int) = ((a &&& b : Nat) : Int) := by
 have hx : a &&& b < 2 ^ 8 := Nat.and_lt_two_pow _ (by omega)
 have h1 : (BitVec.ofInt 8 (a : Int)).toNat = a := by rw [BitVec.ofInt_natCast, BitVec.toNat_ofNat]; exact Nat.mod_eq_of_lt (by omega)
 have h2 : (BitVec.ofInt 8 (b : Int)).toNat = b := by rw [BitVec.ofInt_natCast, BitVec.toNat_ofNat]; exact Nat.mod_eq_of_lt (by omega)
 show IntKind.u8.wrap ((BitVec.ofInt 8 (a : Int) &&& BitVec.ofInt 8 (b : Int)).toNat : Int) = _
 rw [BitVec.toNat_and, h1, h2, IntWalk.u8_in _ ⟨by omega, by omega⟩]

theorem bset {B : Nat} {a w : World} (h : Below B a w) {g j : Nat} (hg : B ≤ g) (u : Value) : Below B a (w.setCell ⟨g, j, none⟩ u) := h.setCell hg u
/-- One bit further. -/
def stepN (s : Nat) : Nat := if s &&& 2147483648 = 0 then s * 2 % 4294967296 else (s * 2 % 4294967296) ^^^ 79764919
def stepsN (s : Nat) : Nat → Nat
 | 0 => s
 | j + 1 => stepN (stepsN s j)
theorem stepN_lt (s : Nat) : stepN s < 4294967296 := by
 unfold stepN
 split
 ·omega
 ·exact Nat.xor_lt_two_pow (n := 32) (by omega) (by omega)
theorem stepsN_lt (s : Nat) (hs : s < 4294967296) : ∀ j, stepsN s j < 4294967296
 | 0 => hs
 | j + 1 => stepN_lt _
def halfN (s : Nat) : Nat := stepsN s 4
theorem halfN_lt (s : Nat) (hs : s < 4294967296) : halfN s < 4294967296 := stepsN_lt s hs 4

theorem half_any (s : Nat) (hs : s < 4294967296) (w : World) :
  Calls Try.prog 75 #[.int .u32 (s : Int)] w fun e w' => e = .returned (.int .u32 (halfN s : Int)) ∧ w' = w := by
 go_enter Try.func75, Try.ntmps75
 go_wp2_with fail
 go_loopw [0, 3] (fun o i wr => ∃ j : Nat, j ≤ 4 ∧ i = .int .i64 j ∧ o = .int .u32 (stepsN s j : Int) ∧ wr = w) (fun _ i _ => 4 - (intOf i).toNat)
 case atStart => exact ⟨0, by omega, rfl, rfl, rfl⟩
 case round =>
  obtain ⟨j, hj, rfl, rfl, rfl⟩ := hrel
  by_cases hlt : j < 4
  ·have ht := stepsN_lt s hs j
   have he : stepsN s (j + 1) = stepN (stepsN s j) := rfl
   have HE := Lib.hid he
   clear he
   generalize stepsN s j = t at *
   have ha := and32 t 2147483648 ht (by omega)
   have ha' : bits .and .u32 (t : Int) 2147483648 = ((t &&& 2147483648 : Nat) : Int) := ha
   have hx := xor32 (t * 2 % 4294967296) 79764919 (by omega) (by omega)
   have hx' : bits .xor .u32 ((t : Int) * 2 % 4294967296) 79764919 = (((t * 2 % 4294967296) ^^^ 79764919 : Nat) : Int) := by rw [← hx]; congr 1
   have HX := Lib.hid hx'
   have HS := Lib.hid (show stepN t = if t &&& 2147483648 = 0 then t * 2 % 4294967296 else (t * 2 % 4294967296) ^^^ 79764919 from rfl)
   clear ha hx hx'
   by_cases hb : t &&& 2147483648 = 0
   ·have HB := Lib.hid hb
    rw [hb] at ha'
    have hbn : (bits .and .u32 (t : Int) 2147483648 != 0) = false := by rw [ha']; rfl
    clear ha' hb
    go_wp2_with fail
    refine ⟨⟨j + 1, by omega, by go_num, ?_, by trivial⟩, by simp [intOf]; omega⟩
    rw [HE.out, HS.out, if_pos HB.out]
    congr 1
   ·have HB := Lib.hid hb
    have hbn : (bits .and .u32 (t : Int) 2147483648 != 0) = true := by rw [ha', bne_iff_ne]; omega
    clear ha' hb
    go_wp2_with fail
    refine ⟨⟨j + 1, by omega, by go_num, ?_, by trivial⟩, by simp [intOf]; omega⟩
    rw [HE.out, HS.out, if_neg HB.out, HX.out]
  ·obtain rfl : j = 4 := by omega
   go_wp2_with fail
   go_ret
   exact ⟨rfl, rfl⟩

/-- What is at place i of the table. -/
def tabN (i : Nat) : Nat := halfN (i * 268435456 % 4294967296)
def tabTo (j : Nat) : List Int := (List.range j).map (fun i => (tabN i : Int)) ++ List.replicate (16 - j) 0
theorem tabN_lt (i : Nat) : tabN i < 4294967296 := halfN_lt _ (by omega)
theorem tabTo_length (j : Nat) (hj : j ≤ 16) : (tabTo j).length = 16 := by simp [tabTo]; omega
theorem tabTo_set (j : Nat) (hj : j < 16) : (tabTo j).set j (tabN j : Int) = tabTo (j + 1) := by
 unfold tabTo
 rw [List.set_append_right _ _ (by simp), List.range_succ, List.map_append]
 rw [show 16 - j = (16 - (j + 1)) + 1 by omega, List.replicate_succ]
 simp
theorem tabTo_get (i : Nat) (hi : i < 16) : (tabTo 16).getD i 0 = (tabN i : Int) := by
 simp [tabTo, List.getD, hi]
/-- A byte further. -/
def nibN (s n : Nat) : Nat := (s * 16 % 4294967296) ^^^ tabN ((s / 268435456) ^^^ n)
def onN (s c : Nat) : Nat := nibN (nibN s (c / 16)) (c &&& 15)
def onL (s : Nat) (l : List UInt8) : Nat := l.foldl (fun s c => onN s c.toNat) s
theorem nibN_lt (s n : Nat) : nibN s n < 4294967296 := Nat.xor_lt_two_pow (n := 32) (by omega) (by have := tabN_lt ((s / 268435456) ^^^ n); omega)
theorem onL_lt (s : Nat) (hs : s < 4294967296) (l : List UInt8) : onL s l < 4294967296 := by
 induction l generalizing s with
 | nil => exact hs
 | cons c l ih => exact ih _ (nibN_lt _ _)
theorem onL_take (s : Nat) (l : List UInt8) (j : Nat) (hj : j < l.length) : onL s (l.take (j + 1)) = onN (onL s (l.take j)) (l.getD j 0).toNat := by
 unfold onL
 rw [List.take_add_one, List.getElem?_eq_getElem hj]
 rw [List.foldl_append]
 simp [List.getD, List.getElem?_eq_getElem hj]
theorem preT (w : World) : ∃ W, (w.alloc (.cells #[.int .u32 0, .int .u32 0, .int .u32 0, .int .u32 0, .int .u32 0, .int .u32 0, .int .u32 0, .int .u32 0, .int .u32 0, .int .u32 0, .int .u32 0, .int .u32 0, .int .u32 0, .int .u32 0, .int .u32 0, .int .u32 0] 116)) = W ∧ Hid (Arr W w.heap.size 116 .u32 (tabTo 0)) ∧ Hid (Below w.heap.size w W) :=
 ⟨_, rfl, Row.new w _ (nums .u32 (tabTo 0)), balloc (Below.refl _ _) _⟩
theorem on_any (s : Nat) (hs : s < 4294967296) (v : Value) (l : List UInt8) (w : World) (h : Sh w v l) :
  Calls Try.prog 71 #[.int .u32 (s : Int), v] w fun e w' => e = .returned (.int .u32 (onL s l : Int)) ∧ Below w.heap.size w w' := by
 obtain ⟨a, cap, rfl, g1, g2, g3, g4⟩ := h.open
 have H := Lib.hid h
 have hll := Sh.len h
 clear h g3 g4
 go_enter Try.func71, Try.ntmps71
 go_upto_region 2 with fail
 obtain ⟨W, hW, R0, Hb⟩ := preT w
 rw [hW]
 clear hW
 go_wp2_with fail
 go_loopw [9] (fun i wr => ∃ j : Nat, j ≤ 16 ∧ i = .int .i64 j ∧ Arr wr w.heap.size 116 .u32 (tabTo j) ∧ Below w.heap.size w wr) (fun i _ => 16 - (intOf i).toNat)
 case atStart => exact ⟨0, by omega, rfl, R0.out, Hb.out⟩
 case round =>
  clear R0 Hb
  obtain ⟨j, hj, rfl, r0, hb⟩ := hrel
  have R0 := Lib.hid r0
  have HB := Lib.hid hb
  clear r0 hb
  by_cases hlt : j < 16
  ·have hc := R0.out.cell j (by rw [tabTo_length j hj]; exact hlt)
   have hf := R0.out.frozen j
   have HS := Lib.hid (tabTo_set j hlt)
   have ht : halfN (j * 268435456) = tabN j := by unfold tabN; rw [Nat.mod_eq_of_lt (by omega)]
   have HT := Lib.hid ht
   have hw1 : IntKind.u32.wrap (j : Int) = (j : Int) := IntWalk.u32_in _ ⟨by omega, by omega⟩
   have hw2 : (j : Int) * 268435456 = ((j * 268435456 : Nat) : Int) := by omega
   have HW2 := Lib.hid hw2
   clear ht hw2
   go_wp2_with (go_at_call 75; rw [HW2.out]; refine (half_any (j * 268435456) (by omega) _).mono ?_; rw [HT.out]; rintro e w1 ⟨rfl, rfl⟩)
   exact ⟨⟨j + 1, by omega, by go_num, by rw [← HS.out]; exact R0.out.set j _, bset HB.out (Nat.le_refl _) _⟩, by simp [intOf]; omega⟩
  ·obtain rfl : j = 16 := by omega
   go_wp2_with fail
   have H2 := Lib.hid (show Sh wr (.slice a l.length cap) l from Sh.at' H.out HB.out (Nat.le_refl _))
   go_loopw [0, 21] (fun st i w' => ∃ j : Nat, j ≤ l.length ∧ i = .int .i64 j ∧ st = .int .u32 (onL s (l.take j) : Int) ∧ w' = wr) (fun _ i _ => l.length - (intOf i).toNat)
   case atStart => exact ⟨0, by omega, rfl, rfl, rfl⟩
   case round =>
    obtain ⟨j, hj, rfl, rfl, rfl⟩ := hrel
    by_cases hlt2 : j < l.length
    ·obtain ⟨b, off, rfl, hby⟩ := H2.out.cells (by omega)
     have hbyte := hby j hlt2
     have hst := onL_take s l j hlt2
     have ht := onL_lt s hs (l.take j)
     have hc := UInt8.toNat_lt (l.getD j 0)
     have HST := Lib.hid hst
     clear hby hst
     generalize onL s (l.take j) = t at *
     generalize (l.getD j 0).toNat = c at *
     have hjI : (j : Int) < (l.length : Int) := by omega
     have hk1 : (t / 268435456) ^^^ (c / 16) < 16 := Nat.xor_lt_two_pow (n := 4) (by omega) (by omega)
     have hx1 : bits .xor .u8 ((t : Int) / 268435456) ((c : Int) / 16) = (((t / 268435456) ^^^ (c / 16) : Nat) : Int) := by rw [← xor8 _ _ (by omega) (by omega)]; congr 1
     have hc1 := R0.out.cell ((t / 268435456) ^^^ (c / 16)) (by rw [tabTo_length 16 (by omega)]; exact hk1)
     rw [tabTo_get _ hk1] at hc1
     have hx2 : bits .xor .u32 ((t : Int) * 16 % 4294967296) (tabN ((t / 268435456) ^^^ (c / 16)) : Int) = (nibN t (c / 16) : Int) := by
      unfold nibN; rw [← xor32 _ _ (by omega) (tabN_lt _)]; congr 1
     have ht1 := nibN_lt t (c / 16)
     have hx0 : bits .and .u8 (c : Int) 15 = ((c &&& 15 : Nat) : Int) := and8 c 15 (by omega) (by omega)
     have hc15 : c &&& 15 < 16 := Nat.and_lt_two_pow (n := 4) _ (by omega)
     have HON := Lib.hid (show onN t c = nibN (nibN t (c / 16)) (c &&& 15) from rfl)
     generalize (t / 268435456) ^^^ (c / 16) = k1 at *
     generalize tabN k1 = T1 at *
     generalize nibN t (c / 16) = t1 at *
     generalize c &&& 15 = d at *
     have hk2 : (t1 / 268435456) ^^^ d < 16 := Nat.xor_lt_two_pow (n := 4) (by omega) (by omega)
     have hx3 : bits .xor .u8 ((t1 : Int) / 268435456) (d : Int) = (((t1 / 268435456) ^^^ d : Nat) : Int) := by rw [← xor8 _ _ (by omega) (by omega)]; congr 1
     have hc2 := R0.out.cell ((t1 / 268435456) ^^^ d) (by rw [tabTo_length 16 (by omega)]; exact hk2)
     rw [tabTo_get _ hk2] at hc2
     have hx4 : bits .xor .u32 ((t1 : Int) * 16 % 4294967296) (tabN ((t1 / 268435456) ^^^ d) : Int) = (nibN t1 d : Int) := by
      unfold nibN; rw [← xor32 _ _ (by omega) (tabN_lt _)]; congr 1
     generalize (t1 / 268435456) ^^^ d = k2 at *
     generalize tabN k2 = T2 at *
     generalize hn : nibN t1 d = t2 at *
     have HN := Lib.hid hn
     clear hn
     have hk1I : (k1 : Int) < 16 := by omega
     have hk2I : (k2 : Int) < 16 := by omega
     go_wp2_with fail
     exact ⟨⟨j + 1, by omega, by go_num, by rw [HST.out, HON.out], by trivial⟩, by simp [intOf]; omega⟩
    ·obtain rfl : j = l.length := by omega
     have HTk := Lib.hid (show l.take l.length = l from List.take_length ..)
     rw [HTk.out]
     go_wp2_with fail
     go_ret
     exact ⟨rfl, HB.out⟩

theorem Sum_any (v : Value) (l : List UInt8) (w : World) (h : Sh w v l) :
  Calls Try.prog 62 #[v] w fun e w' => e = .returned (.int .u32 (onL 4294967295 l : Int)) ∧ Below w.heap.size w w' := by
 have H := Lib.hid h
 clear h
 go_enter Try.func62, Try.ntmps62
 go_wp2_with (go_at_call 71; refine (on_any 4294967295 (by omega) v l _ H.out).mono ?_; rintro e w1 ⟨rfl, hb1⟩)
 go_ret
 exact ⟨rfl, hb1⟩
/-- A sum as bytes. -/
def sumB (s : Nat) : List UInt8 := [UInt8.ofNat (s / 16777216), UInt8.ofNat (s / 65536), UInt8.ofNat (s / 256), UInt8.ofNat s]
theorem ofNat_int (x : Nat) (y : Int) (h : y = ((x % 256 : Nat) : Int)) : Value.int .u8 ((UInt8.ofNat x).toNat : Int) = .int .u8 y := by
 rw [h]; simp [UInt8.toNat_ofNat]
theorem Bytes_any (s : Nat) (hs : s < 4294967296) (w : World) :
  Calls Try.prog 61 #[.int .u32 (s : Int)] w fun e w' => ∃ v, e = .returned v ∧ Own w' w.heap.size 5 v (sumB s) ∧ Below w.heap.size w w' := by
 go_enter Try.func61, Try.ntmps61
 have h0 := (ofNat_int (s / 16777216) ((s : Int) / 16777216) (by omega)).symm
 have h1 := (ofNat_int (s / 65536) ((s : Int) / 65536 % 256) (by omega)).symm
 have h2 := (ofNat_int (s / 256) ((s : Int) / 256 % 256) (by omega)).symm
 have h3 := (ofNat_int s ((s : Int) % 256) (by omega)).symm
 have H0 := Lib.hid h0
 have H1 := Lib.hid h1
 have H2 := Lib.hid h2
 have H3 := Lib.hid h3
 clear h0 h1 h2 h3
 go_wp2_with fail
 go_ret
 rw [H0.out, H1.out, H2.out, H3.out]
 exact ⟨_, rfl, Own.lit w 5 (sumB s) (by simp [sumB]), balloc (Below.refl _ _) _⟩
end Go.Proofs.Ytkghkpkiodghiaa
