/- Package prefix: Take. -/
import Derived.Test.YtkghkpkiodghiaaPfx3
import Derived.Test.YtkghkpkiodghiaaFrm
import Derived.Deep.QuietTactic
import Derived.BigQuiet
namespace Go.Proofs.Ytkghkpkiodghiaa
set_option linter.unusedVariables false
set_option linter.unusedSimpArgs false
set_option linter.unnecessarySimpa false
open Go.RowKit
set_option maxRecDepth 20000

theorem Take_any (v : Value) (l : List UInt8) (w : World) (h : Sh w v l) (hl : l.length ≤ 140737488355328) :
  Calls Try.prog 41 #[v] w fun r w' => ∃ v', r = .returned (.tuple #[.int .u64 (tk l).1, v', .int .i64 (tk l).2.2]) ∧ Own w' w.heap.size 5 v' (tkRest l) ∧ Below w.heap.size w w' := by
 have hr : (tkRest l).length ≤ l.length := by unfold tkRest; split <;> simp
 go_enter Try.func41, Try.ntmps41
 go_wp2_with (first
  | (go_at_call 56; refine (take_any v l w h).mono ?_; rintro e w' ⟨v1, rfl, hs1, m, rfl⟩)
  | (go_at_call 37; refine (clone_any v1 _ _ ((hs1 _ h).drewN m) (by omega)).mono ?_; rintro e w2 ⟨v2, rfl, ho2, hb2⟩))
 go_ret3
 exact ⟨v2, rfl, ho2, (drewN_below w m).trans hb2⟩
end Go.Proofs.Ytkghkpkiodghiaa
namespace Go.Proofs.Ytkghkpkiodghiaa
set_option linter.unusedVariables false
set_option linter.unusedSimpArgs false
set_option linter.unnecessarySimpa false
open Go.RowKit
set_option maxRecDepth 100000
set_option maxHeartbeats 4000000

theorem or32 (a b : Nat) (ha : a < 4294967296) (hb : b < 4294967296) : bits .or .u32 (a : Int) (b : Int) = ((a ||| b : Nat) : Int) := by
 have hx : a ||| b < 2 ^ 32 := Nat.or_lt_two_pow (by omega) (by omega)
 have h1 : (BitVec.ofInt 32 (a : Int)).toNat = a := by rw [BitVec.ofInt_natCast, BitVec.toNat_ofNat]; exact Nat.mod_eq_of_lt (by omega)
 have h2 : (BitVec.ofInt 32 (b : Int)).toNat = b := by rw [BitVec.ofInt_natCast, BitVec.toNat_ofNat]; exact Nat.mod_eq_of_lt (by omega)
 show IntKind.u32.wrap ((BitVec.ofInt 32 (a : Int) ||| BitVec.ofInt 32 (b : Int)).toNat : Int) = _
 rw [BitVec.toNat_or, h1, h2, IntWalk.u32_in _ ⟨by omega, by omega⟩]
theorem or_add (a c : Nat) (hc : c < 256) : a * 256 ||| c = a * 256 + c := by
 have := Nat.two_pow_add_eq_or_of_lt (i := 8) (b := c) (by omega) a
 rw [Nat.mul_comm]; exact this.symm
/-- A number of bytes, the highest first. -/
def beN (l : List UInt8) : Nat := l.foldl (fun s c => s * 256 + c.toNat) 0
theorem beN_take (l : List UInt8) (j : Nat) (hj : j < l.length) : beN (l.take (j + 1)) = beN (l.take j) * 256 + (l.getD j 0).toNat := by
 unfold beN
 rw [List.take_add_one, List.getElem?_eq_getElem hj]
 rw [List.foldl_append]
 simp [List.getD, List.getElem?_eq_getElem hj]
theorem beN_lt (l : List UInt8) : ∀ j, j ≤ l.length → beN (l.take j) < 256 ^ j
 | 0, _ => by simp [beN]
 | j + 1, h => by
  have h1 := beN_lt l j (by omega)
  have h2 := UInt8.toNat_lt (l.getD j 0)
  rw [beN_take l j h, Nat.pow_succ]
  omega
/-- The last four bytes' number. -/
def last4 (l : List UInt8) : Nat := beN (l.drop (l.length - 4))
def goodB (l : List UInt8) : Bool := decide (4 ≤ l.length) && ((last4 l : Int) == (onL 4294967295 (l.take (l.length - 4)) : Int))
theorem of_short (v : Value) (l : List UInt8) (w : World) (h : Sh w v l) (hl : l.length < 4) :
  Calls Try.prog 74 #[v] w fun e w' => e = .returned (.tuple #[.int .u32 0, .bool false]) ∧ w' = w := by
 obtain ⟨a, cap, rfl, g1, g2, g3, g4⟩ := h.open
 clear g3 g4 h
 have hI : (l.length : Int) < 4 := by omega
 go_enter Try.func74, Try.ntmps74
 go_wp2_with fail
 go_ret2
 exact ⟨rfl, rfl⟩
theorem of_any (v : Value) (l : List UInt8) (w : World) (h : Sh w v l) (hl : 4 ≤ l.length) :
  Calls Try.prog 74 #[v] w fun e w' => e = .returned (.tuple #[.int .u32 (last4 l : Int), .bool true]) ∧ w' = w := by
 obtain ⟨a, cap, rfl, g1, g2, g3, g4⟩ := h.open
 have hsl := g4.drop (l.length - 4) (by omega)
 have hlen : (l.drop (l.length - 4)).length = 4 := by simp; omega
 have e4 : l.length - (l.length - 4) = 4 := by omega
 rw [e4] at hsl
 obtain ⟨b0, off0, hab, hby⟩ := hsl.cells (by omega)
 rw [if_neg (by omega)] at hab
 have HBy := Lib.hid hby
 have HAB := Lib.hid hab
 have HE4 := Lib.hid e4
 have HL4 := Lib.hid (show last4 l = beN (l.drop (l.length - 4)) from rfl)
 have HBt := Lib.hid (beN_take (l.drop (l.length - 4)))
 have HBl := Lib.hid (beN_lt (l.drop (l.length - 4)))
 have h4I : ¬ (l.length : Int) < 4 := by omega
 have h4I2 : 4 ≤ (l.length : Int) := by omega
 clear g3 g4 h hsl hby hab e4
 generalize l.drop (l.length - 4) = q at *
 go_enter Try.func74, Try.ntmps74
 go_wp2_with fail
 rw [HAB.out, HE4.out]
 go_loopw [4, 16] (fun st i wr => ∃ j : Nat, j ≤ 4 ∧ i = .int .i64 j ∧ st = .int .u32 (beN (q.take j) : Int) ∧ wr = w) (fun _ i _ => 4 - (intOf i).toNat)
 case atStart => exact ⟨0, by omega, rfl, rfl, rfl⟩
 case round =>
  obtain ⟨j, hj, rfl, rfl, rfl⟩ := hrel
  by_cases hlt : j < 4
  ·have hbyte := HBy.out j (by omega)
   have HT := Lib.hid (HBt.out j (by omega))
   have hb := HBl.out j (by omega)
   have hpw : 256 ^ j ≤ 16777216 := by
    have : 256 ^ j ≤ 256 ^ 3 := Nat.pow_le_pow_right (by omega) (by omega)
    exact this
   have hc := UInt8.toNat_lt (q.getD j 0)
   have hs : beN (q.take j) < 16777216 := by omega
   clear hb hpw
   generalize beN (q.take j) = t at *
   generalize (q.getD j 0).toNat = c at *
   have ho : bits .or .u32 ((t : Int) * 256) (c : Int) = ((t * 256 + c : Nat) : Int) := by
    rw [← or_add t c (by omega), ← or32 _ _ (by omega) (by omega)]; congr 1
   go_wp2_with fail
   exact ⟨⟨j + 1, by omega, by go_num, by rw [HT.out]; go_num, by trivial⟩, by simp [intOf]; omega⟩
  ·obtain rfl : j = 4 := by omega
   have hq4 : q.take 4 = q := List.take_of_length_le (by omega)
   rw [hq4]
   go_wp2_with fail
   go_ret2
   rw [HL4.out]
   exact ⟨rfl, rfl⟩
theorem Good_any (v : Value) (l : List UInt8) (w : World) (h : Sh w v l) :
  Calls Try.prog 69 #[v] w fun e w' => e = .returned (.bool (goodB l)) ∧ Below w.heap.size w w' := by
 by_cases hl : l.length < 4
 ·have HG := Lib.hid (show goodB l = false by unfold goodB; rw [decide_eq_false (by omega)]; rfl)
  have H := Lib.hid h
  clear h
  go_enter Try.func69, Try.ntmps69
  go_wp2_with (go_at_call 74; refine (of_short v l _ H.out hl).mono ?_; rintro e w1 ⟨rfl, rfl⟩)
  go_ret
  rw [HG.out]
  exact ⟨rfl, Below.refl _ _⟩
 ·have hl4 : 4 ≤ l.length := by omega
  have HG := Lib.hid (show goodB l = ((last4 l : Int) == (onL 4294967295 (l.take (l.length - 4)) : Int)) by unfold goodB; rw [decide_eq_true hl4, Bool.true_and])
  obtain ⟨a, cap, rfl, g1, g2, g3, g4⟩ := h.open
  have HT := Lib.hid (g4.take (l.length - 4) (by omega))
  have H := Lib.hid g4
  have h4I2 : 4 ≤ (l.length : Int) := by omega
  clear h g3 g4 hl
  go_enter Try.func69, Try.ntmps69
  go_wp2_with (first
   | (go_at_call 74; refine (of_any _ l _ H.out hl4).mono ?_; rintro e w1 ⟨rfl, rfl⟩)
   | (go_at_call 71; refine (on_any 4294967295 (by omega) _ (l.take (l.length - 4)) _ HT.out).mono ?_; rintro e w2 ⟨rfl, hb2⟩))
  go_ret
  rw [HG.out]
  exact ⟨rfl, hb2⟩

theorem Take_of (v : Value) (l : List UInt8) (t : Nat × Nat × Nat) (q : List UInt8) (w : World) (h : Sh w v l) (hl : l.length ≤ 140737488355328) (ht : tk l = t) (hq : tkRest l = q) :
  Calls Try.prog 41 #[v] w fun e w' => ∃ v', e = .returned (.tuple #[.int .u64 (t.1 : Int), v', .int .i64 (t.2.2 : Int)]) ∧ Sh w' v' q ∧ Below w.heap.size w w' := by
 subst ht; subst hq; exact (Take_any v l w h hl).mono fun e w' ⟨v', h1, h2, h3⟩ => ⟨v', h1, h2.sh, h3⟩
/-- Which frame bytes begin with: its body, how long it is, or why none. -/
def tkF (l : List UInt8) : List UInt8 × Nat × Nat :=
 if (tk l).2.2 ≠ 0 then ([], 0, (tk l).2.2)
 else if 1048576 < (tk l).1 then ([], 0, 2)
 else if l.length - (tk l).2.1 < (tk l).1 + 4 then ([], 0, 3)
 else if goodB (l.take ((tk l).2.1 + (tk l).1 + 4)) = true then ((l.drop (tk l).2.1).take (tk l).1, (tk l).2.1 + (tk l).1 + 4, 0) else ([], 0, 50)
def tkFRest (l : List UInt8) : List UInt8 := if (tkF l).2.2 = 0 then l.drop (tkF l).2.1 else []
theorem takef_err (v : Value) (l : List UInt8) (e : Nat) (w : World) (h : Sh w v l) (hl : l.length ≤ 140737488355328) (ht : tk l = (0, 0, e)) (he : e ≠ 0) :
  Calls Try.prog 55 #[v] w fun r w' => r = .returned (.tuple #[.slice none 0 0, .slice none 0 0, .int .i64 (e : Int)]) ∧ Below w.heap.size w w' := by
 have H := Lib.hid h
 have heI : ((e : Int) != 0) = true := by rw [bne_iff_ne]; omega
 have HT := Lib.hid ht
 clear h ht
 go_enter Try.func55, Try.ntmps55
 go_wp2_with (go_at_call 41; refine (Take_of v l _ _ _ H.out hl HT.out rfl).mono ?_; rintro r w1 ⟨v1, rfl, hs1, hb1⟩)
 go_ret3
 exact ⟨rfl, hb1⟩
theorem takef_long (v : Value) (l : List UInt8) (n k : Nat) (w : World) (h : Sh w v l) (hl : l.length ≤ 140737488355328) (ht : tk l = (n, k, 0)) (hn : 1048576 < n) :
  Calls Try.prog 55 #[v] w fun r w' => r = .returned (.tuple #[.slice none 0 0, .slice none 0 0, .int .i64 2]) ∧ Below w.heap.size w w' := by
 have H := Lib.hid h
 have hnI : 1048576 < (n : Int) := by omega
 have HT := Lib.hid ht
 clear h ht
 go_enter Try.func55, Try.ntmps55
 go_wp2_with (go_at_call 41; refine (Take_of v l _ _ _ H.out hl HT.out rfl).mono ?_; rintro r w1 ⟨v1, rfl, hs1, hb1⟩)
 go_ret3
 exact ⟨rfl, hb1⟩
theorem tkRest_of {l : List UInt8} {n k : Nat} (ht : tk l = (n, k, 0)) : tkRest l = l.drop k := by unfold tkRest; rw [ht]; rfl
theorem takef_short (v : Value) (l : List UInt8) (n k : Nat) (w : World) (h : Sh w v l) (hl : l.length ≤ 140737488355328) (ht : tk l = (n, k, 0)) (hn : n ≤ 1048576) (hs : l.length - k < n + 4) :
  Calls Try.prog 55 #[v] w fun r w' => r = .returned (.tuple #[.slice none 0 0, .slice none 0 0, .int .i64 3]) ∧ Below w.heap.size w w' := by
 have H := Lib.hid h
 have hnI : ¬ 1048576 < (n : Int) := by omega
 have HT := Lib.hid ht
 have HR := Lib.hid (tkRest_of ht)
 have hsI : ((l.drop k).length : Int) < (n : Int) + 4 := by rw [List.length_drop]; omega
 have hw := IntWalk.i64_in (n : Int) ⟨by omega, by omega⟩
 clear h ht
 generalize l.drop k = q at *
 go_enter Try.func55, Try.ntmps55
 go_wp2_with (go_at_call 41; refine (Take_of v l _ _ _ H.out hl HT.out HR.out).mono ?_; rintro r w1 ⟨v1, rfl, hs1, hb1⟩; obtain ⟨x1, c1, rfl, -⟩ := hs1.open; clear hs1)
 go_ret3
 exact ⟨rfl, hb1⟩
theorem takef_go (v : Value) (l : List UInt8) (n k : Nat) (w : World) (h : Sh w v l) (hl : l.length ≤ 140737488355328) (ht : tk l = (n, k, 0)) (hn : n ≤ 1048576) (hs : ¬ l.length - k < n + 4) (hk : k ≤ l.length) (g : Bool) (hg : goodB (l.take (k + n + 4)) = g) :
  Calls Try.prog 55 #[v] w fun r w' => ∃ v1 v2, r = .returned (.tuple #[v1, v2, .int .i64 (if g = true then 0 else 50)]) ∧ (∀ W, Sh W v l → Sh W v1 (if g = true then (l.drop k).take n else []) ∧ Sh W v2 (if g = true then l.drop (k + n + 4) else [])) ∧ Below w.heap.size w w' := by
 obtain ⟨a, cap, rfl, g1, g2, g3, g4⟩ := h.open
 have HT := Lib.hid ht
 have HR := Lib.hid (tkRest_of ht)
 obtain ⟨m, hm⟩ : ∃ m, (l.drop k).length = m := ⟨_, rfl⟩
 have hlm : l.length = k + m := by rw [List.length_drop] at hm; omega
 have HM := Lib.hid hm
 have hmn : n + 4 ≤ m := by rw [List.length_drop] at hm; omega
 have HTk := Lib.hid (g4.take (k + n + 4) (by omega))
 have HDr := Lib.hid (fun (W : World) (hW : Sh W (.slice a l.length cap) l) => hW.drop (k + n + 4) (by omega))
 have HSl := Lib.hid (fun (W : World) (hW : Sh W (.slice a l.length cap) l) => hW.sliced (lo := k) (hi := k + n) (m := k + n) (by omega) (by omega) (by omega) (by omega))
 have H := Lib.hid g4
 have HLL := Lib.hid hl
 rw [hlm] at g1 hl H HDr HSl ⊢
 have hnI : ¬ 1048576 < (n : Int) := by omega
 have hsI : ¬ (m : Int) < (n : Int) + 4 := by omega
 have hw := IntWalk.i64_in (n : Int) ⟨by omega, by omega⟩
 have hlm' := hlm
 clear h ht g3 g4 hm hlm hs hk
 have HG := Lib.hid hg
 clear hg
 have hend : (k : Int) + (n : Int) + 4 ≤ (cap : Int) := by omega
 cases g with
 | false =>
  go_enter Try.func55, Try.ntmps55
  go_wp2_with (first
   | (go_at_call 41; refine (Take_of _ l _ _ _ H.out HLL.out HT.out HR.out).mono ?_; rintro r w1 ⟨v1, rfl, hs1, hb1⟩; obtain ⟨x1, c1, e1, -⟩ := hs1.open; rw [HM.out] at e1; subst e1; clear hs1)
   | (go_at_call 69; refine (Good_any _ (l.take (k + n + 4)) _ (HTk.out.below hb1)).mono ?_; rw [HG.out]; rintro r w2 ⟨rfl, hb2⟩))
  go_ret3
  exact ⟨_, _, rfl, fun W _ => ⟨Sh.nil _, Sh.nil _⟩, bthen hb1 hb2 (Nat.le_refl _)⟩
 | true =>
  go_enter Try.func55, Try.ntmps55
  go_wp2_with (first
   | (go_at_call 41; refine (Take_of _ l _ _ _ H.out HLL.out HT.out HR.out).mono ?_; rintro r w1 ⟨v1, rfl, hs1, hb1⟩; obtain ⟨x1, c1, e1, -⟩ := hs1.open; rw [HM.out] at e1; subst e1; clear hs1)
   | (go_at_call 69; refine (Good_any _ (l.take (k + n + 4)) _ (HTk.out.below hb1)).mono ?_; rw [HG.out]; rintro r w2 ⟨rfl, hb2⟩))
  go_quiet (fail)
  generalize (Value.slice (if k + n = k then a else Option.map (fun x => x.add k) a) (k + n - k) (k + n - k)) = z1 at *
  generalize (Value.slice (if cap = k + n + 4 then a else Option.map (fun x => x.add (k + n + 4)) a) (k + m - (k + n + 4)) (cap - (k + n + 4))) = z2 at *
  go_wp2_with fail
  go_ret3
  exact ⟨z1, z2, rfl, fun W hW => ⟨by have := HSl.out W hW; rw [Nat.add_sub_cancel_left] at this; exact this, HDr.out W hW⟩, (bthen hb1 hb2 (Nat.le_refl _)).trans ((drewN_below _ nq).mono (Nat.le_trans hb1.size hb2.size))⟩
/-- frame.take. -/
theorem takef_any (v : Value) (l : List UInt8) (w : World) (h : Sh w v l) (hl : l.length ≤ 140737488355328) :
  Calls Try.prog 55 #[v] w fun r w' => ∃ v1 v2, r = .returned (.tuple #[v1, v2, .int .i64 ((tkF l).2.2 : Int)]) ∧ (∀ W, Sh W v l → Sh W v1 (tkF l).1 ∧ Sh W v2 (tkFRest l)) ∧ Below w.heap.size w w' := by
 rcases tk_cases l with ⟨e, ht, he⟩ | ⟨n, k, ht, hk1, hk2, hn⟩
 ·have e1 : tkF l = ([], 0, e) := by unfold tkF; rw [ht, if_pos (by show e ≠ 0; omega)]
  have e2 : tkFRest l = [] := by unfold tkFRest; rw [e1, if_neg (by show e ≠ 0; omega)]
  rw [e1, e2]
  exact (takef_err v l e w h hl ht (by omega)).mono fun r w' ⟨hr, hb⟩ => ⟨_, _, hr, fun W _ => ⟨Sh.nil _, Sh.nil _⟩, hb⟩
 ·by_cases h1 : 1048576 < n
  ·have e1 : tkF l = ([], 0, 2) := by unfold tkF; rw [ht, if_neg (by simp), if_pos h1]
   have e2 : tkFRest l = [] := by unfold tkFRest; rw [e1]; rfl
   rw [e1, e2]
   exact (takef_long v l n k w h hl ht h1).mono fun r w' ⟨hr, hb⟩ => ⟨_, _, hr, fun W _ => ⟨Sh.nil _, Sh.nil _⟩, hb⟩
  ·by_cases h2 : l.length - k < n + 4
   ·have e1 : tkF l = ([], 0, 3) := by unfold tkF; rw [ht, if_neg (by simp), if_neg h1, if_pos h2]
    have e2 : tkFRest l = [] := by unfold tkFRest; rw [e1]; rfl
    rw [e1, e2]
    exact (takef_short v l n k w h hl ht (by omega) h2).mono fun r w' ⟨hr, hb⟩ => ⟨_, _, hr, fun W _ => ⟨Sh.nil _, Sh.nil _⟩, hb⟩
   ·refine (takef_go v l n k w h hl ht (by omega) h2 hk2 _ rfl).mono fun r w' ⟨v1, v2, hr, hs, hb⟩ => ⟨v1, v2, ?_, ?_, hb⟩
    all_goals
     have e0 : tkF l = if goodB (l.take (k + n + 4)) = true then ((l.drop k).take n, k + n + 4, 0) else ([], 0, 50) := by unfold tkF; rw [ht, if_neg (by simp), if_neg h1, if_neg h2]
     cases hg : goodB (l.take (k + n + 4))
     all_goals
      rw [hg] at e0
      simp only [hg] at hr hs
      simp only [if_true, Bool.false_eq_true, if_false] at e0 hr hs
    ·rw [e0]; exact hr
    ·rw [e0]; exact hr
    ·unfold tkFRest; rw [e0]; exact hs
    ·unfold tkFRest; rw [e0]; exact hs
end Go.Proofs.Ytkghkpkiodghiaa
namespace Go.Proofs.Ytkghkpkiodghiaa
set_option linter.unusedVariables false
set_option linter.unusedSimpArgs false
set_option linter.unnecessarySimpa false
open Go.RowKit
set_option maxRecDepth 100000
set_option maxHeartbeats 4000000

/-- A list of bytes of the call's own: the row of slices, and each slice a row of bytes. -/
def BOs (w : World) (base : Nat) (v : Value) (acc : List (List UInt8)) : Prop :=
 ∃ xs : List Value, Own1 w base 27 v xs ∧ xs.length = acc.length ∧ ∀ i, i < acc.length → ∃ u, xs[i]? = some u ∧ Own w 0 5 u (acc.getD i [])
theorem BOs.nil (w : World) (base : Nat) : BOs w base (.slice none 0 0) [] := ⟨[], Own1.nil _ _ _, rfl, fun i hi => by simp at hi⟩
theorem BOs.below {w w' : World} {base : Nat} {v : Value} {acc : List (List UInt8)} (h : BOs w base v acc) (hb : Below w.heap.size w w') : BOs w' base v acc := by
 obtain ⟨xs, h1, h2, h3⟩ := h
 exact ⟨xs, h1.below hb, h2, fun i hi => by obtain ⟨u, hu, ho⟩ := h3 i hi; exact ⟨u, hu, ho.below hb⟩⟩
theorem BOs.bss {w : World} {base : Nat} {v : Value} {acc : List (List UInt8)} (h : BOs w base v acc) : Bss w v acc := by
 obtain ⟨xs, h1, h2, h3⟩ := h
 refine ⟨xs, ?_, fun i hi => by obtain ⟨u, hu, ho⟩ := h3 i hi; exact ⟨u, hu, ho.sh⟩⟩
 rw [← h2]; exact h1.shows
/-- Rows of different elements are different rows. -/
theorem apart_rows {w : World} {b1 b2 e1 e2 n1 n2 s1 s2 : Nat} {v1 v2 : Value} {x1 x2 : List Value} (h1 : w.ownsRow b1 e1 s1 v1 n1 x1) (h2 : w.ownsRow b2 e2 s2 v2 n2 x2) (he : e1 ≠ e2) : v1.ownBlock = none ∨ v1.ownBlock ≠ v2.ownBlock := by
 obtain ⟨_, h1⟩ := h1
 obtain ⟨_, h2⟩ := h2
 rcases h1 with ⟨rfl, _⟩ | ⟨g, cap, cur, rfl, _, hg, _⟩
 ·exact .inl rfl
 ·refine .inr fun hc => ?_
  rcases h2 with ⟨rfl, _⟩ | ⟨g', cap', cur', rfl, _, hg', _⟩
  ·simp [Value.ownBlock] at hc
  ·simp only [Value.ownBlock, Option.some.injEq] at hc
   subst hc
   rw [hg] at hg'
   simp only [Option.some.injEq, Obj.cells.injEq] at hg'
   exact he hg'.2.1
theorem info_slice : (Try.prog.info? 27).map (fun i => (i.zero, i.size, i.bytes)) = some (some (.slice none 0 0), 1, 24) := by kernel_rfl
theorem app_bss {w : World} {ops : Array Oper} {rest : List Oper} {o : Oper} {a : Act} {Q : Exit → Act → World → Prop} (hgd : o.guard = none) (s x : Operand)
  (ho : o.op = .call { callee := .builtin .append, args := #[s, x], argTypes := #[28, 28] })
  {base : Nat} {v sv u : Value} {acc : List (List UInt8)} {l : List UInt8} (hs : a.eval s = v) (hown : BOs w base v acc) (hx : a.eval x = sv) (hsh : Shows w 1 sv 1 [u]) (hu : Own w 0 5 u l) (h1 : u.oneCell' = true)
  (hlen : acc.length ≤ 1000000000000) (hbase : base ≤ w.heap.size)
  (h : ∀ v' w', BOs w' base v' (acc ++ [l]) → Below base w w' → wpList Try.prog ops Q rest (a.put o.dst v') w') : wpList Try.prog ops Q (o :: rest) a w := by
 obtain ⟨i, hi, hz0, hz1, hz2⟩ := info_parts info_slice
 obtain ⟨xs, k1, k2, k3⟩ := hown
 refine wpList_append_shows hgd s x 28 ho base 27 i (.slice none 0 0) 1 24 Try.underlying28 hi hz0 hz1 hz2 rfl (by decide) v _ _ hs k1 sv _ _ hx hsh (by simpa using h1) (by simp only [maxLen]; omega) (by omega) hbase ?_
 intro v' w' g1 g2
 refine h v' w' ⟨xs ++ [u], ?_, by simp [k2], fun j hj => ?_⟩ ((Below.refl _ _).grown g2 hbase fun k hk => (World.ownsRow.lt k1 k hk).1)
 ·unfold Own1
  rw [List.length_append]; exact g1
 ·by_cases hjl : j < acc.length
  ·obtain ⟨y, hy, hoy⟩ := k3 j hjl
   refine ⟨y, by rw [List.getElem?_append_left (by omega)]; exact hy, ?_⟩
   have := World.ownsRow.kept hoy g2 (apart_rows hoy k1 (by decide))
   simpa [Own, List.getD, List.getElem?_append_left hjl] using this
  ·have hjj : j = acc.length := by simp at hj; omega
   subst hjj
   refine ⟨u, by rw [List.getElem?_append_right (by omega)]; simp [k2], ?_⟩
   have := World.ownsRow.kept hu g2 (apart_rows hu k1 (by decide))
   simpa [Own, List.getD] using this
theorem tkF_facts (l : List UInt8) (h : (tkF l).2.2 = 0) : 5 ≤ (tkF l).2.1 ∧ (tkF l).2.1 ≤ l.length ∧ (tkF l).1.length ≤ 1048576 := by
 rcases tk_cases l with ⟨e, ht, he⟩ | ⟨n, k, ht, hk1, hk2, hn⟩
 ·have e1 : tkF l = ([], 0, e) := by unfold tkF; rw [ht, if_pos (by show e ≠ 0; omega)]
  rw [e1] at h; simp at h; omega
 ·by_cases h1 : 1048576 < n
  ·have e1 : tkF l = ([], 0, 2) := by unfold tkF; rw [ht, if_neg (by simp), if_pos h1]
   rw [e1] at h; simp at h
  ·by_cases h2 : l.length - k < n + 4
   ·have e1 : tkF l = ([], 0, 3) := by unfold tkF; rw [ht, if_neg (by simp), if_neg h1, if_pos h2]
    rw [e1] at h; simp at h
   ·have e0 : tkF l = if goodB (l.take (k + n + 4)) = true then ((l.drop k).take n, k + n + 4, 0) else ([], 0, 50) := by unfold tkF; rw [ht, if_neg (by simp), if_neg h1, if_neg h2]
    cases hg : goodB (l.take (k + n + 4))
    ·rw [hg] at e0; rw [e0] at h; simp at h
    ·rw [hg] at e0; rw [e0]; simp; omega
/-- All frames, one behind the other: their bodies, how far, or why no further. -/
def scF : Nat → List UInt8 → List (List UInt8) × Nat × Nat
 | 0, _ => ([], 0, 0)
 | f + 1, l => if l.length = 0 then ([], 0, 0) else if (tkF l).2.2 ≠ 0 then ([], 0, (tkF l).2.2) else ((tkF l).1 :: (scF f (l.drop (tkF l).2.1)).1, (tkF l).2.1 + (scF f (l.drop (tkF l).2.1)).2.1, (scF f (l.drop (tkF l).2.1)).2.2)
def slLen : Value → Nat
 | .slice _ n _ => n
 | _ => 0
theorem ScanO_any (v : Value) (l : List UInt8) (w : World) (h : Sh w v l) (hl : l.length ≤ 1000000000) :
  Calls Try.prog 40 #[v] w fun e w' => ∃ v', e = .returned (.tuple #[v', .int .i64 ((scF (l.length + 1) l).2.1 : Int), .int .i64 ((scF (l.length + 1) l).2.2 : Int)]) ∧ BOs w' w.heap.size v' (scF (l.length + 1) l).1 ∧ Below w.heap.size w w' := by
 obtain ⟨a, cap, rfl, g1, g2, g3, g4⟩ := h.open
 have H := Lib.hid g4
 clear h g3 g4
 generalize hS : scF (l.length + 1) l = S at *
 have HS := Lib.hid hS
 clear hS
 go_enter Try.func40, Try.ntmps40
 go_wp2_with fail
 go_loopw [5, 6] (fun o r wr => ∃ (acc : List (List UInt8)) (kk f : Nat), kk ≤ l.length ∧ Sh w r (l.drop kk) ∧ BOs wr w.heap.size o acc ∧ acc.length ≤ kk ∧ Below w.heap.size w wr ∧ l.length - kk < f ∧ S = (acc ++ (scF f (l.drop kk)).1, kk + (scF f (l.drop kk)).2.1, (scF f (l.drop kk)).2.2)) (fun _ r _ => slLen r)
 case atStart => exact ⟨[], 0, l.length + 1, by omega, by simpa using H.out, BOs.nil _ _, by simp, Below.refl _ _, by omega, by rw [← HS.out]; simp⟩
 case round =>
  obtain ⟨acc, kk, f, hk, hr, ho, hal, hb, hf, hSS⟩ := hrel
  obtain ⟨f, rfl⟩ : ∃ f', f = f' + 1 := ⟨f - 1, by omega⟩
  have hql : (l.drop kk).length = l.length - kk := List.length_drop
  have hft := tkF_facts (l.drop kk)
  have hdd (t : Nat) : (l.drop kk).drop t = l.drop (kk + t) := by rw [List.drop_drop]
  have HDD := Lib.hid hdd
  have hrr : (tkF (l.drop kk)).2.2 = 0 → tkFRest (l.drop kk) = (l.drop kk).drop (tkF (l.drop kk)).2.1 := fun h => by unfold tkFRest; rw [if_pos h]
  have HRR := Lib.hid hrr
  have HFT := Lib.hid hft
  have hun : scF (f + 1) (l.drop kk) = if (l.drop kk).length = 0 then ([], 0, 0) else if (tkF (l.drop kk)).2.2 ≠ 0 then ([], 0, (tkF (l.drop kk)).2.2) else ((tkF (l.drop kk)).1 :: (scF f ((l.drop kk).drop (tkF (l.drop kk)).2.1)).1, (tkF (l.drop kk)).2.1 + (scF f ((l.drop kk).drop (tkF (l.drop kk)).2.1)).2.1, (scF f ((l.drop kk).drop (tkF (l.drop kk)).2.1)).2.2) := rfl
  rw [hun] at hSS
  have hr' := hr
  obtain ⟨x6, c6, rfl, -⟩ := hr.open
  have HR := Lib.hid hr'
  have HO := Lib.hid ho
  have HB := Lib.hid hb
  clear hr hr' ho hb hun hft hrr hdd
  generalize hq : l.drop kk = q at *
  have HQ := Lib.hid hq
  clear hq
  have hsz := HB.out.size
  have HQL := Lib.hid hql
  have HAL := Lib.hid hal
  have HFu := Lib.hid hf
  have hqlI : q.length ≤ 1000000000 := by omega
  clear hal hf
  by_cases hq0 : q.length = 0
  ·rw [if_pos hq0] at hSS
   have hkl : kk = l.length := by omega
   have e1 : S.2.1 = l.length := by rw [hSS]; simp [hkl]
   have e2 : S.2.2 = 0 := by rw [hSS]
   have e3 : S.1 = acc := by rw [hSS]; simp
   have E1 := Lib.hid e1
   have E2 := Lib.hid e2
   have E3 := Lib.hid e3
   clear hSS e1 e2 e3
   rw [hq0]
   go_wp2_with fail
   go_ret3
   rw [E1.out, E2.out, E3.out]
   exact ⟨_, rfl, HO.out, HB.out⟩
  ·clear hql
   rw [if_neg hq0] at hSS
   have HSS := Lib.hid hSS
   clear hSS
   have hq0I : 0 < (q.length : Int) := by omega
   by_cases he : (tkF q).2.2 = 0
   ·have hr2 := HRR.out he
    have HR2 := Lib.hid hr2
    have HF2 := Lib.hid (HFT.out he)
    have HT := Lib.hid (show ((tkF q).2.2 : Int) = 0 by rw [he]; rfl)
    clear hr2
    go_wp2_with (first
     | (go_at_call 55; refine (takef_any _ q _ (HR.out.at' HB.out (Nat.le_refl _)) (by omega)).mono ?_; rw [HT.out]; rintro e w1 ⟨v7, v8, rfl, hs, hb1⟩; have hs7 := (hs _ (HR.out.at' (bthen HB.out hb1 (Nat.le_refl _)) (Nat.le_refl _))).1; have hs8 := (hs _ HR.out).2; have s1 := hb1.size; clear hs)
     | (go_at_call 37; refine (clone_any v7 _ _ hs7 (by have := HF2.out.2.2; omega)).mono ?_; rintro e w2 ⟨v9, rfl, ho9, hb2⟩; have s2 := hb2.size; obtain ⟨y9, c9, rfl, -⟩ := ho9.sh.open)
     | (at_builtin; refine app_bss rfl (.tmp 29) (.tmp 32) rfl rfl ((((HO.out.below hb1).below hb2)).below (balloc (Below.refl _ _) _)) rfl (Own1.lit _ 27 [_]).shows ((ho9.mono (Nat.zero_le _)).alloc _) rfl (by have := HAL.out; omega) (by simp; omega) ?_; intro v10 w3 ho10 hb3; have s3 := hb3.size))
    have hne := HSS.out
    rw [if_neg (show ¬ (tkF q).2.2 ≠ 0 from fun h => h he), HDD.out] at hne
    have hr3 := hs8
    rw [HR2.out, HDD.out] at hr3
    have hf2 := HF2.out
    have hqq := HQL.out
    have hfu := HFu.out
    have hal := HAL.out
    obtain ⟨x8, c8, e8, -⟩ := hr3.open
    refine ⟨⟨acc ++ [(tkF q).1], kk + (tkF q).2.1, f, by omega, hr3, ho10, by simp; omega, ?_, by omega, ?_⟩, ?_⟩
    ·exact ((bthen (bthen HB.out hb1 (Nat.le_refl _)) hb2 (Nat.le_refl _)).alloc (by omega) _).trans hb3
    ·rw [hne]; simp [Nat.add_assoc]
    ·rw [e8]; simp only [slLen, List.length_drop]; omega
   ·have heI : ((tkF q).2.2 : Int) != 0 := by rw [bne_iff_ne]; omega
    have hSS2 := HSS.out
    rw [if_pos (show (tkF q).2.2 ≠ 0 from he)] at hSS2
    have E1 := Lib.hid (show S.2.1 = kk by rw [hSS2]; simp)
    have E2 := Lib.hid (show S.2.2 = (tkF q).2.2 by rw [hSS2])
    have E3 := Lib.hid (show S.1 = acc by rw [hSS2]; simp)
    clear hSS2 HSS
    go_wp2_with (go_at_call 55; refine (takef_any _ q _ (HR.out.at' HB.out (Nat.le_refl _)) (by omega)).mono ?_; rintro e w1 ⟨v7, v8, rfl, hs, hb1⟩)
    have hlq : (l.length : Int) - (q.length : Int) = (kk : Int) := by have := HQL.out; omega
    go_ret3
    rw [E1.out, E2.out, E3.out]
    simp only [hlq]
    exact ⟨_, rfl, HO.out.below hb1, bthen HB.out hb1 (Nat.le_refl _)⟩
end Go.Proofs.Ytkghkpkiodghiaa
