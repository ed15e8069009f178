/- Frames: is the sum good; what bytes begin with. -/
import Derived.Test.YtkghkpkiodghiaaFrm2
import Derived.Test.YtkghkpkiodghiaaPfxTk
import Derived.Deep.QuietTactic
import Derived.BigQuiet
namespace Go.Proofs.Ytkghkpkiodghiaa
set_option linter.unusedVariables false
set_option linter.unusedSimpArgs false
set_option linter.unnecessarySimpa false
open Go.RowKit
set_option maxRecDepth 100000
set_option maxHeartbeats 4000000

theorem or32 (a b : Nat) (ha : a < 4294967296) (hb : b < 4294967296) : bits .or .u32 (a : Int) (b : Int) = ((a ||| b : Nat) : Int) := by
  have hx : a ||| b < 2 ^ 32 := Nat.or_lt_two_pow (by omega) (by omega)
  have h1 : (BitVec.ofInt 32 (a : Int)).toNat = a := by rw [BitVec.ofInt_natCast, BitVec.toNat_ofNat]; exact Nat.mod_eq_of_lt (by omega)
  have h2 : (BitVec.ofInt 32 (b : Int)).toNat = b := by rw [BitVec.ofInt_natCast, BitVec.toNat_ofNat]; exact Nat.mod_eq_of_lt (by omega)
  show IntKind.u32.wrap ((BitVec.ofInt 32 (a : Int) ||| BitVec.ofInt 32 (b : Int)).toNat : Int) = _
  rw [BitVec.toNat_or, h1, h2, IntWalk.u32_in _ ⟨by omega, by omega⟩]
theorem or_add (a c : Nat) (hc : c < 256) : a * 256 ||| c = a * 256 + c := by
  have := Nat.two_pow_add_eq_or_of_lt (i := 8) (b := c) (by omega) a
  rw [Nat.mul_comm]; exact this.symm
/-- A number of bytes, the highest first. -/
def beN (l : List UInt8) : Nat := l.foldl (fun s c => s * 256 + c.toNat) 0
theorem beN_take (l : List UInt8) (j : Nat) (hj : j < l.length) : beN (l.take (j + 1)) = beN (l.take j) * 256 + (l.getD j 0).toNat := by
  unfold beN
  rw [List.take_add_one, List.getElem?_eq_getElem hj]
  rw [List.foldl_append]
  simp [List.getD, List.getElem?_eq_getElem hj]
theorem beN_lt (l : List UInt8) : ∀ j, j ≤ l.length → beN (l.take j) < 256 ^ j
  | 0, _ => by simp [beN]
  | j + 1, h => by
    have h1 := beN_lt l j (by omega)
    have h2 := UInt8.toNat_lt (l.getD j 0)
    rw [beN_take l j h, Nat.pow_succ]
    omega
/-- The last four bytes' number. -/
def last4 (l : List UInt8) : Nat := beN (l.drop (l.length - 4))
def goodB (l : List UInt8) : Bool := decide (4 ≤ l.length) && ((last4 l : Int) == (onL 4294967295 (l.take (l.length - 4)) : Int))
theorem of_short (v : Value) (l : List UInt8) (w : World) (h : Sh w v l) (hl : l.length < 4) :
    Calls Try.prog 74 #[v] w fun e w' => e = .returned (.tuple #[.int .u32 0, .bool false]) ∧ w' = w := by
  obtain ⟨a, cap, rfl, g1, g2, g3, g4⟩ := h.open
  clear g3 g4 h
  have hI : (l.length : Int) < 4 := by omega
  go_enter Try.func74, Try.ntmps74
  go_wp2_with fail
  go_ret2
  exact ⟨rfl, rfl⟩
theorem of_any (v : Value) (l : List UInt8) (w : World) (h : Sh w v l) (hl : 4 ≤ l.length) :
    Calls Try.prog 74 #[v] w fun e w' => e = .returned (.tuple #[.int .u32 (last4 l : Int), .bool true]) ∧ w' = w := by
  obtain ⟨a, cap, rfl, g1, g2, g3, g4⟩ := h.open
  have hsl := g4.drop (l.length - 4) (by omega)
  have hlen : (l.drop (l.length - 4)).length = 4 := by simp; omega
  have e4 : l.length - (l.length - 4) = 4 := by omega
  rw [e4] at hsl
  obtain ⟨b0, off0, hab, hby⟩ := hsl.cells (by omega)
  rw [if_neg (by omega)] at hab
  have HBy := Lib.hid hby
  have HAB := Lib.hid hab
  have HE4 := Lib.hid e4
  have HL4 := Lib.hid (show last4 l = beN (l.drop (l.length - 4)) from rfl)
  have HBt := Lib.hid (beN_take (l.drop (l.length - 4)))
  have HBl := Lib.hid (beN_lt (l.drop (l.length - 4)))
  have h4I : ¬ (l.length : Int) < 4 := by omega
  have h4I2 : 4 ≤ (l.length : Int) := by omega
  clear g3 g4 h hsl hby hab e4
  generalize l.drop (l.length - 4) = q at *
  go_enter Try.func74, Try.ntmps74
  go_wp2_with fail
  rw [HAB.out, HE4.out]
  go_loopw [4, 16] (fun st i wr => ∃ j : Nat, j ≤ 4 ∧ i = .int .i64 j ∧ st = .int .u32 (beN (q.take j) : Int) ∧ wr = w) (fun _ i _ => 4 - (intOf i).toNat)
  case atStart => exact ⟨0, by omega, rfl, rfl, rfl⟩
  case round =>
    obtain ⟨j, hj, rfl, rfl, rfl⟩ := hrel
    by_cases hlt : j < 4
    · have hbyte := HBy.out j (by omega)
      have HT := Lib.hid (HBt.out j (by omega))
      have hb := HBl.out j (by omega)
      have hpw : 256 ^ j ≤ 16777216 := by
        have : 256 ^ j ≤ 256 ^ 3 := Nat.pow_le_pow_right (by omega) (by omega)
        exact this
      have hc := UInt8.toNat_lt (q.getD j 0)
      have hs : beN (q.take j) < 16777216 := by omega
      clear hb hpw
      generalize beN (q.take j) = t at *
      generalize (q.getD j 0).toNat = c at *
      have ho : bits .or .u32 ((t : Int) * 256) (c : Int) = ((t * 256 + c : Nat) : Int) := by
        rw [← or_add t c (by omega), ← or32 _ _ (by omega) (by omega)]; congr 1
      go_wp2_with fail
      exact ⟨⟨j + 1, by omega, by go_num, by rw [HT.out]; go_num, by trivial⟩, by simp [intOf]; omega⟩
    · obtain rfl : j = 4 := by omega
      have hq4 : q.take 4 = q := List.take_of_length_le (by omega)
      rw [hq4]
      go_wp2_with fail
      go_ret2
      rw [HL4.out]
      exact ⟨rfl, rfl⟩
theorem Good_any (v : Value) (l : List UInt8) (w : World) (h : Sh w v l) :
    Calls Try.prog 69 #[v] w fun e w' => e = .returned (.bool (goodB l)) ∧ Below w.heap.size w w' := by
  by_cases hl : l.length < 4
  · have HG := Lib.hid (show goodB l = false by unfold goodB; rw [decide_eq_false (by omega)]; rfl)
    have H := Lib.hid h
    clear h
    go_enter Try.func69, Try.ntmps69
    go_wp2_with (go_at_call 74; refine (of_short v l _ H.out hl).mono ?_; rintro e w1 ⟨rfl, rfl⟩)
    go_ret
    rw [HG.out]
    exact ⟨rfl, Below.refl _ _⟩
  · have hl4 : 4 ≤ l.length := by omega
    have HG := Lib.hid (show goodB l = ((last4 l : Int) == (onL 4294967295 (l.take (l.length - 4)) : Int)) by unfold goodB; rw [decide_eq_true hl4, Bool.true_and])
    obtain ⟨a, cap, rfl, g1, g2, g3, g4⟩ := h.open
    have HT := Lib.hid (g4.take (l.length - 4) (by omega))
    have H := Lib.hid g4
    have h4I2 : 4 ≤ (l.length : Int) := by omega
    clear h g3 g4 hl
    go_enter Try.func69, Try.ntmps69
    go_wp2_with (first
      | (go_at_call 74; refine (of_any _ l _ H.out hl4).mono ?_; rintro e w1 ⟨rfl, rfl⟩)
      | (go_at_call 71; refine (on_any 4294967295 (by omega) _ (l.take (l.length - 4)) _ HT.out).mono ?_; rintro e w2 ⟨rfl, hb2⟩))
    go_ret
    rw [HG.out]
    exact ⟨rfl, hb2⟩

theorem Take_of (v : Value) (l : List UInt8) (t : Nat × Nat × Nat) (q : List UInt8) (w : World) (h : Sh w v l) (hl : l.length ≤ 140737488355328) (ht : tk l = t) (hq : tkRest l = q) :
    Calls Try.prog 41 #[v] w fun e w' => ∃ v', e = .returned (.tuple #[.int .u64 (t.1 : Int), v', .int .i64 (t.2.2 : Int)]) ∧ Sh w' v' q ∧ Below w.heap.size w w' := by
  subst ht; subst hq; exact (Take_any v l w h hl).mono fun e w' ⟨v', h1, h2, h3⟩ => ⟨v', h1, h2.sh, h3⟩
/-- Which frame bytes begin with: its body, how long it is, or why none. -/
def tkF (l : List UInt8) : List UInt8 × Nat × Nat :=
  if (tk l).2.2 ≠ 0 then ([], 0, (tk l).2.2)
  else if 1048576 < (tk l).1 then ([], 0, 2)
  else if l.length - (tk l).2.1 < (tk l).1 + 4 then ([], 0, 3)
  else if goodB (l.take ((tk l).2.1 + (tk l).1 + 4)) = true then ((l.drop (tk l).2.1).take (tk l).1, (tk l).2.1 + (tk l).1 + 4, 0) else ([], 0, 50)
def tkFRest (l : List UInt8) : List UInt8 := if (tkF l).2.2 = 0 then l.drop (tkF l).2.1 else []
theorem takef_err (v : Value) (l : List UInt8) (e : Nat) (w : World) (h : Sh w v l) (hl : l.length ≤ 140737488355328) (ht : tk l = (0, 0, e)) (he : e ≠ 0) :
    Calls Try.prog 55 #[v] w fun r w' => r = .returned (.tuple #[.slice none 0 0, .slice none 0 0, .int .i64 (e : Int)]) ∧ Below w.heap.size w w' := by
  have H := Lib.hid h
  have heI : ((e : Int) != 0) = true := by rw [bne_iff_ne]; omega
  have HT := Lib.hid ht
  clear h ht
  go_enter Try.func55, Try.ntmps55
  go_wp2_with (go_at_call 41; refine (Take_of v l _ _ _ H.out hl HT.out rfl).mono ?_; rintro r w1 ⟨v1, rfl, hs1, hb1⟩)
  go_ret3
  exact ⟨rfl, hb1⟩
theorem takef_long (v : Value) (l : List UInt8) (n k : Nat) (w : World) (h : Sh w v l) (hl : l.length ≤ 140737488355328) (ht : tk l = (n, k, 0)) (hn : 1048576 < n) :
    Calls Try.prog 55 #[v] w fun r w' => r = .returned (.tuple #[.slice none 0 0, .slice none 0 0, .int .i64 2]) ∧ Below w.heap.size w w' := by
  have H := Lib.hid h
  have hnI : 1048576 < (n : Int) := by omega
  have HT := Lib.hid ht
  clear h ht
  go_enter Try.func55, Try.ntmps55
  go_wp2_with (go_at_call 41; refine (Take_of v l _ _ _ H.out hl HT.out rfl).mono ?_; rintro r w1 ⟨v1, rfl, hs1, hb1⟩)
  go_ret3
  exact ⟨rfl, hb1⟩
theorem tkRest_of {l : List UInt8} {n k : Nat} (ht : tk l = (n, k, 0)) : tkRest l = l.drop k := by unfold tkRest; rw [ht]; rfl
theorem takef_short (v : Value) (l : List UInt8) (n k : Nat) (w : World) (h : Sh w v l) (hl : l.length ≤ 140737488355328) (ht : tk l = (n, k, 0)) (hn : n ≤ 1048576) (hs : l.length - k < n + 4) :
    Calls Try.prog 55 #[v] w fun r w' => r = .returned (.tuple #[.slice none 0 0, .slice none 0 0, .int .i64 3]) ∧ Below w.heap.size w w' := by
  have H := Lib.hid h
  have hnI : ¬ 1048576 < (n : Int) := by omega
  have HT := Lib.hid ht
  have HR := Lib.hid (tkRest_of ht)
  have hsI : ((l.drop k).length : Int) < (n : Int) + 4 := by rw [List.length_drop]; omega
  have hw := IntWalk.i64_in (n : Int) ⟨by omega, by omega⟩
  clear h ht
  generalize l.drop k = q at *
  go_enter Try.func55, Try.ntmps55
  go_wp2_with (go_at_call 41; refine (Take_of v l _ _ _ H.out hl HT.out HR.out).mono ?_; rintro r w1 ⟨v1, rfl, hs1, hb1⟩; obtain ⟨x1, c1, rfl, -⟩ := hs1.open; clear hs1)
  go_ret3
  exact ⟨rfl, hb1⟩
theorem takef_go (v : Value) (l : List UInt8) (n k : Nat) (w : World) (h : Sh w v l) (hl : l.length ≤ 140737488355328) (ht : tk l = (n, k, 0)) (hn : n ≤ 1048576) (hs : ¬ l.length - k < n + 4) (hk : k ≤ l.length) (g : Bool) (hg : goodB (l.take (k + n + 4)) = g) :
    Calls Try.prog 55 #[v] w fun r w' => ∃ v1 v2, r = .returned (.tuple #[v1, v2, .int .i64 (if g = true then 0 else 50)]) ∧ (∀ W, Sh W v l → Sh W v1 (if g = true then (l.drop k).take n else []) ∧ Sh W v2 (if g = true then l.drop (k + n + 4) else [])) ∧ Below w.heap.size w w' := by
  obtain ⟨a, cap, rfl, g1, g2, g3, g4⟩ := h.open
  have HT := Lib.hid ht
  have HR := Lib.hid (tkRest_of ht)
  obtain ⟨m, hm⟩ : ∃ m, (l.drop k).length = m := ⟨_, rfl⟩
  have hlm : l.length = k + m := by rw [List.length_drop] at hm; omega
  have HM := Lib.hid hm
  have hmn : n + 4 ≤ m := by rw [List.length_drop] at hm; omega
  have HTk := Lib.hid (g4.take (k + n + 4) (by omega))
  have HDr := Lib.hid (fun (W : World) (hW : Sh W (.slice a l.length cap) l) => hW.drop (k + n + 4) (by omega))
  have HSl := Lib.hid (fun (W : World) (hW : Sh W (.slice a l.length cap) l) => hW.sliced (lo := k) (hi := k + n) (m := k + n) (by omega) (by omega) (by omega) (by omega))
  have H := Lib.hid g4
  have HLL := Lib.hid hl
  rw [hlm] at g1 hl H HDr HSl ⊢
  have hnI : ¬ 1048576 < (n : Int) := by omega
  have hsI : ¬ (m : Int) < (n : Int) + 4 := by omega
  have hw := IntWalk.i64_in (n : Int) ⟨by omega, by omega⟩
  have hlm' := hlm
  clear h ht g3 g4 hm hlm hs hk
  have HG := Lib.hid hg
  clear hg
  have hend : (k : Int) + (n : Int) + 4 ≤ (cap : Int) := by omega
  cases g with
  | false =>
    go_enter Try.func55, Try.ntmps55
    go_wp2_with (first
      | (go_at_call 41; refine (Take_of _ l _ _ _ H.out HLL.out HT.out HR.out).mono ?_; rintro r w1 ⟨v1, rfl, hs1, hb1⟩; obtain ⟨x1, c1, e1, -⟩ := hs1.open; rw [HM.out] at e1; subst e1; clear hs1)
      | (go_at_call 69; refine (Good_any _ (l.take (k + n + 4)) _ (HTk.out.below hb1)).mono ?_; rw [HG.out]; rintro r w2 ⟨rfl, hb2⟩))
    go_ret3
    exact ⟨_, _, rfl, fun W _ => ⟨Sh.nil _, Sh.nil _⟩, bthen hb1 hb2 (Nat.le_refl _)⟩
  | true =>
    go_enter Try.func55, Try.ntmps55
    go_wp2_with (first
      | (go_at_call 41; refine (Take_of _ l _ _ _ H.out HLL.out HT.out HR.out).mono ?_; rintro r w1 ⟨v1, rfl, hs1, hb1⟩; obtain ⟨x1, c1, e1, -⟩ := hs1.open; rw [HM.out] at e1; subst e1; clear hs1)
      | (go_at_call 69; refine (Good_any _ (l.take (k + n + 4)) _ (HTk.out.below hb1)).mono ?_; rw [HG.out]; rintro r w2 ⟨rfl, hb2⟩))
    go_quiet (fail)
    generalize (Value.slice (if k + n = k then a else Option.map (fun x => x.add k) a) (k + n - k) (k + n - k)) = z1 at *
    generalize (Value.slice (if cap = k + n + 4 then a else Option.map (fun x => x.add (k + n + 4)) a) (k + m - (k + n + 4)) (cap - (k + n + 4))) = z2 at *
    go_wp2_with fail
    go_ret3
    exact ⟨z1, z2, rfl, fun W hW => ⟨by have := HSl.out W hW; rw [Nat.add_sub_cancel_left] at this; exact this, HDr.out W hW⟩, (bthen hb1 hb2 (Nat.le_refl _)).trans ((drewN_below _ nq).mono (Nat.le_trans hb1.size hb2.size))⟩
/-- frame.take. -/
theorem takef_any (v : Value) (l : List UInt8) (w : World) (h : Sh w v l) (hl : l.length ≤ 140737488355328) :
    Calls Try.prog 55 #[v] w fun r w' => ∃ v1 v2, r = .returned (.tuple #[v1, v2, .int .i64 ((tkF l).2.2 : Int)]) ∧ (∀ W, Sh W v l → Sh W v1 (tkF l).1 ∧ Sh W v2 (tkFRest l)) ∧ Below w.heap.size w w' := by
  rcases tk_cases l with ⟨e, ht, he⟩ | ⟨n, k, ht, hk1, hk2, hn⟩
  · have e1 : tkF l = ([], 0, e) := by unfold tkF; rw [ht, if_pos (by show e ≠ 0; omega)]
    have e2 : tkFRest l = [] := by unfold tkFRest; rw [e1, if_neg (by show e ≠ 0; omega)]
    rw [e1, e2]
    exact (takef_err v l e w h hl ht (by omega)).mono fun r w' ⟨hr, hb⟩ => ⟨_, _, hr, fun W _ => ⟨Sh.nil _, Sh.nil _⟩, hb⟩
  · by_cases h1 : 1048576 < n
    · have e1 : tkF l = ([], 0, 2) := by unfold tkF; rw [ht, if_neg (by simp), if_pos h1]
      have e2 : tkFRest l = [] := by unfold tkFRest; rw [e1]; rfl
      rw [e1, e2]
      exact (takef_long v l n k w h hl ht h1).mono fun r w' ⟨hr, hb⟩ => ⟨_, _, hr, fun W _ => ⟨Sh.nil _, Sh.nil _⟩, hb⟩
    · by_cases h2 : l.length - k < n + 4
      · have e1 : tkF l = ([], 0, 3) := by unfold tkF; rw [ht, if_neg (by simp), if_neg h1, if_pos h2]
        have e2 : tkFRest l = [] := by unfold tkFRest; rw [e1]; rfl
        rw [e1, e2]
        exact (takef_short v l n k w h hl ht (by omega) h2).mono fun r w' ⟨hr, hb⟩ => ⟨_, _, hr, fun W _ => ⟨Sh.nil _, Sh.nil _⟩, hb⟩
      · refine (takef_go v l n k w h hl ht (by omega) h2 hk2 _ rfl).mono fun r w' ⟨v1, v2, hr, hs, hb⟩ => ⟨v1, v2, ?_, ?_, hb⟩
        all_goals
          have e0 : tkF l = if goodB (l.take (k + n + 4)) = true then ((l.drop k).take n, k + n + 4, 0) else ([], 0, 50) := by unfold tkF; rw [ht, if_neg (by simp), if_neg h1, if_neg h2]
          cases hg : goodB (l.take (k + n + 4))
          all_goals
            rw [hg] at e0
            simp only [hg] at hr hs
            simp only [if_true, Bool.false_eq_true, if_false] at e0 hr hs
        · rw [e0]; exact hr
        · rw [e0]; exact hr
        · unfold tkFRest; rw [e0]; exact hs
        · unfold tkFRest; rw [e0]; exact hs
end Go.Proofs.Ytkghkpkiodghiaa
