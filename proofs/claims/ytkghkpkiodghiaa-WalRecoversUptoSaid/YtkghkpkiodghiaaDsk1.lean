/- The disk: its state in memory, New, counts, Arm, Dead, size. -/
import Derived.Test.YtkghkpkiodghiaaClo
import Derived.Test.YtkghkpkiodghiaaDsk0
namespace Go.Proofs.Ytkghkpkiodghiaa
set_option linter.unusedVariables false
set_option linter.unusedSimpArgs false
set_option linter.unnecessarySimpa false
open Go.RowKit
set_option maxRecDepth 100000
set_option maxHeartbeats 4000000

/-- A disk, plainly: of each file what stands fast and what is written, whether that was replaced; the limit, how many calls come yet, and whether it is dead. -/
structure PD where
  f0 : List UInt8
  n0 : List UInt8
  r0 : Bool
  f1 : List UInt8
  n1 : List UInt8
  r1 : Bool
  lim : Int
  left : Int
  dead : Bool
def DskC (a b : Value) (r0 : Bool) (c d : Value) (r1 : Bool) (lim left : Int) (dead : Bool) : List Value := [a, b, .bool r0, c, d, .bool r1, .int .i64 lim, .int .i64 left, .bool dead]
def Dsk (w : World) (p : Nat) (S : PD) : Prop := ∃ (xa : Option Addr) (ka : Nat) (xb : Option Addr) (kb : Nat) (xc : Option Addr) (kc : Nat) (xd : Option Addr) (kd : Nat),
  Row w p 64 (DskC (.slice xa S.f0.length ka) (.slice xb S.n0.length kb) S.r0 (.slice xc S.f1.length kc) (.slice xd S.n1.length kd) S.r1 S.lim S.left S.dead) ∧
  Own w 0 5 (.slice xa S.f0.length ka) S.f0 ∧ Own w 0 5 (.slice xb S.n0.length kb) S.n0 ∧ Own w 0 5 (.slice xc S.f1.length kc) S.f1 ∧ Own w 0 5 (.slice xd S.n1.length kd) S.n1
theorem ix0 (a b c d : Value) (r0 r1 : Bool) (w : World) : (Instr.index 62 (.agg #[a, b, .bool r0, c, d, .bool r1]) (.int .i64 0)).run Try.prog w = .ok (.agg #[a, b, .bool r0]) w := by kernel_rfl
theorem ix1 (a b c d : Value) (r0 r1 : Bool) (w : World) : (Instr.index 62 (.agg #[a, b, .bool r0, c, d, .bool r1]) (.int .i64 1)).run Try.prog w = .ok (.agg #[c, d, .bool r1]) w := by kernel_rfl
theorem dsize_any (p : Nat) (xa xc ya yc : Option Addr) (ka kc na nc la lc : Nat) (A C : List UInt8) (r0 r1 : Bool) (lim left : Int) (dead : Bool) (w : World) (h : Row w p 64 (DskC (.slice ya na la) (.slice xa A.length ka) r0 (.slice yc nc lc) (.slice xc C.length kc) r1 lim left dead)) (hl : A.length + C.length ≤ 140737488355328) :
    Calls Try.prog 44 #[.pointer (some ⟨p, 0, none⟩)] w fun e w' => e = .returned (.int .i64 ((A.length + C.length : Nat) : Int)) ∧ Below w.heap.size w w' := by
  have h0 := Row.cell h 0
  have h1 := Row.cell h 1
  have h2 := Row.cell h 2
  have h3 := Row.cell h 3
  have h4 := Row.cell h 4
  have h5 := Row.cell h 5
  simp only [DskC, List.getElem?_cons_succ, List.getElem?_cons_zero] at h0 h1 h2 h3 h4 h5
  go_enter Try.func44, Try.ntmps44
  go_wp2_with fail
  clear h h0 h1 h2 h3 h4 h5
  go_loopw [3, 10] (fun n i wr => Below w.heap.size w wr ∧ ((i = .int .i64 0 ∧ n = .int .i64 0) ∨ (i = .int .i64 1 ∧ n = .int .i64 (A.length : Int)) ∨ (i = .int .i64 2 ∧ n = .int .i64 ((A.length + C.length : Nat) : Int)))) (fun _ i _ => 2 - (intOf i).toNat)
  case atStart => exact ⟨Below.refl _ _, .inl ⟨rfl, rfl⟩⟩
  case round =>
    obtain ⟨hb, ⟨rfl, rfl⟩ | ⟨rfl, rfl⟩ | ⟨rfl, rfl⟩⟩ := hrel
    · have hix := ix0 (.slice ya na la) (.slice xa A.length ka) (.slice yc nc lc) (.slice xc C.length kc) r0 r1 wr
      go_wp2_with fail
      exact ⟨⟨balloc hb _, .inr (.inl ⟨rfl, rfl⟩)⟩, by simp [intOf]⟩
    · have hix := ix1 (.slice ya na la) (.slice xa A.length ka) (.slice yc nc lc) (.slice xc C.length kc) r0 r1 wr
      go_wp2_with fail
      exact ⟨⟨balloc hb _, .inr (.inr ⟨rfl, by simp⟩)⟩, by simp [intOf]⟩
    · go_wp2_with fail
      go_ret
      exact ⟨rfl, hb⟩
theorem Dead_any (p : Nat) (a b c d : Value) (r0 r1 : Bool) (lim left : Int) (dead : Bool) (w : World) (h : Row w p 64 (DskC a b r0 c d r1 lim left dead)) :
    Calls Try.prog 20 #[.pointer (some ⟨p, 0, none⟩)] w fun e w' => e = .returned (.bool dead) ∧ w' = w := by
  have h8 := Row.cell h 8
  simp only [DskC, List.getElem?_cons_succ, List.getElem?_cons_zero] at h8
  go_enter Try.func20, Try.ntmps20
  go_wp2_with fail
  go_ret
  exact ⟨rfl, rfl⟩
theorem dset7 {w : World} {p : Nat} {a b c d : Value} {r0 r1 : Bool} {lim left : Int} {dead : Bool} (h : Row w p 64 (DskC a b r0 c d r1 lim left dead)) (x : Int) :
    Row (w.setCell ⟨p, 7, none⟩ (.int .i64 x)) p 64 (DskC a b r0 c d r1 lim x dead) ∧ Upd p w (w.setCell ⟨p, 7, none⟩ (.int .i64 x)) := ⟨Row.set h 7 _, Upd.set p 7 w _⟩
theorem dset8 {w : World} {p : Nat} {a b c d : Value} {r0 r1 : Bool} {lim left : Int} {dead : Bool} (h : Row w p 64 (DskC a b r0 c d r1 lim left dead)) (x : Bool) :
    Row (w.setCell ⟨p, 8, none⟩ (.bool x)) p 64 (DskC a b r0 c d r1 lim left x) ∧ Upd p w (w.setCell ⟨p, 8, none⟩ (.bool x)) := ⟨Row.set h 8 _, Upd.set p 8 w _⟩
theorem Arm_row (p : Nat) (a b c d : Value) (r0 r1 : Bool) (lim left n : Int) (dead : Bool) (w : World) (h : Row w p 64 (DskC a b r0 c d r1 lim left dead)) :
    Calls Try.prog 18 #[.pointer (some ⟨p, 0, none⟩), .int .i64 n] w fun e w' => e = .returned (.tuple #[]) ∧ Row w' p 64 (DskC a b r0 c d r1 lim (if n < 0 then 0 else n) dead) ∧ Upd p w w' := by
  have h7 := Row.cell h 7
  have hf7 := Row.frozen h 7
  simp only [DskC, List.getElem?_cons_succ, List.getElem?_cons_zero] at h7
  have HH := Lib.hid h
  clear h
  by_cases hn : n < 0
  · rw [if_pos hn]
    go_enter Try.func18, Try.ntmps18
    go_wp2_with fail
    go_end0
    exact ⟨rfl, dset7 HH.out _⟩
  · rw [if_neg hn]
    go_enter Try.func18, Try.ntmps18
    go_wp2_with fail
    go_end0
    exact ⟨rfl, dset7 HH.out _⟩
def leftC (left : Int) : Int := if 0 < left then left - 1 else left
theorem counts_dead (p : Nat) (a b c d : Value) (r0 r1 dead : Bool) (lim left n : Int) (w : World) (h : Row w p 64 (DskC a b r0 c d r1 lim left dead)) (hl : dead = true ∨ left = 0) :
    Calls Try.prog 43 #[.pointer (some ⟨p, 0, none⟩), .int .i64 n] w fun e w' => e = .returned (.tuple #[.pointer none, .int .i64 140]) ∧ Row w' p 64 (DskC a b r0 c d r1 lim left true) ∧ Upd p w w' := by
  have h7 := Row.cell h 7
  have h8 := Row.cell h 8
  have hf7 := Row.frozen h 7
  have hf8 := Row.frozen h 8
  simp only [DskC, List.getElem?_cons_succ, List.getElem?_cons_zero] at h7 h8
  have HH := Lib.hid h
  clear h
  by_cases h0 : left = 0
  · subst h0
    go_enter Try.func43, Try.ntmps43
    go_wp2_with fail
    go_ret2
    exact ⟨rfl, dset8 HH.out _⟩
  · have hd : dead = true := by rcases hl with h | h; exact h; exact absurd h h0
    subst hd
    have hle : (left == 0) = false := by rw [beq_eq_false_iff_ne]; exact h0
    go_enter Try.func43, Try.ntmps43
    go_wp2_with fail
    go_ret2
    exact ⟨rfl, HH.out, Upd.refl _ _⟩
theorem counts_arg (p : Nat) (a b c d : Value) (r0 r1 : Bool) (lim left n : Int) (w : World) (h : Row w p 64 (DskC a b r0 c d r1 lim left false)) (hl : left ≠ 0) (hm : left ≤ 9223372036854775807) (hn : n < 0 ∨ 1 < n) :
    Calls Try.prog 43 #[.pointer (some ⟨p, 0, none⟩), .int .i64 n] w fun e w' => e = .returned (.tuple #[.pointer none, .int .i64 1]) ∧ Row w' p 64 (DskC a b r0 c d r1 lim (leftC left) false) ∧ Upd p w w' := by
  have h7 := Row.cell h 7
  have h8 := Row.cell h 8
  have hf7 := Row.frozen h 7
  have hf8 := Row.frozen h 8
  simp only [DskC, List.getElem?_cons_succ, List.getElem?_cons_zero] at h7 h8
  have HH := Lib.hid h
  clear h
  have hle : (left == 0) = false := by rw [beq_eq_false_iff_ne]; exact hl
  by_cases hg : 0 < left
  · have e1 : leftC left = left - 1 := if_pos hg
    rw [e1]
    have hw := IntWalk.wrap64_in (left - 1) ⟨by omega, by omega⟩
    rcases hn with hn | hn
    · go_enter Try.func43, Try.ntmps43
      go_wp2_with fail
      try rw [hw]
      go_ret2
      exact ⟨rfl, dset7 HH.out _⟩
    · have hn0 : ¬ n < 0 := by omega
      have hn2 : 2 ≤ n := by omega
      go_enter Try.func43, Try.ntmps43
      go_wp2_with fail
      try rw [hw]
      go_ret2
      exact ⟨rfl, dset7 HH.out _⟩
  · have e1 : leftC left = left := if_neg hg
    rw [e1]
    rcases hn with hn | hn
    · go_enter Try.func43, Try.ntmps43
      go_wp2_with fail
      go_ret2
      exact ⟨rfl, HH.out, Upd.refl _ _⟩
    · have hn0 : ¬ n < 0 := by omega
      have hn2 : 2 ≤ n := by omega
      go_enter Try.func43, Try.ntmps43
      go_wp2_with fail
      go_ret2
      exact ⟨rfl, HH.out, Upd.refl _ _⟩
theorem counts_ok (p : Nat) (a b c d : Value) (r0 r1 : Bool) (lim left : Int) (n : Nat) (w : World) (h : Row w p 64 (DskC a b r0 c d r1 lim left false)) (hl : left ≠ 0) (hm : left ≤ 9223372036854775807) (hn : n < 2) :
    Calls Try.prog 43 #[.pointer (some ⟨p, 0, none⟩), .int .i64 n] w fun e w' => e = .returned (.tuple #[.pointer (some ⟨p, n * 3, none⟩), .int .i64 0]) ∧ Row w' p 64 (DskC a b r0 c d r1 lim (leftC left) false) ∧ Upd p w w' := by
  have h7 := Row.cell h 7
  have h8 := Row.cell h 8
  have hf7 := Row.frozen h 7
  have hf8 := Row.frozen h 8
  simp only [DskC, List.getElem?_cons_succ, List.getElem?_cons_zero] at h7 h8
  have HH := Lib.hid h
  clear h
  have hle : (left == 0) = false := by rw [beq_eq_false_iff_ne]; exact hl
  have hn1 : (n : Int) < 2 := by omega
  by_cases hg : 0 < left
  · have e1 : leftC left = left - 1 := if_pos hg
    rw [e1]
    have hw := IntWalk.wrap64_in (left - 1) ⟨by omega, by omega⟩
    go_enter Try.func43, Try.ntmps43
    go_wp2_with fail
    try rw [hw]
    go_ret2
    exact ⟨rfl, dset7 HH.out _⟩
  · have e1 : leftC left = left := if_neg hg
    rw [e1]
    go_enter Try.func43, Try.ntmps43
    go_wp2_with fail
    go_ret2
    exact ⟨rfl, HH.out, Upd.refl _ _⟩
theorem New_any (n : Int) (w : World) :
    Calls Try.prog 6 #[.int .i64 n] w fun e w' => e = .returned (.pointer (some ⟨w.heap.size, 0, none⟩)) ∧ Dsk w' w.heap.size ⟨[], [], false, [], [], false, if n < 0 then 0 else if 16777216 < n then 16777216 else n, -1, false⟩ ∧ Below w.heap.size w w' ∧ w.heap.size < w'.heap.size := by
  have key (m : Int) : Dsk (w.alloc (.cells #[.slice none 0 0, .slice none 0 0, .bool false, .slice none 0 0, .slice none 0 0, .bool false, .int .i64 m, .int .i64 (-1), .bool false] 64)) w.heap.size ⟨[], [], false, [], [], false, m, -1, false⟩ :=
    ⟨none, 0, none, 0, none, 0, none, 0, Row.new w _ _, Own.nil _ _ _, Own.nil _ _ _, Own.nil _ _ _, Own.nil _ _ _⟩
  by_cases h0 : n < 0
  · rw [if_pos h0]
    go_enter Try.func6, Try.ntmps6
    go_wp2_with fail
    go_ret
    exact ⟨rfl, key _, balloc (Below.refl _ _) _, by simp⟩
  · rw [if_neg h0]
    by_cases h1 : 16777216 < n
    · rw [if_pos h1]
      go_enter Try.func6, Try.ntmps6
      go_wp2_with fail
      go_ret
      exact ⟨rfl, key _, balloc (Below.refl _ _) _, by simp⟩
    · rw [if_neg h1]
      go_enter Try.func6, Try.ntmps6
      go_wp2_with fail
      go_ret
      exact ⟨rfl, key _, balloc (Below.refl _ _) _, by simp⟩
end Go.Proofs.Ytkghkpkiodghiaa
