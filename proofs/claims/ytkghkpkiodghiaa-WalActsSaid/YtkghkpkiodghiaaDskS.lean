/- The disk: both disks' states, plainly: they answer alike. -/
import Derived.Test.YtkghkpkiodghiaaDsk8
namespace Go.Proofs.Ytkghkpkiodghiaa
set_option linter.unusedVariables false
set_option linter.unusedSimpArgs false
set_option linter.unnecessarySimpa false

structure Sim (S : PD) (R : RD) : Prop where
 f0 : S.f0 = R.f0
 f1 : S.f1 = R.f1
 n0 : S.n0 = R.all 0
 n1 : S.n1 = R.all 1
 r0 : S.r0 = R.i0
 r1 : S.r1 = R.i1
 lim : S.lim = R.lim
 dead : S.dead = R.dead
 left : (R.armed = true ∧ S.left = R.left ∧ 0 ≤ R.left) ∨ (R.armed = false ∧ S.left < 0)
theorem Sim.new (lim : Int) : Sim ⟨[], [], false, [], [], false, lim, -1, false⟩ ⟨[], [], [], [], [], [], false, false, lim, 0, false, false⟩ :=
 ⟨rfl, rfl, rfl, rfl, rfl, rfl, rfl, rfl, .inr ⟨rfl, by simp⟩⟩
theorem Sim.bad {S : PD} {R : RD} (h : Sim S R) : (S.dead = true ∨ S.left = 0) ↔ (R.dead = true ∨ (R.armed = true ∧ R.left = 0)) := by
 rw [h.dead]
 rcases h.left with ⟨h1, h2, h3⟩ | ⟨h1, h2⟩
 ·rw [h1, h2]; simp
 ·rw [h1]
  constructor
  ·rintro (h | h)
   ·exact .inl h
   ·omega
  ·rintro (h | h)
   ·exact .inl h
   ·simp at h
theorem Sim.kill {S : PD} {R : RD} (h : Sim S R) : Sim S.kill R.kill := ⟨h.f0, h.f1, h.n0, h.n1, h.r0, h.r1, h.lim, rfl, h.left⟩
theorem Sim.tick {S : PD} {R : RD} (h : Sim S R) (hb : ¬ (R.dead = true ∨ (R.armed = true ∧ R.left = 0))) : Sim S.tick R.tick := by
 refine ⟨h.f0, h.f1, h.n0, h.n1, h.r0, h.r1, h.lim, h.dead, ?_⟩
 have hl : S.tick.left = leftC S.left := rfl
 have hr : R.tick.left = R.left - 1 := rfl
 have ha : R.tick.armed = R.armed := rfl
 rw [hl, hr, ha]
 unfold leftC
 rcases h.left with ⟨h1, h2, h3⟩ | ⟨h1, h2⟩
 ·have h0 : R.left ≠ 0 := fun e => hb (.inr ⟨h1, e⟩)
  left
  refine ⟨h1, ?_, by omega⟩
  rw [if_pos (by omega)]; omega
 ·right
  refine ⟨h1, ?_⟩
  rw [if_neg (by omega)]; exact h2
theorem Sim.tot {S : PD} {R : RD} (h : Sim S R) : S.tot = (((R.all 0).length + (R.all 1).length : Nat) : Int) := by unfold PD.tot; rw [h.n0, h.n1]
theorem Sim.write {S : PD} {R : RD} (h : Sim S R) (n : Int) (b : List UInt8) : (S.write n b).2 = (R.write n b).2 ∧ Sim (S.write n b).1 (R.write n b).1 := by
 unfold PD.write RD.write
 by_cases hb : R.dead = true ∨ (R.armed = true ∧ R.left = 0)
 ·rw [if_pos (h.bad.2 hb), if_pos hb]; exact ⟨rfl, h.kill⟩
 ·rw [if_neg (fun x => hb (h.bad.1 x)), if_neg hb]
  by_cases ha : n < 0 ∨ 1 < n
  ·rw [if_pos ha, if_pos ha]; exact ⟨rfl, h.tick hb⟩
  ·rw [if_neg ha, if_neg ha, h.lim, h.tot]
   by_cases hf : R.lim - (((R.all 0).length + (R.all 1).length : Nat) : Int) < (b.length : Int)
   ·rw [if_pos hf, if_pos hf]; exact ⟨rfl, h.tick hb⟩
   ·rw [if_neg hf, if_neg hf]
    have t := h.tick hb
    by_cases h0 : n = 0
    ·rw [if_pos h0, if_pos h0]
     refine ⟨rfl, t.f0, t.f1, ?_, t.n1, t.r0, t.r1, t.lim, t.dead, t.left⟩
     show S.n0 ++ b = (if R.i0 = true then R.o0 else R.f0) ++ (R.m0 ++ b)
     rw [h.n0]; exact List.append_assoc _ _ _
    ·rw [if_neg h0, if_neg h0]
     refine ⟨rfl, t.f0, t.f1, t.n0, ?_, t.r0, t.r1, t.lim, t.dead, t.left⟩
     show S.n1 ++ b = (if R.i1 = true then R.o1 else R.f1) ++ (R.m1 ++ b)
     rw [h.n1]; exact List.append_assoc _ _ _
theorem Sim.replace {S : PD} {R : RD} (h : Sim S R) (n : Int) (b : List UInt8) : (S.replace n b).2 = (R.replace n b).2 ∧ Sim (S.replace n b).1 (R.replace n b).1 := by
 unfold PD.replace RD.replace
 by_cases hb : R.dead = true ∨ (R.armed = true ∧ R.left = 0)
 ·rw [if_pos (h.bad.2 hb), if_pos hb]; exact ⟨rfl, h.kill⟩
 ·rw [if_neg (fun x => hb (h.bad.1 x)), if_neg hb]
  by_cases ha : n < 0 ∨ 1 < n
  ·rw [if_pos ha, if_pos ha]; exact ⟨rfl, h.tick hb⟩
  ·rw [if_neg ha, if_neg ha, h.lim, h.tot]
   have e : (((R.all 0).length + (R.all 1).length : Nat) : Int) - ((if n = 0 then S.n0 else S.n1).length : Int) = ((R.all (if n = 0 then 1 else 0)).length : Int) := by
    by_cases h0 : n = 0
    ·rw [if_pos h0, if_pos h0, h.n0]; omega
    ·rw [if_neg h0, if_neg h0, h.n1]; omega
   rw [e]
   by_cases hf : R.lim - ((R.all (if n = 0 then 1 else 0)).length : Int) < (b.length : Int)
   ·rw [if_pos hf, if_pos hf]; exact ⟨rfl, h.tick hb⟩
   ·rw [if_neg hf, if_neg hf]
    have t := h.tick hb
    by_cases h0 : n = 0
    ·rw [if_pos h0, if_pos h0]
     refine ⟨rfl, t.f0, t.f1, ?_, t.n1, rfl, t.r1, t.lim, t.dead, t.left⟩
     show b = (if true = true then b else R.f0) ++ []
     simp
    ·rw [if_neg h0, if_neg h0]
     refine ⟨rfl, t.f0, t.f1, t.n0, ?_, t.r0, rfl, t.lim, t.dead, t.left⟩
     show b = (if true = true then b else R.f1) ++ []
     simp
theorem Sim.sync {S : PD} {R : RD} (h : Sim S R) (n : Int) : (S.sync n).2 = (R.sync n).2 ∧ Sim (S.sync n).1 (R.sync n).1 := by
 unfold PD.sync RD.sync
 by_cases hb : R.dead = true ∨ (R.armed = true ∧ R.left = 0)
 ·rw [if_pos (h.bad.2 hb), if_pos hb]; exact ⟨rfl, h.kill⟩
 ·rw [if_neg (fun x => hb (h.bad.1 x)), if_neg hb]
  by_cases ha : n < 0 ∨ 1 < n
  ·rw [if_pos ha, if_pos ha]; exact ⟨rfl, h.tick hb⟩
  ·rw [if_neg ha, if_neg ha]
   have t := h.tick hb
   have hn : n = 0 ∨ n = 1 := by omega
   rcases hn with rfl | rfl
   ·refine ⟨rfl, ?_, t.f1, ?_, t.n1, rfl, t.r1, t.lim, t.dead, t.left⟩
    ·show S.n0 = R.all 0
     exact h.n0
    ·show S.n0 = (if false = true then [] else R.all 0) ++ []
     rw [h.n0]; simp
   ·refine ⟨rfl, t.f0, ?_, t.n0, ?_, t.r0, rfl, t.lim, t.dead, t.left⟩
    ·show S.n1 = R.all 1
     exact h.n1
    ·show S.n1 = (if false = true then [] else R.all 1) ++ []
     rw [h.n1]; simp
theorem Sim.read {S : PD} {R : RD} (h : Sim S R) (n : Int) : S.read n = R.read n := by
 unfold PD.read RD.read
 rw [h.dead]
 by_cases hd : R.dead = true
 ·rw [if_pos hd, if_pos hd]
 ·rw [if_neg hd, if_neg hd]
  by_cases ha : n < 0 ∨ 1 < n
  ·rw [if_pos ha, if_pos ha]
  ·rw [if_neg ha, if_neg ha]
   have hn : n = 0 ∨ n = 1 := by omega
   rcases hn with rfl | rfl
   ·rw [if_pos rfl, h.n0]; rfl
   ·rw [if_neg (by decide), h.n1]; rfl
theorem Sim.arm {S : PD} {R : RD} (h : Sim S R) (n : Int) : Sim { S with left := if n < 0 then 0 else n } { R with armed := true, left := if n < 0 then 0 else n } := by
 refine ⟨h.f0, h.f1, h.n0, h.n1, h.r0, h.r1, h.lim, h.dead, .inl ⟨rfl, rfl, ?_⟩⟩
 show 0 ≤ (if n < 0 then 0 else n)
 split <;> omega
/-- How much the document's disk holds. -/
structure Bd (R : RD) (T : Nat) : Prop where
 f0 : R.f0.length ≤ T
 f1 : R.f1.length ≤ T
 a0 : (R.all 0).length ≤ T
 a1 : (R.all 1).length ≤ T
 o0 : R.o0.length ≤ T
 o1 : R.o1.length ≤ T
theorem m0_le (R : RD) : R.m0.length ≤ (R.all 0).length := by unfold RD.all; rw [if_pos rfl, List.length_append]; omega
theorem m1_le (R : RD) : R.m1.length ≤ (R.all 1).length := by unfold RD.all; rw [if_neg (by decide), List.length_append]; omega
theorem Bd.sz {R : RD} {T : Nat} (h : Bd R T) : R.sz ≤ 6 * T := by
 have h1 := h.f0; have h2 := h.f1; have h3 := h.a0; have h4 := h.a1; have h5 := h.o0; have h6 := h.o1
 have h7 := m0_le R; have h8 := m1_le R
 unfold RD.sz; omega
theorem Bd.kill {R : RD} {T : Nat} (h : Bd R T) : Bd R.kill T := ⟨h.f0, h.f1, h.a0, h.a1, h.o0, h.o1⟩
theorem Bd.tick {R : RD} {T : Nat} (h : Bd R T) : Bd R.tick T := ⟨h.f0, h.f1, h.a0, h.a1, h.o0, h.o1⟩
theorem all0_write (R : RD) (b : List UInt8) : ({ R.tick with m0 := R.m0 ++ b } : RD).all 0 = R.all 0 ++ b := by
 show (if R.i0 = true then R.o0 else R.f0) ++ (R.m0 ++ b) = _
 exact (List.append_assoc _ _ _).symm
theorem all1_write (R : RD) (b : List UInt8) : ({ R.tick with m1 := R.m1 ++ b } : RD).all 1 = R.all 1 ++ b := by
 show (if R.i1 = true then R.o1 else R.f1) ++ (R.m1 ++ b) = _
 exact (List.append_assoc _ _ _).symm
theorem Bd.write {R : RD} {T : Nat} (h : Bd R T) (hT : R.lim ≤ (T : Int)) (n : Int) (b : List UInt8) : Bd (R.write n b).1 T := by
 unfold RD.write
 split
 ·exact h.kill
 ·split
  ·exact h.tick
  ·split
   ·exact h.tick
   ·split
    ·refine ⟨h.f0, h.f1, ?_, h.a1, h.o0, h.o1⟩
     show (({ R.tick with m0 := R.m0 ++ b } : RD).all 0).length ≤ T
     rw [all0_write, List.length_append]; omega
    ·refine ⟨h.f0, h.f1, h.a0, ?_, h.o0, h.o1⟩
     show (({ R.tick with m1 := R.m1 ++ b } : RD).all 1).length ≤ T
     rw [all1_write, List.length_append]; omega
theorem Bd.replace {R : RD} {T : Nat} (h : Bd R T) (hT : R.lim ≤ (T : Int)) (n : Int) (b : List UInt8) : Bd (R.replace n b).1 T := by
 unfold RD.replace
 by_cases hb : R.dead = true ∨ (R.armed = true ∧ R.left = 0)
 ·rw [if_pos hb]; exact h.kill
 ·rw [if_neg hb]
  by_cases ha : n < 0 ∨ 1 < n
  ·rw [if_pos ha]; exact h.tick
  ·rw [if_neg ha]
   by_cases hf : R.lim - ((R.all (if n = 0 then 1 else 0)).length : Int) < (b.length : Int)
   ·rw [if_pos hf]; exact h.tick
   ·rw [if_neg hf]
    have hb : b.length ≤ T := by omega
    by_cases h0 : n = 0
    ·rw [if_pos h0]
     refine ⟨h.f0, h.f1, ?_, h.a1, hb, h.o1⟩
     show ((if true = true then b else R.f0) ++ []).length ≤ T
     simpa using hb
    ·rw [if_neg h0]
     refine ⟨h.f0, h.f1, h.a0, ?_, h.o0, hb⟩
     show ((if true = true then b else R.f1) ++ []).length ≤ T
     simpa using hb
theorem Bd.sync {R : RD} {T : Nat} (h : Bd R T) (n : Int) : Bd (R.sync n).1 T := by
 unfold RD.sync
 split
 ·exact h.kill
 ·split
  ·exact h.tick
  ·rename_i hb ha
   have hn : n = 0 ∨ n = 1 := by omega
   rcases hn with rfl | rfl
   ·refine ⟨h.a0, h.f1, ?_, h.a1, by show ([] : List UInt8).length ≤ T; simp, h.o1⟩
    show ((if false = true then [] else R.all 0) ++ []).length ≤ T
    simpa using h.a0
   ·refine ⟨h.f0, h.a1, h.a0, ?_, h.o0, by show ([] : List UInt8).length ≤ T; simp⟩
    show ((if false = true then [] else R.all 1) ++ []).length ≤ T
    simpa using h.a1
theorem lim_write (R : RD) (n : Int) (b : List UInt8) : (R.write n b).1.lim = R.lim := by
 unfold RD.write
 by_cases h1 : R.dead = true ∨ (R.armed = true ∧ R.left = 0)
 ·rw [if_pos h1]; rfl
 ·rw [if_neg h1]
  by_cases h2 : n < 0 ∨ 1 < n
  ·rw [if_pos h2]; rfl
  ·rw [if_neg h2]
   by_cases h3 : R.lim - (((R.all 0).length + (R.all 1).length : Nat) : Int) < (b.length : Int)
   ·rw [if_pos h3]; rfl
   ·rw [if_neg h3]
    by_cases h4 : n = 0
    ·rw [if_pos h4]; rfl
    ·rw [if_neg h4]; rfl
theorem lim_replace (R : RD) (n : Int) (b : List UInt8) : (R.replace n b).1.lim = R.lim := by
 unfold RD.replace
 by_cases h1 : R.dead = true ∨ (R.armed = true ∧ R.left = 0)
 ·rw [if_pos h1]; rfl
 ·rw [if_neg h1]
  by_cases h2 : n < 0 ∨ 1 < n
  ·rw [if_pos h2]; rfl
  ·rw [if_neg h2]
   by_cases h3 : R.lim - ((R.all (if n = 0 then 1 else 0)).length : Int) < (b.length : Int)
   ·rw [if_pos h3]; rfl
   ·rw [if_neg h3]
    by_cases h4 : n = 0
    ·rw [if_pos h4]; rfl
    ·rw [if_neg h4]; rfl
theorem lim_fast (R : RD) (n : Nat) (b : List UInt8) : (R.fast n b).lim = R.lim := by unfold RD.fast; split <;> rfl
theorem lim_sync (R : RD) (n : Int) : (R.sync n).1.lim = R.lim := by
 unfold RD.sync
 split
 ·rfl
 ·split
  ·rfl
  ·show (R.tick.fast n.toNat (R.all n.toNat)).lim = R.lim
   rw [lim_fast]; rfl
/-- How many calls come yet, at least. -/
theorem left_write (R : RD) (n : Int) (b : List UInt8) : R.left - 1 ≤ (R.write n b).1.left ∧ (R.write n b).1.left ≤ R.left := by
 unfold RD.write
 by_cases h1 : R.dead = true ∨ (R.armed = true ∧ R.left = 0)
 ·rw [if_pos h1]; exact ⟨by show R.left - 1 ≤ R.left; omega, Int.le_refl _⟩
 ·rw [if_neg h1]
  by_cases h2 : n < 0 ∨ 1 < n
  ·rw [if_pos h2]; exact ⟨Int.le_refl _, by show R.left - 1 ≤ R.left; omega⟩
  ·rw [if_neg h2]
   by_cases h3 : R.lim - (((R.all 0).length + (R.all 1).length : Nat) : Int) < (b.length : Int)
   ·rw [if_pos h3]; exact ⟨Int.le_refl _, by show R.left - 1 ≤ R.left; omega⟩
   ·rw [if_neg h3]
    by_cases h4 : n = 0
    ·rw [if_pos h4]; exact ⟨Int.le_refl _, by show R.left - 1 ≤ R.left; omega⟩
    ·rw [if_neg h4]; exact ⟨Int.le_refl _, by show R.left - 1 ≤ R.left; omega⟩
theorem left_replace (R : RD) (n : Int) (b : List UInt8) : R.left - 1 ≤ (R.replace n b).1.left ∧ (R.replace n b).1.left ≤ R.left := by
 unfold RD.replace
 by_cases h1 : R.dead = true ∨ (R.armed = true ∧ R.left = 0)
 ·rw [if_pos h1]; exact ⟨by show R.left - 1 ≤ R.left; omega, Int.le_refl _⟩
 ·rw [if_neg h1]
  by_cases h2 : n < 0 ∨ 1 < n
  ·rw [if_pos h2]; exact ⟨Int.le_refl _, by show R.left - 1 ≤ R.left; omega⟩
  ·rw [if_neg h2]
   by_cases h3 : R.lim - ((R.all (if n = 0 then 1 else 0)).length : Int) < (b.length : Int)
   ·rw [if_pos h3]; exact ⟨Int.le_refl _, by show R.left - 1 ≤ R.left; omega⟩
   ·rw [if_neg h3]
    by_cases h4 : n = 0
    ·rw [if_pos h4]; exact ⟨Int.le_refl _, by show R.left - 1 ≤ R.left; omega⟩
    ·rw [if_neg h4]; exact ⟨Int.le_refl _, by show R.left - 1 ≤ R.left; omega⟩
theorem left_fast (R : RD) (n : Nat) (b : List UInt8) : (R.fast n b).left = R.left := by unfold RD.fast; split <;> rfl
theorem left_sync (R : RD) (n : Int) : R.left - 1 ≤ (R.sync n).1.left ∧ (R.sync n).1.left ≤ R.left := by
 unfold RD.sync
 split
 ·simp [RD.kill]; omega
 ·split
  ·simp [RD.tick]; omega
  ·show R.left - 1 ≤ (R.tick.fast n.toNat (R.all n.toNat)).left ∧ (R.tick.fast n.toNat (R.all n.toNat)).left ≤ R.left
   rw [left_fast]
   simp [RD.tick]; omega
end Go.Proofs.Ytkghkpkiodghiaa
namespace Go.Proofs.Ytkghkpkiodghiaa
set_option linter.unusedVariables false
set_option linter.unusedSimpArgs false
set_option linter.unnecessarySimpa false
open Go.RowKit
set_option maxRecDepth 100000
set_option maxHeartbeats 4000000

theorem refWrite_of (q : Nat) (n : Int) (vb : Value) (b : List UInt8) (R R' : RD) (e : Nat) (he : R.write n b = (R', e)) (w : World) (hR0 : Rdk w q R) (hsb : ∀ w', Upd q w w' → Sh w' vb b) (hbl : b.length ≤ 140737488355328) (hm : -9223372036854775808 < R.left ∧ R.left ≤ 9223372036854775807) (hs : R.sz ≤ 100000000000) (hlim : -1000000000000 ≤ R.lim ∧ R.lim ≤ 1000000000000) :
  Calls Try.prog 52 #[.pointer (some ⟨q, 0, none⟩), .int .i64 n, vb] w fun r w' => r = .returned (.int .i64 (e : Int)) ∧ Rdk w' q R' ∧ Upd q w w' := by
 have := refWrite_any q n vb b R w hR0 hsb hbl hm hs hlim
 rw [he] at this; exact this
theorem refReplace_of (q : Nat) (n : Int) (vb : Value) (b : List UInt8) (R R' : RD) (e : Nat) (he : R.replace n b = (R', e)) (w : World) (hR0 : Rdk w q R) (hsb : ∀ w', Upd q w w' → Sh w' vb b) (hbl : b.length ≤ 140737488355328) (hm : -9223372036854775808 < R.left ∧ R.left ≤ 9223372036854775807) (hs : R.sz ≤ 100000000000) (hlim : -1000000000000 ≤ R.lim ∧ R.lim ≤ 1000000000000) :
  Calls Try.prog 49 #[.pointer (some ⟨q, 0, none⟩), .int .i64 n, vb] w fun r w' => r = .returned (.int .i64 (e : Int)) ∧ Rdk w' q R' ∧ Upd q w w' := by
 have := refReplace_any q n vb b R w hR0 hsb hbl hm hs hlim
 rw [he] at this; exact this
theorem refSync_of (q : Nat) (n : Int) (R R' : RD) (e : Nat) (he : R.sync n = (R', e)) (w : World) (hR0 : Rdk w q R) (hm : -9223372036854775808 < R.left ∧ R.left ≤ 9223372036854775807) (hs : R.sz ≤ 100000000000) (hlim : -1000000000000 ≤ R.lim ∧ R.lim ≤ 1000000000000) :
  Calls Try.prog 50 #[.pointer (some ⟨q, 0, none⟩), .int .i64 n] w fun r w' => r = .returned (.int .i64 (e : Int)) ∧ Rdk w' q R' ∧ Upd q w w' := by
 have := refSync_any q n R w hR0 hm hs hlim
 rw [he] at this; exact this
theorem refRead_of (q : Nat) (n : Int) (R : RD) (l : List UInt8) (e : Nat) (he : R.read n = (l, e)) (w : World) (hR0 : Rdk w q R) (hs : R.sz ≤ 140737488355328) :
  Calls Try.prog 17 #[.pointer (some ⟨q, 0, none⟩), .int .i64 n] w fun r w' => ∃ v', r = .returned (.tuple #[v', .int .i64 (e : Int)]) ∧ Own w' w.heap.size 5 v' l ∧ Below w.heap.size w w' := by
 have := refRead_any q n R w hR0 hs
 rw [he] at this; exact this
end Go.Proofs.Ytkghkpkiodghiaa
namespace Go.Proofs.Ytkghkpkiodghiaa
set_option linter.unusedVariables false
set_option linter.unusedSimpArgs false
set_option linter.unnecessarySimpa false
open Go.RowKit
set_option maxRecDepth 100000
set_option maxHeartbeats 4000000

def RD.c0 (R : RD) (keep : Int) (tail : List UInt8) : RD := if R.i0 = true then (if 0 < keep then R.fast 0 (R.all 0) else R.fast 0 R.f0) else if 0 < R.m0.length then R.fast 0 (R.f0 ++ R.m0.take (min keep.toNat R.m0.length) ++ tail) else R
def RD.c1 (R : RD) (keep : Int) (tail : List UInt8) : RD := if R.i1 = true then (if 0 < keep then R.fast 1 (R.all 1) else R.fast 1 R.f1) else if 0 < R.m1.length then R.fast 1 (R.f1 ++ R.m1.take (min keep.toNat R.m1.length) ++ tail) else R
def RD.off (R : RD) : RD := { R with armed := false, dead := false }
def RD.crash (R : RD) (keep : Int) (tail : List UInt8) : RD := (R.off.c0 keep tail).c1 keep tail
theorem take_part (f m : List UInt8) (k : Nat) : (f ++ m).take (f.length + k) = f ++ m.take k := by
 rw [List.take_append, List.take_of_length_le (by omega), Nat.add_sub_cancel_left]
theorem c0_spec (R : RD) (keep : Int) (tail : List UInt8) : (R.c0 keep tail).f0 = crashF R.f0 (R.all 0) R.i0 keep tail ∧ (R.c0 keep tail).all 0 = crashF R.f0 (R.all 0) R.i0 keep tail ∧ (R.c0 keep tail).i0 = false ∧ (R.c0 keep tail).f1 = R.f1 ∧ (R.c0 keep tail).m1 = R.m1 ∧ (R.c0 keep tail).o1 = R.o1 ∧ (R.c0 keep tail).i1 = R.i1 ∧ (R.c0 keep tail).lim = R.lim ∧ (R.c0 keep tail).left = R.left ∧ (R.c0 keep tail).armed = R.armed ∧ (R.c0 keep tail).dead = R.dead ∧ (R.c0 keep tail).o0.length ≤ R.o0.length := by
 obtain ⟨f0, f1, m0, m1, o0, o1, i0, i1, lim, left, armed, dead⟩ := R
 unfold RD.c0
 cases i0 with
 | true =>
  rw [if_pos rfl]
  by_cases hk : 0 < keep
  ·rw [if_pos hk]
   have e : crashF f0 (RD.all ⟨f0, f1, m0, m1, o0, o1, true, i1, lim, left, armed, dead⟩ 0) true keep tail = o0 ++ m0 := by
    show crashF f0 (o0 ++ m0) true keep tail = _
    unfold crashF; rw [if_neg (by omega), if_neg (by simp)]
   rw [e]
   exact ⟨rfl, by show (o0 ++ m0) ++ [] = _; simp, rfl, rfl, rfl, rfl, rfl, rfl, rfl, rfl, rfl, Nat.zero_le _⟩
  ·rw [if_neg hk]
   have e : crashF f0 (RD.all ⟨f0, f1, m0, m1, o0, o1, true, i1, lim, left, armed, dead⟩ 0) true keep tail = f0 := by
    unfold crashF; rw [if_pos ⟨rfl, by omega⟩]
   rw [e]
   exact ⟨rfl, by show f0 ++ [] = _; simp, rfl, rfl, rfl, rfl, rfl, rfl, rfl, rfl, rfl, Nat.zero_le _⟩
 | false =>
  rw [if_neg (by simp)]
  have ea : RD.all ⟨f0, f1, m0, m1, o0, o1, false, i1, lim, left, armed, dead⟩ 0 = f0 ++ m0 := rfl
  rw [ea]
  by_cases hm : 0 < m0.length
  ·rw [if_pos hm]
   have e : crashF f0 (f0 ++ m0) false keep tail = f0 ++ m0.take (min keep.toNat m0.length) ++ tail := by
    unfold crashF
    rw [if_neg (by simp), if_pos ⟨rfl, by rw [List.length_append]; omega⟩, List.length_append, Nat.add_sub_cancel_left, take_part]
   rw [e]
   exact ⟨rfl, by show (f0 ++ m0.take (min keep.toNat m0.length) ++ tail) ++ [] = _; simp, rfl, rfl, rfl, rfl, rfl, rfl, rfl, rfl, rfl, Nat.zero_le _⟩
  ·rw [if_neg hm]
   have hm0 : m0 = [] := List.eq_nil_of_length_eq_zero (by omega)
   subst hm0
   have e : crashF f0 (f0 ++ []) false keep tail = f0 := by
    unfold crashF
    rw [if_neg (by simp), if_neg (by simp)]; simp
   rw [e]
   exact ⟨rfl, by show f0 ++ [] = _; simp, rfl, rfl, rfl, rfl, rfl, rfl, rfl, rfl, rfl, Nat.le_refl _⟩
theorem c1_spec (R : RD) (keep : Int) (tail : List UInt8) : (R.c1 keep tail).f1 = crashF R.f1 (R.all 1) R.i1 keep tail ∧ (R.c1 keep tail).all 1 = crashF R.f1 (R.all 1) R.i1 keep tail ∧ (R.c1 keep tail).i1 = false ∧ (R.c1 keep tail).f0 = R.f0 ∧ (R.c1 keep tail).m0 = R.m0 ∧ (R.c1 keep tail).o0 = R.o0 ∧ (R.c1 keep tail).i0 = R.i0 ∧ (R.c1 keep tail).lim = R.lim ∧ (R.c1 keep tail).left = R.left ∧ (R.c1 keep tail).armed = R.armed ∧ (R.c1 keep tail).dead = R.dead ∧ (R.c1 keep tail).o1.length ≤ R.o1.length := by
 obtain ⟨f0, f1, m0, m1, o0, o1, i0, i1, lim, left, armed, dead⟩ := R
 unfold RD.c1
 cases i1 with
 | true =>
  rw [if_pos rfl]
  by_cases hk : 0 < keep
  ·rw [if_pos hk]
   have e : crashF f1 (RD.all ⟨f0, f1, m0, m1, o0, o1, i0, true, lim, left, armed, dead⟩ 1) true keep tail = o1 ++ m1 := by
    show crashF f1 (o1 ++ m1) true keep tail = _
    unfold crashF; rw [if_neg (by omega), if_neg (by simp)]
   rw [e]
   exact ⟨rfl, by show (o1 ++ m1) ++ [] = _; simp, rfl, rfl, rfl, rfl, rfl, rfl, rfl, rfl, rfl, Nat.zero_le _⟩
  ·rw [if_neg hk]
   have e : crashF f1 (RD.all ⟨f0, f1, m0, m1, o0, o1, i0, true, lim, left, armed, dead⟩ 1) true keep tail = f1 := by
    unfold crashF; rw [if_pos ⟨rfl, by omega⟩]
   rw [e]
   exact ⟨rfl, by show f1 ++ [] = _; simp, rfl, rfl, rfl, rfl, rfl, rfl, rfl, rfl, rfl, Nat.zero_le _⟩
 | false =>
  rw [if_neg (by simp)]
  have ea : RD.all ⟨f0, f1, m0, m1, o0, o1, i0, false, lim, left, armed, dead⟩ 1 = f1 ++ m1 := rfl
  rw [ea]
  by_cases hm : 0 < m1.length
  ·rw [if_pos hm]
   have e : crashF f1 (f1 ++ m1) false keep tail = f1 ++ m1.take (min keep.toNat m1.length) ++ tail := by
    unfold crashF
    rw [if_neg (by simp), if_pos ⟨rfl, by rw [List.length_append]; omega⟩, List.length_append, Nat.add_sub_cancel_left, take_part]
   rw [e]
   exact ⟨rfl, by show (f1 ++ m1.take (min keep.toNat m1.length) ++ tail) ++ [] = _; simp, rfl, rfl, rfl, rfl, rfl, rfl, rfl, rfl, rfl, Nat.zero_le _⟩
  ·rw [if_neg hm]
   have hm0 : m1 = [] := List.eq_nil_of_length_eq_zero (by omega)
   subst hm0
   have e : crashF f1 (f1 ++ []) false keep tail = f1 := by
    unfold crashF
    rw [if_neg (by simp), if_neg (by simp)]; simp
   rw [e]
   exact ⟨rfl, by show f1 ++ [] = _; simp, rfl, rfl, rfl, rfl, rfl, rfl, rfl, rfl, rfl, Nat.le_refl _⟩
theorem crashF_small (f n : List UInt8) (r : Bool) (keep : Int) (tail : List UInt8) (TT : Nat) (hf : f.length ≤ TT) (hn : n.length ≤ TT) : (crashF f n r keep tail).length ≤ TT + tail.length := by
 unfold crashF
 split
 ·omega
 ·split
  ·rw [List.length_append, List.length_take]; omega
  ·omega
theorem all1_of (R R' : RD) (h1 : R'.f1 = R.f1) (h2 : R'.m1 = R.m1) (h3 : R'.o1 = R.o1) (h4 : R'.i1 = R.i1) : R'.all 1 = R.all 1 := by
 show (if R'.i1 = true then R'.o1 else R'.f1) ++ R'.m1 = (if R.i1 = true then R.o1 else R.f1) ++ R.m1
 rw [h1, h2, h3, h4]
theorem all0_of (R R' : RD) (h1 : R'.f0 = R.f0) (h2 : R'.m0 = R.m0) (h3 : R'.o0 = R.o0) (h4 : R'.i0 = R.i0) : R'.all 0 = R.all 0 := by
 show (if R'.i0 = true then R'.o0 else R'.f0) ++ R'.m0 = (if R.i0 = true then R.o0 else R.f0) ++ R.m0
 rw [h1, h2, h3, h4]
theorem Sim.crash {S : PD} {R : RD} (h : Sim S R) (keep : Int) (tail : List UInt8) : Sim (S.crash keep tail) (R.crash keep tail) := by
 obtain ⟨a1, a2, a3, a4, a5, a6, a7, a8, a9, a10, a11, -⟩ := c0_spec R.off keep tail
 obtain ⟨b1, b2, b3, b4, b5, b6, b7, b8, b9, b10, b11, -⟩ := c1_spec (R.off.c0 keep tail) keep tail
 have e1 : (R.off.c0 keep tail).all 1 = R.all 1 := all1_of _ _ a4 a5 a6 a7
 have e2 : (R.crash keep tail).all 0 = (R.off.c0 keep tail).all 0 := all0_of _ _ b4 b5 b6 b7
 have f0e : crashF R.off.f0 (R.off.all 0) R.off.i0 keep tail = crashF S.f0 S.n0 S.r0 keep tail := by rw [h.f0, h.n0, h.r0]; rfl
 have f1e : crashF (R.off.c0 keep tail).f1 ((R.off.c0 keep tail).all 1) (R.off.c0 keep tail).i1 keep tail = crashF S.f1 S.n1 S.r1 keep tail := by rw [e1, a4, a7, h.f1, h.n1, h.r1]; rfl
 refine ⟨?_, ?_, ?_, ?_, ?_, ?_, ?_, ?_, .inr ⟨?_, by show (-1 : Int) < 0; decide⟩⟩
 ·show crashF S.f0 S.n0 S.r0 keep tail = (R.crash keep tail).f0
  rw [show (R.crash keep tail).f0 = (R.off.c0 keep tail).f0 from b4, a1, f0e]
 ·show crashF S.f1 S.n1 S.r1 keep tail = (R.crash keep tail).f1
  rw [show (R.crash keep tail).f1 = _ from b1, f1e]
 ·show crashF S.f0 S.n0 S.r0 keep tail = _
  rw [e2, a2, f0e]
 ·show crashF S.f1 S.n1 S.r1 keep tail = _
  rw [show (R.crash keep tail).all 1 = _ from b2, f1e]
 ·show false = _
  rw [show (R.crash keep tail).i0 = _ from b7, a3]
 ·show false = _
  rw [show (R.crash keep tail).i1 = _ from b3]
 ·show S.lim = _
  rw [show (R.crash keep tail).lim = _ from b8, a8, h.lim]; rfl
 ·show false = _
  rw [show (R.crash keep tail).dead = _ from b11, a11]; rfl
 ·rw [show (R.crash keep tail).armed = _ from b10, a10]; rfl
theorem Bd.crash {R : RD} {TT : Nat} (h : Bd R TT) (keep : Int) (tail : List UInt8) : Bd (R.crash keep tail) (TT + tail.length) := by
 obtain ⟨a1, a2, a3, a4, a5, a6, a7, a8, a9, a10, a11, a12⟩ := c0_spec R.off keep tail
 obtain ⟨b1, b2, b3, b4, b5, b6, b7, b8, b9, b10, b11, b12⟩ := c1_spec (R.off.c0 keep tail) keep tail
 have e1 : (R.off.c0 keep tail).all 1 = R.all 1 := all1_of _ _ a4 a5 a6 a7
 have e2 : (R.crash keep tail).all 0 = (R.off.c0 keep tail).all 0 := all0_of _ _ b4 b5 b6 b7
 have k0 := crashF_small R.off.f0 (R.off.all 0) R.off.i0 keep tail TT h.f0 h.a0
 have k1 := crashF_small (R.off.c0 keep tail).f1 ((R.off.c0 keep tail).all 1) (R.off.c0 keep tail).i1 keep tail TT (by rw [a4]; exact h.f1) (by rw [e1]; exact h.a1)
 have o0 : R.off.o0.length ≤ TT := h.o0
 have o1 : R.off.o1.length ≤ TT := h.o1
 refine ⟨?_, ?_, ?_, ?_, ?_, ?_⟩
 ·rw [show (R.crash keep tail).f0 = (R.off.c0 keep tail).f0 from b4, a1]; exact k0
 ·rw [show (R.crash keep tail).f1 = _ from b1]; exact k1
 ·rw [e2, a2]; exact k0
 ·rw [show (R.crash keep tail).all 1 = _ from b2]; exact k1
 ·rw [show (R.crash keep tail).o0 = _ from b6]; omega
 ·have : (R.crash keep tail).o1.length ≤ (R.off.c0 keep tail).o1.length := b12
  rw [a6] at this; omega
theorem lim_crash (R : RD) (keep : Int) (tail : List UInt8) : (R.crash keep tail).lim = R.lim := by
 obtain ⟨a1, a2, a3, a4, a5, a6, a7, a8, a9, a10, a11, -⟩ := c0_spec R.off keep tail
 obtain ⟨b1, b2, b3, b4, b5, b6, b7, b8, b9, b10, b11, -⟩ := c1_spec (R.off.c0 keep tail) keep tail
 rw [show (R.crash keep tail).lim = _ from b8, a8]; rfl
theorem left_crash (R : RD) (keep : Int) (tail : List UInt8) : (R.crash keep tail).left = R.left := by
 obtain ⟨a1, a2, a3, a4, a5, a6, a7, a8, a9, a10, a11, -⟩ := c0_spec R.off keep tail
 obtain ⟨b1, b2, b3, b4, b5, b6, b7, b8, b9, b10, b11, -⟩ := c1_spec (R.off.c0 keep tail) keep tail
 rw [show (R.crash keep tail).left = _ from b9, a9]; rfl
end Go.Proofs.Ytkghkpkiodghiaa
