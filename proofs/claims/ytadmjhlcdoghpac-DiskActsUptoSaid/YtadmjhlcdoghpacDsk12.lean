/- The disk: the document's Crash, plainly. (printed by gen/dsk12.py) -/
import Derived.Test.YtadmjhlcdoghpacDsk9
namespace Go.Proofs.Ytadmjhlcdoghpac
set_option linter.unusedVariables false
set_option linter.unusedSimpArgs false
set_option linter.unnecessarySimpa false
open Go.RowKit
set_option maxRecDepth 100000
set_option maxHeartbeats 4000000

def RD.c0 (R : RD) (keep : Int) (tail : List UInt8) : RD := if R.i0 = true then (if 0 < keep then R.fast 0 (R.all 0) else R.fast 0 R.f0) else if 0 < R.m0.length then R.fast 0 (R.f0 ++ R.m0.take (min keep.toNat R.m0.length) ++ tail) else R
def RD.c1 (R : RD) (keep : Int) (tail : List UInt8) : RD := if R.i1 = true then (if 0 < keep then R.fast 1 (R.all 1) else R.fast 1 R.f1) else if 0 < R.m1.length then R.fast 1 (R.f1 ++ R.m1.take (min keep.toNat R.m1.length) ++ tail) else R
def RD.off (R : RD) : RD := { R with armed := false, dead := false }
def RD.crash (R : RD) (keep : Int) (tail : List UInt8) : RD := (R.off.c0 keep tail).c1 keep tail
theorem take_part (f m : List UInt8) (k : Nat) : (f ++ m).take (f.length + k) = f ++ m.take k := by
  rw [List.take_append, List.take_of_length_le (by omega), Nat.add_sub_cancel_left]
theorem c0_spec (R : RD) (keep : Int) (tail : List UInt8) : (R.c0 keep tail).f0 = crashF R.f0 (R.all 0) R.i0 keep tail ∧ (R.c0 keep tail).all 0 = crashF R.f0 (R.all 0) R.i0 keep tail ∧ (R.c0 keep tail).i0 = false ∧ (R.c0 keep tail).f1 = R.f1 ∧ (R.c0 keep tail).m1 = R.m1 ∧ (R.c0 keep tail).o1 = R.o1 ∧ (R.c0 keep tail).i1 = R.i1 ∧ (R.c0 keep tail).lim = R.lim ∧ (R.c0 keep tail).left = R.left ∧ (R.c0 keep tail).armed = R.armed ∧ (R.c0 keep tail).dead = R.dead ∧ (R.c0 keep tail).o0.length ≤ R.o0.length := by
  obtain ⟨f0, f1, m0, m1, o0, o1, i0, i1, lim, left, armed, dead⟩ := R
  unfold RD.c0
  cases i0 with
  | true =>
    rw [if_pos rfl]
    by_cases hk : 0 < keep
    · rw [if_pos hk]
      have e : crashF f0 (RD.all ⟨f0, f1, m0, m1, o0, o1, true, i1, lim, left, armed, dead⟩ 0) true keep tail = o0 ++ m0 := by
        show crashF f0 (o0 ++ m0) true keep tail = _
        unfold crashF; rw [if_neg (by omega), if_neg (by simp)]
      rw [e]
      exact ⟨rfl, by show (o0 ++ m0) ++ [] = _; simp, rfl, rfl, rfl, rfl, rfl, rfl, rfl, rfl, rfl, Nat.zero_le _⟩
    · rw [if_neg hk]
      have e : crashF f0 (RD.all ⟨f0, f1, m0, m1, o0, o1, true, i1, lim, left, armed, dead⟩ 0) true keep tail = f0 := by
        unfold crashF; rw [if_pos ⟨rfl, by omega⟩]
      rw [e]
      exact ⟨rfl, by show f0 ++ [] = _; simp, rfl, rfl, rfl, rfl, rfl, rfl, rfl, rfl, rfl, Nat.zero_le _⟩
  | false =>
    rw [if_neg (by simp)]
    have ea : RD.all ⟨f0, f1, m0, m1, o0, o1, false, i1, lim, left, armed, dead⟩ 0 = f0 ++ m0 := rfl
    rw [ea]
    by_cases hm : 0 < m0.length
    · rw [if_pos hm]
      have e : crashF f0 (f0 ++ m0) false keep tail = f0 ++ m0.take (min keep.toNat m0.length) ++ tail := by
        unfold crashF
        rw [if_neg (by simp), if_pos ⟨rfl, by rw [List.length_append]; omega⟩, List.length_append, Nat.add_sub_cancel_left, take_part]
      rw [e]
      exact ⟨rfl, by show (f0 ++ m0.take (min keep.toNat m0.length) ++ tail) ++ [] = _; simp, rfl, rfl, rfl, rfl, rfl, rfl, rfl, rfl, rfl, Nat.zero_le _⟩
    · rw [if_neg hm]
      have hm0 : m0 = [] := List.eq_nil_of_length_eq_zero (by omega)
      subst hm0
      have e : crashF f0 (f0 ++ []) false keep tail = f0 := by
        unfold crashF
        rw [if_neg (by simp), if_neg (by simp)]; simp
      rw [e]
      exact ⟨rfl, by show f0 ++ [] = _; simp, rfl, rfl, rfl, rfl, rfl, rfl, rfl, rfl, rfl, Nat.le_refl _⟩
theorem c1_spec (R : RD) (keep : Int) (tail : List UInt8) : (R.c1 keep tail).f1 = crashF R.f1 (R.all 1) R.i1 keep tail ∧ (R.c1 keep tail).all 1 = crashF R.f1 (R.all 1) R.i1 keep tail ∧ (R.c1 keep tail).i1 = false ∧ (R.c1 keep tail).f0 = R.f0 ∧ (R.c1 keep tail).m0 = R.m0 ∧ (R.c1 keep tail).o0 = R.o0 ∧ (R.c1 keep tail).i0 = R.i0 ∧ (R.c1 keep tail).lim = R.lim ∧ (R.c1 keep tail).left = R.left ∧ (R.c1 keep tail).armed = R.armed ∧ (R.c1 keep tail).dead = R.dead ∧ (R.c1 keep tail).o1.length ≤ R.o1.length := by
  obtain ⟨f0, f1, m0, m1, o0, o1, i0, i1, lim, left, armed, dead⟩ := R
  unfold RD.c1
  cases i1 with
  | true =>
    rw [if_pos rfl]
    by_cases hk : 0 < keep
    · rw [if_pos hk]
      have e : crashF f1 (RD.all ⟨f0, f1, m0, m1, o0, o1, i0, true, lim, left, armed, dead⟩ 1) true keep tail = o1 ++ m1 := by
        show crashF f1 (o1 ++ m1) true keep tail = _
        unfold crashF; rw [if_neg (by omega), if_neg (by simp)]
      rw [e]
      exact ⟨rfl, by show (o1 ++ m1) ++ [] = _; simp, rfl, rfl, rfl, rfl, rfl, rfl, rfl, rfl, rfl, Nat.zero_le _⟩
    · rw [if_neg hk]
      have e : crashF f1 (RD.all ⟨f0, f1, m0, m1, o0, o1, i0, true, lim, left, armed, dead⟩ 1) true keep tail = f1 := by
        unfold crashF; rw [if_pos ⟨rfl, by omega⟩]
      rw [e]
      exact ⟨rfl, by show f1 ++ [] = _; simp, rfl, rfl, rfl, rfl, rfl, rfl, rfl, rfl, rfl, Nat.zero_le _⟩
  | false =>
    rw [if_neg (by simp)]
    have ea : RD.all ⟨f0, f1, m0, m1, o0, o1, i0, false, lim, left, armed, dead⟩ 1 = f1 ++ m1 := rfl
    rw [ea]
    by_cases hm : 0 < m1.length
    · rw [if_pos hm]
      have e : crashF f1 (f1 ++ m1) false keep tail = f1 ++ m1.take (min keep.toNat m1.length) ++ tail := by
        unfold crashF
        rw [if_neg (by simp), if_pos ⟨rfl, by rw [List.length_append]; omega⟩, List.length_append, Nat.add_sub_cancel_left, take_part]
      rw [e]
      exact ⟨rfl, by show (f1 ++ m1.take (min keep.toNat m1.length) ++ tail) ++ [] = _; simp, rfl, rfl, rfl, rfl, rfl, rfl, rfl, rfl, rfl, Nat.zero_le _⟩
    · rw [if_neg hm]
      have hm0 : m1 = [] := List.eq_nil_of_length_eq_zero (by omega)
      subst hm0
      have e : crashF f1 (f1 ++ []) false keep tail = f1 := by
        unfold crashF
        rw [if_neg (by simp), if_neg (by simp)]; simp
      rw [e]
      exact ⟨rfl, by show f1 ++ [] = _; simp, rfl, rfl, rfl, rfl, rfl, rfl, rfl, rfl, rfl, Nat.le_refl _⟩
theorem crashF_small (f n : List UInt8) (r : Bool) (keep : Int) (tail : List UInt8) (TT : Nat) (hf : f.length ≤ TT) (hn : n.length ≤ TT) : (crashF f n r keep tail).length ≤ TT + tail.length := by
  unfold crashF
  split
  · omega
  · split
    · rw [List.length_append, List.length_take]; omega
    · omega
theorem all1_of (R R' : RD) (h1 : R'.f1 = R.f1) (h2 : R'.m1 = R.m1) (h3 : R'.o1 = R.o1) (h4 : R'.i1 = R.i1) : R'.all 1 = R.all 1 := by
  show (if R'.i1 = true then R'.o1 else R'.f1) ++ R'.m1 = (if R.i1 = true then R.o1 else R.f1) ++ R.m1
  rw [h1, h2, h3, h4]
theorem all0_of (R R' : RD) (h1 : R'.f0 = R.f0) (h2 : R'.m0 = R.m0) (h3 : R'.o0 = R.o0) (h4 : R'.i0 = R.i0) : R'.all 0 = R.all 0 := by
  show (if R'.i0 = true then R'.o0 else R'.f0) ++ R'.m0 = (if R.i0 = true then R.o0 else R.f0) ++ R.m0
  rw [h1, h2, h3, h4]
theorem Sim.crash {S : PD} {R : RD} (h : Sim S R) (keep : Int) (tail : List UInt8) : Sim (S.crash keep tail) (R.crash keep tail) := by
  obtain ⟨a1, a2, a3, a4, a5, a6, a7, a8, a9, a10, a11, -⟩ := c0_spec R.off keep tail
  obtain ⟨b1, b2, b3, b4, b5, b6, b7, b8, b9, b10, b11, -⟩ := c1_spec (R.off.c0 keep tail) keep tail
  have e1 : (R.off.c0 keep tail).all 1 = R.all 1 := all1_of _ _ a4 a5 a6 a7
  have e2 : (R.crash keep tail).all 0 = (R.off.c0 keep tail).all 0 := all0_of _ _ b4 b5 b6 b7
  have f0e : crashF R.off.f0 (R.off.all 0) R.off.i0 keep tail = crashF S.f0 S.n0 S.r0 keep tail := by rw [h.f0, h.n0, h.r0]; rfl
  have f1e : crashF (R.off.c0 keep tail).f1 ((R.off.c0 keep tail).all 1) (R.off.c0 keep tail).i1 keep tail = crashF S.f1 S.n1 S.r1 keep tail := by rw [e1, a4, a7, h.f1, h.n1, h.r1]; rfl
  refine ⟨?_, ?_, ?_, ?_, ?_, ?_, ?_, ?_, .inr ⟨?_, by show (-1 : Int) < 0; decide⟩⟩
  · show crashF S.f0 S.n0 S.r0 keep tail = (R.crash keep tail).f0
    rw [show (R.crash keep tail).f0 = (R.off.c0 keep tail).f0 from b4, a1, f0e]
  · show crashF S.f1 S.n1 S.r1 keep tail = (R.crash keep tail).f1
    rw [show (R.crash keep tail).f1 = _ from b1, f1e]
  · show crashF S.f0 S.n0 S.r0 keep tail = _
    rw [e2, a2, f0e]
  · show crashF S.f1 S.n1 S.r1 keep tail = _
    rw [show (R.crash keep tail).all 1 = _ from b2, f1e]
  · show false = _
    rw [show (R.crash keep tail).i0 = _ from b7, a3]
  · show false = _
    rw [show (R.crash keep tail).i1 = _ from b3]
  · show S.lim = _
    rw [show (R.crash keep tail).lim = _ from b8, a8, h.lim]; rfl
  · show false = _
    rw [show (R.crash keep tail).dead = _ from b11, a11]; rfl
  · rw [show (R.crash keep tail).armed = _ from b10, a10]; rfl
theorem Bd.crash {R : RD} {TT : Nat} (h : Bd R TT) (keep : Int) (tail : List UInt8) : Bd (R.crash keep tail) (TT + tail.length) := by
  obtain ⟨a1, a2, a3, a4, a5, a6, a7, a8, a9, a10, a11, a12⟩ := c0_spec R.off keep tail
  obtain ⟨b1, b2, b3, b4, b5, b6, b7, b8, b9, b10, b11, b12⟩ := c1_spec (R.off.c0 keep tail) keep tail
  have e1 : (R.off.c0 keep tail).all 1 = R.all 1 := all1_of _ _ a4 a5 a6 a7
  have e2 : (R.crash keep tail).all 0 = (R.off.c0 keep tail).all 0 := all0_of _ _ b4 b5 b6 b7
  have k0 := crashF_small R.off.f0 (R.off.all 0) R.off.i0 keep tail TT h.f0 h.a0
  have k1 := crashF_small (R.off.c0 keep tail).f1 ((R.off.c0 keep tail).all 1) (R.off.c0 keep tail).i1 keep tail TT (by rw [a4]; exact h.f1) (by rw [e1]; exact h.a1)
  have o0 : R.off.o0.length ≤ TT := h.o0
  have o1 : R.off.o1.length ≤ TT := h.o1
  refine ⟨?_, ?_, ?_, ?_, ?_, ?_⟩
  · rw [show (R.crash keep tail).f0 = (R.off.c0 keep tail).f0 from b4, a1]; exact k0
  · rw [show (R.crash keep tail).f1 = _ from b1]; exact k1
  · rw [e2, a2]; exact k0
  · rw [show (R.crash keep tail).all 1 = _ from b2]; exact k1
  · rw [show (R.crash keep tail).o0 = _ from b6]; omega
  · have : (R.crash keep tail).o1.length ≤ (R.off.c0 keep tail).o1.length := b12
    rw [a6] at this; omega
theorem lim_crash (R : RD) (keep : Int) (tail : List UInt8) : (R.crash keep tail).lim = R.lim := by
  obtain ⟨a1, a2, a3, a4, a5, a6, a7, a8, a9, a10, a11, -⟩ := c0_spec R.off keep tail
  obtain ⟨b1, b2, b3, b4, b5, b6, b7, b8, b9, b10, b11, -⟩ := c1_spec (R.off.c0 keep tail) keep tail
  rw [show (R.crash keep tail).lim = _ from b8, a8]; rfl
theorem left_crash (R : RD) (keep : Int) (tail : List UInt8) : (R.crash keep tail).left = R.left := by
  obtain ⟨a1, a2, a3, a4, a5, a6, a7, a8, a9, a10, a11, -⟩ := c0_spec R.off keep tail
  obtain ⟨b1, b2, b3, b4, b5, b6, b7, b8, b9, b10, b11, -⟩ := c1_spec (R.off.c0 keep tail) keep tail
  rw [show (R.crash keep tail).left = _ from b9, a9]; rfl
end Go.Proofs.Ytadmjhlcdoghpac
