/- The disk: both disks' states, plainly: they answer alike. -/
import Derived.Test.YtadmjhlcdoghpacDsk8
namespace Go.Proofs.Ytadmjhlcdoghpac
set_option linter.unusedVariables false
set_option linter.unusedSimpArgs false
set_option linter.unnecessarySimpa false

structure Sim (S : PD) (R : RD) : Prop where
  f0 : S.f0 = R.f0
  f1 : S.f1 = R.f1
  n0 : S.n0 = R.all 0
  n1 : S.n1 = R.all 1
  r0 : S.r0 = R.i0
  r1 : S.r1 = R.i1
  lim : S.lim = R.lim
  dead : S.dead = R.dead
  left : (R.armed = true ∧ S.left = R.left ∧ 0 ≤ R.left) ∨ (R.armed = false ∧ S.left < 0)
theorem Sim.new (lim : Int) : Sim ⟨[], [], false, [], [], false, lim, -1, false⟩ ⟨[], [], [], [], [], [], false, false, lim, 0, false, false⟩ :=
  ⟨rfl, rfl, rfl, rfl, rfl, rfl, rfl, rfl, .inr ⟨rfl, by simp⟩⟩
theorem Sim.bad {S : PD} {R : RD} (h : Sim S R) : (S.dead = true ∨ S.left = 0) ↔ (R.dead = true ∨ (R.armed = true ∧ R.left = 0)) := by
  rw [h.dead]
  rcases h.left with ⟨h1, h2, h3⟩ | ⟨h1, h2⟩
  · rw [h1, h2]; simp
  · rw [h1]
    constructor
    · rintro (h | h)
      · exact .inl h
      · omega
    · rintro (h | h)
      · exact .inl h
      · simp at h
theorem Sim.kill {S : PD} {R : RD} (h : Sim S R) : Sim S.kill R.kill := ⟨h.f0, h.f1, h.n0, h.n1, h.r0, h.r1, h.lim, rfl, h.left⟩
theorem Sim.tick {S : PD} {R : RD} (h : Sim S R) (hb : ¬ (R.dead = true ∨ (R.armed = true ∧ R.left = 0))) : Sim S.tick R.tick := by
  refine ⟨h.f0, h.f1, h.n0, h.n1, h.r0, h.r1, h.lim, h.dead, ?_⟩
  have hl : S.tick.left = leftC S.left := rfl
  have hr : R.tick.left = R.left - 1 := rfl
  have ha : R.tick.armed = R.armed := rfl
  rw [hl, hr, ha]
  unfold leftC
  rcases h.left with ⟨h1, h2, h3⟩ | ⟨h1, h2⟩
  · have h0 : R.left ≠ 0 := fun e => hb (.inr ⟨h1, e⟩)
    left
    refine ⟨h1, ?_, by omega⟩
    rw [if_pos (by omega)]; omega
  · right
    refine ⟨h1, ?_⟩
    rw [if_neg (by omega)]; exact h2
theorem Sim.tot {S : PD} {R : RD} (h : Sim S R) : S.tot = (((R.all 0).length + (R.all 1).length : Nat) : Int) := by unfold PD.tot; rw [h.n0, h.n1]
theorem Sim.write {S : PD} {R : RD} (h : Sim S R) (n : Int) (b : List UInt8) : (S.write n b).2 = (R.write n b).2 ∧ Sim (S.write n b).1 (R.write n b).1 := by
  unfold PD.write RD.write
  by_cases hb : R.dead = true ∨ (R.armed = true ∧ R.left = 0)
  · rw [if_pos (h.bad.2 hb), if_pos hb]; exact ⟨rfl, h.kill⟩
  · rw [if_neg (fun x => hb (h.bad.1 x)), if_neg hb]
    by_cases ha : n < 0 ∨ 1 < n
    · rw [if_pos ha, if_pos ha]; exact ⟨rfl, h.tick hb⟩
    · rw [if_neg ha, if_neg ha, h.lim, h.tot]
      by_cases hf : R.lim - (((R.all 0).length + (R.all 1).length : Nat) : Int) < (b.length : Int)
      · rw [if_pos hf, if_pos hf]; exact ⟨rfl, h.tick hb⟩
      · rw [if_neg hf, if_neg hf]
        have t := h.tick hb
        by_cases h0 : n = 0
        · rw [if_pos h0, if_pos h0]
          refine ⟨rfl, t.f0, t.f1, ?_, t.n1, t.r0, t.r1, t.lim, t.dead, t.left⟩
          show S.n0 ++ b = (if R.i0 = true then R.o0 else R.f0) ++ (R.m0 ++ b)
          rw [h.n0]; exact List.append_assoc _ _ _
        · rw [if_neg h0, if_neg h0]
          refine ⟨rfl, t.f0, t.f1, t.n0, ?_, t.r0, t.r1, t.lim, t.dead, t.left⟩
          show S.n1 ++ b = (if R.i1 = true then R.o1 else R.f1) ++ (R.m1 ++ b)
          rw [h.n1]; exact List.append_assoc _ _ _
theorem Sim.replace {S : PD} {R : RD} (h : Sim S R) (n : Int) (b : List UInt8) : (S.replace n b).2 = (R.replace n b).2 ∧ Sim (S.replace n b).1 (R.replace n b).1 := by
  unfold PD.replace RD.replace
  by_cases hb : R.dead = true ∨ (R.armed = true ∧ R.left = 0)
  · rw [if_pos (h.bad.2 hb), if_pos hb]; exact ⟨rfl, h.kill⟩
  · rw [if_neg (fun x => hb (h.bad.1 x)), if_neg hb]
    by_cases ha : n < 0 ∨ 1 < n
    · rw [if_pos ha, if_pos ha]; exact ⟨rfl, h.tick hb⟩
    · rw [if_neg ha, if_neg ha, h.lim, h.tot]
      have e : (((R.all 0).length + (R.all 1).length : Nat) : Int) - ((if n = 0 then S.n0 else S.n1).length : Int) = ((R.all (if n = 0 then 1 else 0)).length : Int) := by
        by_cases h0 : n = 0
        · rw [if_pos h0, if_pos h0, h.n0]; omega
        · rw [if_neg h0, if_neg h0, h.n1]; omega
      rw [e]
      by_cases hf : R.lim - ((R.all (if n = 0 then 1 else 0)).length : Int) < (b.length : Int)
      · rw [if_pos hf, if_pos hf]; exact ⟨rfl, h.tick hb⟩
      · rw [if_neg hf, if_neg hf]
        have t := h.tick hb
        by_cases h0 : n = 0
        · rw [if_pos h0, if_pos h0]
          refine ⟨rfl, t.f0, t.f1, ?_, t.n1, rfl, t.r1, t.lim, t.dead, t.left⟩
          show b = (if true = true then b else R.f0) ++ []
          simp
        · rw [if_neg h0, if_neg h0]
          refine ⟨rfl, t.f0, t.f1, t.n0, ?_, t.r0, rfl, t.lim, t.dead, t.left⟩
          show b = (if true = true then b else R.f1) ++ []
          simp
theorem Sim.sync {S : PD} {R : RD} (h : Sim S R) (n : Int) : (S.sync n).2 = (R.sync n).2 ∧ Sim (S.sync n).1 (R.sync n).1 := by
  unfold PD.sync RD.sync
  by_cases hb : R.dead = true ∨ (R.armed = true ∧ R.left = 0)
  · rw [if_pos (h.bad.2 hb), if_pos hb]; exact ⟨rfl, h.kill⟩
  · rw [if_neg (fun x => hb (h.bad.1 x)), if_neg hb]
    by_cases ha : n < 0 ∨ 1 < n
    · rw [if_pos ha, if_pos ha]; exact ⟨rfl, h.tick hb⟩
    · rw [if_neg ha, if_neg ha]
      have t := h.tick hb
      have hn : n = 0 ∨ n = 1 := by omega
      rcases hn with rfl | rfl
      · refine ⟨rfl, ?_, t.f1, ?_, t.n1, rfl, t.r1, t.lim, t.dead, t.left⟩
        · show S.n0 = R.all 0
          exact h.n0
        · show S.n0 = (if false = true then [] else R.all 0) ++ []
          rw [h.n0]; simp
      · refine ⟨rfl, t.f0, ?_, t.n0, ?_, t.r0, rfl, t.lim, t.dead, t.left⟩
        · show S.n1 = R.all 1
          exact h.n1
        · show S.n1 = (if false = true then [] else R.all 1) ++ []
          rw [h.n1]; simp
theorem Sim.read {S : PD} {R : RD} (h : Sim S R) (n : Int) : S.read n = R.read n := by
  unfold PD.read RD.read
  rw [h.dead]
  by_cases hd : R.dead = true
  · rw [if_pos hd, if_pos hd]
  · rw [if_neg hd, if_neg hd]
    by_cases ha : n < 0 ∨ 1 < n
    · rw [if_pos ha, if_pos ha]
    · rw [if_neg ha, if_neg ha]
      have hn : n = 0 ∨ n = 1 := by omega
      rcases hn with rfl | rfl
      · rw [if_pos rfl, h.n0]; rfl
      · rw [if_neg (by decide), h.n1]; rfl
theorem Sim.arm {S : PD} {R : RD} (h : Sim S R) (n : Int) : Sim { S with left := if n < 0 then 0 else n } { R with armed := true, left := if n < 0 then 0 else n } := by
  refine ⟨h.f0, h.f1, h.n0, h.n1, h.r0, h.r1, h.lim, h.dead, .inl ⟨rfl, rfl, ?_⟩⟩
  show 0 ≤ (if n < 0 then 0 else n)
  split <;> omega
/-- A call. -/
structure AD where
  K : Int
  F : Int
  N : Int
  B : List UInt8
def PD.act (S : PD) (a : AD) : PD := if a.K = 0 then (S.write a.F a.B).1 else if a.K = 1 then (S.replace a.F a.B).1 else if a.K = 2 then (S.sync a.F).1 else if a.K = 4 then { S with left := if a.N < 0 then 0 else a.N } else S
def RD.act (R : RD) (a : AD) : RD := if a.K = 0 then (R.write a.F a.B).1 else if a.K = 1 then (R.replace a.F a.B).1 else if a.K = 2 then (R.sync a.F).1 else if a.K = 4 then { R with armed := true, left := if a.N < 0 then 0 else a.N } else R
theorem Sim.act {S : PD} {R : RD} (h : Sim S R) (a : AD) : Sim (S.act a) (R.act a) := by
  unfold PD.act RD.act
  split
  · exact (h.write _ _).2
  · split
    · exact (h.replace _ _).2
    · split
      · exact (h.sync _).2
      · split
        · exact h.arm _
        · exact h
/-- How much the document's disk holds. -/
structure Bd (R : RD) (T : Nat) : Prop where
  f0 : R.f0.length ≤ T
  f1 : R.f1.length ≤ T
  a0 : (R.all 0).length ≤ T
  a1 : (R.all 1).length ≤ T
  o0 : R.o0.length ≤ T
  o1 : R.o1.length ≤ T
theorem m0_le (R : RD) : R.m0.length ≤ (R.all 0).length := by unfold RD.all; rw [if_pos rfl, List.length_append]; omega
theorem m1_le (R : RD) : R.m1.length ≤ (R.all 1).length := by unfold RD.all; rw [if_neg (by decide), List.length_append]; omega
theorem Bd.sz {R : RD} {T : Nat} (h : Bd R T) : R.sz ≤ 6 * T := by
  have h1 := h.f0; have h2 := h.f1; have h3 := h.a0; have h4 := h.a1; have h5 := h.o0; have h6 := h.o1
  have h7 := m0_le R; have h8 := m1_le R
  unfold RD.sz; omega
theorem Bd.kill {R : RD} {T : Nat} (h : Bd R T) : Bd R.kill T := ⟨h.f0, h.f1, h.a0, h.a1, h.o0, h.o1⟩
theorem Bd.tick {R : RD} {T : Nat} (h : Bd R T) : Bd R.tick T := ⟨h.f0, h.f1, h.a0, h.a1, h.o0, h.o1⟩
theorem all0_write (R : RD) (b : List UInt8) : ({ R.tick with m0 := R.m0 ++ b } : RD).all 0 = R.all 0 ++ b := by
  show (if R.i0 = true then R.o0 else R.f0) ++ (R.m0 ++ b) = _
  exact (List.append_assoc _ _ _).symm
theorem all1_write (R : RD) (b : List UInt8) : ({ R.tick with m1 := R.m1 ++ b } : RD).all 1 = R.all 1 ++ b := by
  show (if R.i1 = true then R.o1 else R.f1) ++ (R.m1 ++ b) = _
  exact (List.append_assoc _ _ _).symm
theorem Bd.write {R : RD} {T : Nat} (h : Bd R T) (hT : R.lim ≤ (T : Int)) (n : Int) (b : List UInt8) : Bd (R.write n b).1 T := by
  unfold RD.write
  split
  · exact h.kill
  · split
    · exact h.tick
    · split
      · exact h.tick
      · split
        · refine ⟨h.f0, h.f1, ?_, h.a1, h.o0, h.o1⟩
          show (({ R.tick with m0 := R.m0 ++ b } : RD).all 0).length ≤ T
          rw [all0_write, List.length_append]; omega
        · refine ⟨h.f0, h.f1, h.a0, ?_, h.o0, h.o1⟩
          show (({ R.tick with m1 := R.m1 ++ b } : RD).all 1).length ≤ T
          rw [all1_write, List.length_append]; omega
theorem Bd.replace {R : RD} {T : Nat} (h : Bd R T) (hT : R.lim ≤ (T : Int)) (n : Int) (b : List UInt8) : Bd (R.replace n b).1 T := by
  unfold RD.replace
  by_cases hb : R.dead = true ∨ (R.armed = true ∧ R.left = 0)
  · rw [if_pos hb]; exact h.kill
  · rw [if_neg hb]
    by_cases ha : n < 0 ∨ 1 < n
    · rw [if_pos ha]; exact h.tick
    · rw [if_neg ha]
      by_cases hf : R.lim - ((R.all (if n = 0 then 1 else 0)).length : Int) < (b.length : Int)
      · rw [if_pos hf]; exact h.tick
      · rw [if_neg hf]
        have hb : b.length ≤ T := by omega
        by_cases h0 : n = 0
        · rw [if_pos h0]
          refine ⟨h.f0, h.f1, ?_, h.a1, hb, h.o1⟩
          show ((if true = true then b else R.f0) ++ []).length ≤ T
          simpa using hb
        · rw [if_neg h0]
          refine ⟨h.f0, h.f1, h.a0, ?_, h.o0, hb⟩
          show ((if true = true then b else R.f1) ++ []).length ≤ T
          simpa using hb
theorem Bd.sync {R : RD} {T : Nat} (h : Bd R T) (n : Int) : Bd (R.sync n).1 T := by
  unfold RD.sync
  split
  · exact h.kill
  · split
    · exact h.tick
    · rename_i hb ha
      have hn : n = 0 ∨ n = 1 := by omega
      rcases hn with rfl | rfl
      · refine ⟨h.a0, h.f1, ?_, h.a1, by show ([] : List UInt8).length ≤ T; simp, h.o1⟩
        show ((if false = true then [] else R.all 0) ++ []).length ≤ T
        simpa using h.a0
      · refine ⟨h.f0, h.a1, h.a0, ?_, h.o0, by show ([] : List UInt8).length ≤ T; simp⟩
        show ((if false = true then [] else R.all 1) ++ []).length ≤ T
        simpa using h.a1
theorem Bd.act {R : RD} {T : Nat} (h : Bd R T) (hT : R.lim ≤ (T : Int)) (a : AD) : Bd (R.act a) T := by
  unfold RD.act
  split
  · exact h.write hT _ _
  · split
    · exact h.replace hT _ _
    · split
      · exact h.sync _
      · split
        · exact ⟨h.f0, h.f1, h.a0, h.a1, h.o0, h.o1⟩
        · exact h
theorem lim_write (R : RD) (n : Int) (b : List UInt8) : (R.write n b).1.lim = R.lim := by
  unfold RD.write
  by_cases h1 : R.dead = true ∨ (R.armed = true ∧ R.left = 0)
  · rw [if_pos h1]; rfl
  · rw [if_neg h1]
    by_cases h2 : n < 0 ∨ 1 < n
    · rw [if_pos h2]; rfl
    · rw [if_neg h2]
      by_cases h3 : R.lim - (((R.all 0).length + (R.all 1).length : Nat) : Int) < (b.length : Int)
      · rw [if_pos h3]; rfl
      · rw [if_neg h3]
        by_cases h4 : n = 0
        · rw [if_pos h4]; rfl
        · rw [if_neg h4]; rfl
theorem lim_replace (R : RD) (n : Int) (b : List UInt8) : (R.replace n b).1.lim = R.lim := by
  unfold RD.replace
  by_cases h1 : R.dead = true ∨ (R.armed = true ∧ R.left = 0)
  · rw [if_pos h1]; rfl
  · rw [if_neg h1]
    by_cases h2 : n < 0 ∨ 1 < n
    · rw [if_pos h2]; rfl
    · rw [if_neg h2]
      by_cases h3 : R.lim - ((R.all (if n = 0 then 1 else 0)).length : Int) < (b.length : Int)
      · rw [if_pos h3]; rfl
      · rw [if_neg h3]
        by_cases h4 : n = 0
        · rw [if_pos h4]; rfl
        · rw [if_neg h4]; rfl
theorem lim_fast (R : RD) (n : Nat) (b : List UInt8) : (R.fast n b).lim = R.lim := by unfold RD.fast; split <;> rfl
theorem lim_sync (R : RD) (n : Int) : (R.sync n).1.lim = R.lim := by
  unfold RD.sync
  split
  · rfl
  · split
    · rfl
    · show (R.tick.fast n.toNat (R.all n.toNat)).lim = R.lim
      rw [lim_fast]; rfl
theorem lim_act (R : RD) (a : AD) : (R.act a).lim = R.lim := by
  unfold RD.act
  split
  · exact lim_write _ _ _
  · split
    · exact lim_replace _ _ _
    · split
      · exact lim_sync _ _
      · split <;> rfl
/-- How many calls come yet, at least. -/
theorem left_write (R : RD) (n : Int) (b : List UInt8) : R.left - 1 ≤ (R.write n b).1.left ∧ (R.write n b).1.left ≤ R.left := by
  unfold RD.write
  by_cases h1 : R.dead = true ∨ (R.armed = true ∧ R.left = 0)
  · rw [if_pos h1]; exact ⟨by show R.left - 1 ≤ R.left; omega, Int.le_refl _⟩
  · rw [if_neg h1]
    by_cases h2 : n < 0 ∨ 1 < n
    · rw [if_pos h2]; exact ⟨Int.le_refl _, by show R.left - 1 ≤ R.left; omega⟩
    · rw [if_neg h2]
      by_cases h3 : R.lim - (((R.all 0).length + (R.all 1).length : Nat) : Int) < (b.length : Int)
      · rw [if_pos h3]; exact ⟨Int.le_refl _, by show R.left - 1 ≤ R.left; omega⟩
      · rw [if_neg h3]
        by_cases h4 : n = 0
        · rw [if_pos h4]; exact ⟨Int.le_refl _, by show R.left - 1 ≤ R.left; omega⟩
        · rw [if_neg h4]; exact ⟨Int.le_refl _, by show R.left - 1 ≤ R.left; omega⟩
theorem left_replace (R : RD) (n : Int) (b : List UInt8) : R.left - 1 ≤ (R.replace n b).1.left ∧ (R.replace n b).1.left ≤ R.left := by
  unfold RD.replace
  by_cases h1 : R.dead = true ∨ (R.armed = true ∧ R.left = 0)
  · rw [if_pos h1]; exact ⟨by show R.left - 1 ≤ R.left; omega, Int.le_refl _⟩
  · rw [if_neg h1]
    by_cases h2 : n < 0 ∨ 1 < n
    · rw [if_pos h2]; exact ⟨Int.le_refl _, by show R.left - 1 ≤ R.left; omega⟩
    · rw [if_neg h2]
      by_cases h3 : R.lim - ((R.all (if n = 0 then 1 else 0)).length : Int) < (b.length : Int)
      · rw [if_pos h3]; exact ⟨Int.le_refl _, by show R.left - 1 ≤ R.left; omega⟩
      · rw [if_neg h3]
        by_cases h4 : n = 0
        · rw [if_pos h4]; exact ⟨Int.le_refl _, by show R.left - 1 ≤ R.left; omega⟩
        · rw [if_neg h4]; exact ⟨Int.le_refl _, by show R.left - 1 ≤ R.left; omega⟩
theorem left_fast (R : RD) (n : Nat) (b : List UInt8) : (R.fast n b).left = R.left := by unfold RD.fast; split <;> rfl
theorem left_sync (R : RD) (n : Int) : R.left - 1 ≤ (R.sync n).1.left ∧ (R.sync n).1.left ≤ R.left := by
  unfold RD.sync
  split
  · simp [RD.kill]; omega
  · split
    · simp [RD.tick]; omega
    · show R.left - 1 ≤ (R.tick.fast n.toNat (R.all n.toNat)).left ∧ (R.tick.fast n.toNat (R.all n.toNat)).left ≤ R.left
      rw [left_fast]
      simp [RD.tick]; omega
theorem left_act (R : RD) (a : AD) (L : Int) (h : -L ≤ R.left ∧ R.left ≤ 9223372036854775807) (hL : 0 ≤ L) (hN : a.N ≤ 9223372036854775807) : -(L + 1) ≤ (R.act a).left ∧ (R.act a).left ≤ 9223372036854775807 := by
  unfold RD.act
  split
  · have := left_write R a.F a.B; omega
  · split
    · have := left_replace R a.F a.B; omega
    · split
      · have := left_sync R a.F; omega
      · split
        · show -(L + 1) ≤ (if a.N < 0 then 0 else a.N) ∧ (if a.N < 0 then 0 else a.N) ≤ 9223372036854775807
          split <;> omega
        · omega
end Go.Proofs.Ytadmjhlcdoghpac
