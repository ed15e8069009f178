/- The document's Open. (printed by gen/wal15.py) -/
import Derived.Test.YtkghkpkiodghiaaWal15a
import Derived.Test.YtkghkpkiodghiaaWal15b
namespace Go.Proofs.Ytkghkpkiodghiaa
set_option linter.unusedVariables false
set_option linter.unusedSimpArgs false
set_option linter.unnecessarySimpa false
open Go.RowKit
set_option maxRecDepth 100000
set_option maxHeartbeats 8000000

theorem rOpen_go (p : Nat) (S S' : RD) (err : Nat) (w : World) (has : Bool) (sb : List UInt8) (n1 at_ nx : Nat) (R : List (List UInt8)) (T0 : Nat) (x : Int) (hS : Rdk w p S) (hd : S.dead = false) (hT : snF (S.all 1) = (has, sb, n1, 0)) (hwi : Wi S T0 x) (hT0 : T0 ≤ 40000000) (hx : x ≤ 100000000000) (U : List (List UInt8) × Nat × Nat) (hU : scF ((S.all 0).length + 1) (S.all 0) = U) (hV : recF n1 U.1 0 [] n1 = (at_, R, nx))
  (hout : (at_ = (S.all 0).length ∧ S' = S ∧ err = 0) ∨ (at_ < (S.all 0).length ∧ ∃ S1 e1, S.replace 0 ((S.all 0).take at_) = (S1, e1) ∧ ((e1 ≠ 0 ∧ S' = S1 ∧ err = e1) ∨ (e1 = 0 ∧ S1.sync 0 = (S', err))))) :
  Calls Try.prog 31 #[.pointer (some ⟨p, 0, none⟩)] w fun e w' => ROut w w' p e has sb R nx err ∧ Rdk w' p S' ∧ Upd p w w' := by
 by_cases h10 : (S.all 1).length = 0
 ·exact rOpen_goA p S S' err w has sb n1 at_ nx R T0 x hS hd hT hwi hT0 hx U hU hV h10 hout
 ·exact rOpen_goB p S S' err w has sb n1 at_ nx R T0 x hS hd hT hwi hT0 hx U hU hV h10 hout
end Go.Proofs.Ytkghkpkiodghiaa
namespace Go.Proofs.Ytkghkpkiodghiaa
set_option linter.unusedVariables false
set_option linter.unusedSimpArgs false
set_option linter.unnecessarySimpa false
open Go.RowKit
set_option maxRecDepth 100000
set_option maxHeartbeats 8000000

/-- What is read of two files: the snapshot and its number, how much of the log stays, the records, the next number. -/
structure KD where
 has : Bool
 sb : List UInt8
 n1 : Nat
 te : Nat
 at_ : Nat
 R : List (List UInt8)
 nx : Nat
def keptOf (n0 n1 : List UInt8) : KD :=
 ⟨(snF n1).1, (snF n1).2.1, (snF n1).2.2.1, (snF n1).2.2.2, (recF (snF n1).2.2.1 (scF (n0.length + 1) n0).1 0 [] (snF n1).2.2.1).1, (recF (snF n1).2.2.1 (scF (n0.length + 1) n0).1 0 [] (snF n1).2.2.1).2.1, (recF (snF n1).2.2.1 (scF (n0.length + 1) n0).1 0 [] (snF n1).2.2.1).2.2⟩
/-- The program's disk behind Open, and the error. -/
def PD.wopen (S : PD) : PD × Nat :=
 if S.dead = true then (S, 140)
 else if (keptOf S.n0 S.n1).te ≠ 0 then (S, 4)
 else if (keptOf S.n0 S.n1).at_ < S.n0.length then
  (if (S.replace 0 (S.n0.take (keptOf S.n0 S.n1).at_)).2 ≠ 0 then S.replace 0 (S.n0.take (keptOf S.n0 S.n1).at_) else (S.replace 0 (S.n0.take (keptOf S.n0 S.n1).at_)).1.sync 0)
 else (S, 0)
def RD.ropen (S : RD) : RD × Nat :=
 if S.dead = true then (S, 140)
 else if (keptOf (S.all 0) (S.all 1)).te ≠ 0 then (S, 4)
 else if (keptOf (S.all 0) (S.all 1)).at_ < (S.all 0).length then
  (if (S.replace 0 ((S.all 0).take (keptOf (S.all 0) (S.all 1)).at_)).2 ≠ 0 then S.replace 0 ((S.all 0).take (keptOf (S.all 0) (S.all 1)).at_) else (S.replace 0 ((S.all 0).take (keptOf (S.all 0) (S.all 1)).at_)).1.sync 0)
 else (S, 0)
theorem Sim.wopen {S : PD} {R : RD} (h : Sim S R) : S.wopen.2 = R.ropen.2 ∧ Sim S.wopen.1 R.ropen.1 := by
 have k1 := h.replace 0 (S.n0.take (keptOf S.n0 S.n1).at_)
 have k2 := k1.2.sync 0
 unfold PD.wopen RD.ropen
 rw [← h.n0, ← h.n1, h.dead, k1.1]
 split
 ·exact ⟨rfl, h⟩
 ·split
  ·exact ⟨rfl, h⟩
  ·split
   ·split
    ·exact k1
    ·exact k2
   ·exact ⟨rfl, h⟩
theorem snF_err (l : List UInt8) : (snF l).2.2.2 = 0 ∨ (snF l).2.2.2 = 4 := by
 unfold snF
 split
 ·exact .inl rfl
 ·split
  ·exact .inl rfl
  ·exact .inr rfl
theorem keptOf_at (n0 n1 : List UInt8) : (keptOf n0 n1).at_ ≤ n0.length := by
 have h1 := recF_at (snF n1).2.2.1 (scF (n0.length + 1) n0).1 0 [] (snF n1).2.2.1
 have h2 := scF_frames (n0.length + 1) n0
 have := h1.1
 show (recF (snF n1).2.2.1 (scF (n0.length + 1) n0).1 0 [] (snF n1).2.2.1).1 ≤ n0.length
 omega
/-- The program's Open. -/
theorem Open_any (p : Nat) (S : PD) (w : World) (hS : Dsk w p S) (hm : S.left ≤ 9223372036854775807) (h0l : S.n0.length ≤ 50000000) (h1l : S.n1.length ≤ 50000000) (hlim : -1000000000000 ≤ S.lim ∧ S.lim ≤ 1000000000000) :
  Calls Try.prog 7 #[.pointer (some ⟨p, 0, none⟩)] w fun e w' => ((S.wopen.2 = 0 ∧ OpenYes w w' p e (keptOf S.n0 S.n1).has (keptOf S.n0 S.n1).sb (keptOf S.n0 S.n1).R (keptOf S.n0 S.n1).nx) ∨ (S.wopen.2 ≠ 0 ∧ e = openNo S.wopen.2)) ∧ Dsk w' p S.wopen.1 ∧ Upd p w w' := by
 unfold PD.wopen
 by_cases hd : S.dead = true
 ·rw [if_pos hd]
  exact (Open_dead p S w hS hd (by omega)).mono fun e w' ⟨h1, h2, h3⟩ => ⟨.inr ⟨(show (140 : Nat) ≠ 0 by decide), h1⟩, h2, h3⟩
 ·have hd' : S.dead = false := by simpa using hd
  rw [if_neg hd]
  by_cases ht : (keptOf S.n0 S.n1).te = 0
  ·rw [if_neg (by simpa using ht)]
   have hT : snF S.n1 = ((keptOf S.n0 S.n1).has, (keptOf S.n0 S.n1).sb, (keptOf S.n0 S.n1).n1, 0) := by
    rw [← ht]; rfl
   have hV : recF (keptOf S.n0 S.n1).n1 (scF (S.n0.length + 1) S.n0).1 0 [] (keptOf S.n0 S.n1).n1 = ((keptOf S.n0 S.n1).at_, (keptOf S.n0 S.n1).R, (keptOf S.n0 S.n1).nx) := rfl
   have hat := keptOf_at S.n0 S.n1
   by_cases hk : (keptOf S.n0 S.n1).at_ < S.n0.length
   ·rw [if_pos hk]
    rcases hr : S.replace 0 (S.n0.take (keptOf S.n0 S.n1).at_) with ⟨S1, e1⟩
    dsimp only
    by_cases he1 : e1 = 0
    ·subst he1
     rw [if_neg (by simp)]
     rcases hs : S1.sync 0 with ⟨S2, e2⟩
     dsimp only
     by_cases he2 : e2 = 0
     ·subst he2
      exact (Open_mend p S S1 S2 w _ _ _ _ _ _ hS hd' hT hm h0l h1l hlim _ rfl hV hk hr hs).mono fun e w' ⟨h1, h2, h3⟩ => ⟨.inl ⟨rfl, h1⟩, h2, h3⟩
     ·exact (Open_mend1 p S S1 S2 w _ _ _ _ _ _ e2 hS hd' hT hm h0l h1l hlim _ rfl hV hk hr hs he2).mono fun e w' ⟨h1, h2, h3⟩ => ⟨.inr ⟨he2, h1⟩, h2, h3⟩
    ·rw [if_pos (by simpa using he1)]
     exact (Open_mend0 p S S1 w _ _ _ _ _ _ e1 hS hd' hT hm h0l h1l hlim _ rfl hV hk hr he1).mono fun e w' ⟨h1, h2, h3⟩ => ⟨.inr ⟨he1, h1⟩, h2, h3⟩
   ·rw [if_neg hk]
    exact (Open_kept p S w _ _ _ _ _ _ hS hd' hT hm h0l h1l hlim _ rfl hV (by omega)).mono fun e w' ⟨h1, h2, h3⟩ => ⟨.inl ⟨rfl, h1⟩, h2, h3⟩
  ·rw [if_pos (by simpa using ht)]
   have h4 : (keptOf S.n0 S.n1).te = 4 := (snF_err S.n1).resolve_left ht
   have hT : snF S.n1 = ((keptOf S.n0 S.n1).has, (keptOf S.n0 S.n1).sb, (keptOf S.n0 S.n1).n1, 4) := by
    rw [← h4]; rfl
   exact (Open_form p S w _ _ _ 4 hS hd' hT hm h0l h1l hlim (by decide)).mono fun e w' ⟨h1, h2, h3⟩ => ⟨.inr ⟨(show (4 : Nat) ≠ 0 by decide), h1⟩, h2, h3⟩
/-- The document's Open. -/
theorem rOpen_any (p : Nat) (S : RD) (T0 : Nat) (x : Int) (w : World) (hS : Rdk w p S) (hwi : Wi S T0 x) (hT0 : T0 ≤ 40000000) (hx : x ≤ 100000000000) :
  Calls Try.prog 31 #[.pointer (some ⟨p, 0, none⟩)] w fun e w' => ROut w w' p e (keptOf (S.all 0) (S.all 1)).has (keptOf (S.all 0) (S.all 1)).sb (keptOf (S.all 0) (S.all 1)).R (keptOf (S.all 0) (S.all 1)).nx S.ropen.2 ∧ Rdk w' p S.ropen.1 ∧ Upd p w w' := by
 have hk := hwi.k (show T0 ≤ 1000000000 by omega) (show x ≤ 1000000000000 by omega)
 have hs : S.sz ≤ 140737488355328 := by have := hk.s; omega
 unfold RD.ropen
 by_cases hd : S.dead = true
 ·rw [if_pos hd]
  exact (rOpen_dead p S w hS hd hs).mono fun e w' ⟨h1, h2, h3⟩ => ⟨.inr ⟨(show (140 : Nat) ≠ 0 by decide), h1⟩, h2, h3⟩
 ·have hd' : S.dead = false := by simpa using hd
  rw [if_neg hd]
  by_cases ht : (keptOf (S.all 0) (S.all 1)).te = 0
  ·rw [if_neg (by simpa using ht)]
   have hT : snF (S.all 1) = ((keptOf (S.all 0) (S.all 1)).has, (keptOf (S.all 0) (S.all 1)).sb, (keptOf (S.all 0) (S.all 1)).n1, 0) := by
    rw [← ht]; rfl
   have hV : recF (keptOf (S.all 0) (S.all 1)).n1 (scF ((S.all 0).length + 1) (S.all 0)).1 0 [] (keptOf (S.all 0) (S.all 1)).n1 = ((keptOf (S.all 0) (S.all 1)).at_, (keptOf (S.all 0) (S.all 1)).R, (keptOf (S.all 0) (S.all 1)).nx) := rfl
   have hat := keptOf_at (S.all 0) (S.all 1)
   by_cases hk : (keptOf (S.all 0) (S.all 1)).at_ < (S.all 0).length
   ·rw [if_pos hk]
    rcases hr : S.replace 0 ((S.all 0).take (keptOf (S.all 0) (S.all 1)).at_) with ⟨S1, e1⟩
    dsimp only
    by_cases he1 : e1 = 0
    ·subst he1
     rw [if_neg (by simp)]
     exact rOpen_go p S _ _ w _ _ _ _ _ _ T0 x hS hd' hT hwi hT0 hx _ rfl hV (.inr ⟨hk, S1, 0, hr, .inr ⟨rfl, rfl⟩⟩)
    ·rw [if_pos (by simpa using he1)]
     exact rOpen_go p S _ _ w _ _ _ _ _ _ T0 x hS hd' hT hwi hT0 hx _ rfl hV (.inr ⟨hk, S1, e1, hr, .inl ⟨he1, rfl, rfl⟩⟩)
   ·rw [if_neg hk]
    exact rOpen_go p S _ _ w _ _ _ _ _ _ T0 x hS hd' hT hwi hT0 hx _ rfl hV (.inl ⟨by omega, rfl, rfl⟩)
  ·rw [if_pos (by simpa using ht)]
   have h4 : (keptOf (S.all 0) (S.all 1)).te = 4 := (snF_err (S.all 1)).resolve_left ht
   have hT : snF (S.all 1) = ((keptOf (S.all 0) (S.all 1)).has, (keptOf (S.all 0) (S.all 1)).sb, (keptOf (S.all 0) (S.all 1)).n1, 4) := by
    rw [← h4]; rfl
   exact (rOpen_form p S w _ _ _ 4 hS hd' hT hs (by decide)).mono fun e w' ⟨h1, h2, h3⟩ => ⟨.inr ⟨(show (4 : Nat) ≠ 0 by decide), h1⟩, h2, h3⟩
theorem Wi.ropen {R : RD} {T : Nat} {x : Int} (h : Wi R T x) : Wi R.ropen.1 T (x + 2) := by
 have h1 := h.replace 0 ((R.all 0).take (keptOf (R.all 0) (R.all 1)).at_)
 have h2 := h1.sync 0
 unfold RD.ropen
 split
 ·exact h.more (Nat.le_refl _) (by omega)
 ·split
  ·exact h.more (Nat.le_refl _) (by omega)
  ·split
   ·split
    ·exact h1.more (Nat.le_refl _) (by omega)
    ·exact h2.more (Nat.le_refl _) (by omega)
   ·exact h.more (Nat.le_refl _) (by omega)
end Go.Proofs.Ytkghkpkiodghiaa
namespace Go.Proofs.Ytkghkpkiodghiaa
set_option linter.unusedVariables false
set_option linter.unusedSimpArgs false
set_option linter.unnecessarySimpa false
open Go.RowKit
set_option maxRecDepth 100000
set_option maxHeartbeats 4000000

theorem snF_frame (n : Nat) (b : List UInt8) (hn : n < 4611686018427387904) (hb : b.length ≤ 3000) : (snF (frameB (enc n ++ b))).2.2.1 = n := by
 have hb : (enc n ++ b).length ≤ 1048576 := by
  have := enc_length n hn
  have := nsize_le n
  rw [List.length_append]; omega
 have hf : frameB (enc n ++ b) = frames [enc n ++ b] := by simp [frames]
 have hs := scF_all [enc n ++ b] (fun d hd => by simp only [List.mem_singleton] at hd; rw [hd]; exact hb)
 rw [← hf] at hs
 obtain ⟨t1, t2⟩ := body_take n b hn
 have hl0 : (frameB (enc n ++ b)).length ≠ 0 := by
  have := frameB_length _ hb
  rw [this]; omega
 rw [snF_ok hl0 (by rw [hs]; simp [t1]), hs]
 simp [t1, t2]
/-- All snapshots that may be had are of numbers up to X. -/
structure Nxi (R : RD) (X : Nat) : Prop where
 m1 : R.m1 = []
 f1 : (snF R.f1).2.2.1 ≤ X
 o1 : (snF R.o1).2.2.1 ≤ X
theorem Nxi.all1 {R : RD} {X : Nat} (h : Nxi R X) : (snF (R.all 1)).2.2.1 ≤ X := by
 unfold RD.all
 rw [if_neg (by decide), h.m1, List.append_nil]
 split
 ·exact h.o1
 ·exact h.f1
theorem Nxi.more {R : RD} {X Y : Nat} (h : Nxi R X) (hX : X ≤ Y) : Nxi R Y := ⟨h.m1, Nat.le_trans h.f1 hX, Nat.le_trans h.o1 hX⟩
theorem snF_none (X : Nat) : (snF []).2.2.1 ≤ X := by rw [snF_nil rfl]; exact Nat.zero_le _
theorem Nxi.new (lim : Int) (X : Nat) : Nxi ⟨[], [], [], [], [], [], false, false, lim, 0, false, false⟩ X := ⟨rfl, snF_none X, snF_none X⟩
theorem Nxi.write0 {R : RD} {X : Nat} (h : Nxi R X) (b : List UInt8) : Nxi (R.write 0 b).1 X := by
 unfold RD.write
 repeat' (first | exact ⟨h.m1, h.f1, h.o1⟩ | split)
theorem Nxi.replace0 {R : RD} {X : Nat} (h : Nxi R X) (b : List UInt8) : Nxi (R.replace 0 b).1 X := by
 unfold RD.replace
 repeat' (first | exact ⟨h.m1, h.f1, h.o1⟩ | split)
 all_goals (rename_i h1 h2; exact absurd rfl h1)
theorem Nxi.replace1 {R : RD} {X : Nat} (h : Nxi R X) (b : List UInt8) (hb : (snF b).2.2.1 ≤ X) : Nxi (R.replace 1 b).1 X := by
 unfold RD.replace
 repeat' (first | exact ⟨h.m1, h.f1, h.o1⟩ | exact ⟨rfl, h.f1, hb⟩ | split)
 all_goals (first | exact ⟨h.m1, h.f1, h.o1⟩ | exact ⟨rfl, h.f1, hb⟩ | (rename_i h0; exact absurd h0 (by decide)))
theorem Nxi.sync0 {R : RD} {X : Nat} (h : Nxi R X) : Nxi (R.sync 0).1 X := by
 unfold RD.sync
 repeat' (first | exact ⟨h.m1, h.f1, h.o1⟩ | split)
theorem Nxi.sync1 {R : RD} {X : Nat} (h : Nxi R X) : Nxi (R.sync 1).1 X := by
 unfold RD.sync
 repeat' (first | exact ⟨h.m1, h.f1, h.o1⟩ | exact ⟨rfl, h.all1, snF_none X⟩ | split)
theorem Nxi.arm {R : RD} {X : Nat} (h : Nxi R X) (n : Int) : Nxi { R with armed := true, left := if n < 0 then 0 else n } X := ⟨h.m1, h.f1, h.o1⟩
theorem Nxi.crash {R : RD} {X : Nat} (h : Nxi R X) (keep : Int) (tail : List UInt8) : Nxi (R.crash keep tail) X := by
 have h0 : Nxi (R.off.c0 keep tail) X := by
  unfold RD.c0
  split
  ·split
   ·exact ⟨h.m1, h.f1, h.o1⟩
   ·exact ⟨h.m1, h.f1, h.o1⟩
  ·split
   ·exact ⟨h.m1, h.f1, h.o1⟩
   ·exact ⟨h.m1, h.f1, h.o1⟩
 show Nxi ((R.off.c0 keep tail).c1 keep tail) X
 generalize R.off.c0 keep tail = Q at *
 unfold RD.c1
 split
 ·split
  ·exact ⟨rfl, h0.all1, snF_none X⟩
  ·exact ⟨rfl, h0.f1, snF_none X⟩
 ·split
  ·rename_i h1
   rw [h0.m1] at h1
   exact absurd h1 (by simp)
  ·exact h0
theorem Nxi.rapp {R : RD} {X : Nat} (h : Nxi R X) (n : Nat) (b : List UInt8) : Nxi (R.rapp n b).1 X ∧ (R.rapp n b).2.1 ≤ n + 1 := by
 have h1 := h.write0 (frameB (enc n ++ b))
 have h2 := h1.sync0
 unfold RD.rapp
 split
 ·exact ⟨h1, Nat.le_succ n⟩
 ·split
  ·exact ⟨h2, Nat.le_succ n⟩
  ·exact ⟨h2, Nat.le_refl _⟩
theorem Nxi.rsnap {R : RD} {X : Nat} (h : Nxi R X) (n : Nat) (b : List UInt8) (hn : n ≤ X) (hn2 : n < 4611686018427387904) (hb : b.length ≤ 3000) : Nxi (R.rsnap n b).1 X := by
 have h1 := h.replace1 (frameB (enc n ++ b)) (by rw [snF_frame n b hn2 hb]; exact hn)
 have h2 := h1.sync1
 have h3 := h2.replace0 []
 have h4 := h3.sync0
 unfold RD.rsnap
 split
 ·exact h1
 ·split
  ·exact h2
  ·split
   ·exact h3
   ·exact h4
theorem Nxi.ropen {R : RD} {X : Nat} (h : Nxi R X) : Nxi R.ropen.1 X := by
 have h1 := h.replace0 ((R.all 0).take (keptOf (R.all 0) (R.all 1)).at_)
 have h2 := h1.sync0
 unfold RD.ropen
 split
 ·exact h
 ·split
  ·exact h
  ·split
   ·split
    ·exact h1
    ·exact h2
   ·exact h
theorem Nxi.kept {R : RD} {X T : Nat} (h : Nxi R X) (ha : (R.all 0).length ≤ T) : (keptOf (R.all 0) (R.all 1)).nx ≤ X + T + 1 := by
 have h1 := recF_at (snF (R.all 1)).2.2.1 (scF ((R.all 0).length + 1) (R.all 0)).1 0 [] (snF (R.all 1)).2.2.1
 have h2 := scF_count ((R.all 0).length + 1) (R.all 0)
 have h3 := h.all1
 have h4 := h1.2.1
 show (recF (snF (R.all 1)).2.2.1 (scF ((R.all 0).length + 1) (R.all 0)).1 0 [] (snF (R.all 1)).2.2.1).2.2 ≤ _
 omega
/-- What a call of the law's acts makes of the document's disk: how large it may get, how often it was called. -/
theorem Wi.arm {R : RD} {T : Nat} {x : Int} (h : Wi R T x) (hx : 0 ≤ x) (n : Int) (hn : n ≤ 9223372036854775807) : Wi { R with armed := true, left := if n < 0 then 0 else n } T x := by
 refine ⟨⟨h.bd.f0, h.bd.f1, h.bd.a0, h.bd.a1, h.bd.o0, h.bd.o1⟩, h.lim, ?_⟩
 show -x ≤ (if n < 0 then 0 else n) ∧ (if n < 0 then 0 else n) ≤ 9223372036854775807
 split <;> omega
theorem Wi.crash {R : RD} {T : Nat} {x : Int} (h : Wi R T x) (keep : Int) (tail : List UInt8) : Wi (R.crash keep tail) (T + tail.length) x := by
 refine ⟨h.bd.crash keep tail, ?_, ?_⟩
 ·rw [lim_crash]; have := h.lim; omega
 ·rw [left_crash]; exact h.left
end Go.Proofs.Ytkghkpkiodghiaa
