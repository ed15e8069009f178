/- The disk: Write, Replace, Sync, Read. (printed by gen/dsk2.py) -/
import Derived.Test.YtkghkpkiodghiaaTk
import Derived.Test.YtkghkpkiodghiaaDsk1
import Derived.OrdersHeld
import Derived.Deep.RegionHeld
import Derived.Deep.QuietTactic
import Derived.BigQuiet
namespace Go.Proofs.Ytkghkpkiodghiaa
set_option linter.unusedVariables false
set_option linter.unusedSimpArgs false
set_option linter.unnecessarySimpa false
open Go.RowKit
set_option maxRecDepth 100000
set_option maxHeartbeats 4000000

def PD.tot (S : PD) : Int := ((S.n0.length + S.n1.length : Nat) : Int)
def PD.kill (S : PD) : PD := { S with dead := true }
def PD.tick (S : PD) : PD := { S with left := leftC S.left }
def PD.write (S : PD) (n : Int) (b : List UInt8) : PD × Nat :=
 if S.dead = true ∨ S.left = 0 then (S.kill, 140) else if n < 0 ∨ 1 < n then (S.tick, 1) else if S.lim - S.tot < (b.length : Int) then (S.tick, 8)
 else if n = 0 then ({ S.tick with n0 := S.n0 ++ b }, 0) else ({ S.tick with n1 := S.n1 ++ b }, 0)
def PD.replace (S : PD) (n : Int) (b : List UInt8) : PD × Nat :=
 if S.dead = true ∨ S.left = 0 then (S.kill, 140) else if n < 0 ∨ 1 < n then (S.tick, 1) else if S.lim - (S.tot - ((if n = 0 then S.n0 else S.n1).length : Int)) < (b.length : Int) then (S.tick, 8)
 else if n = 0 then ({ S.tick with n0 := b, r0 := true }, 0) else ({ S.tick with n1 := b, r1 := true }, 0)
def PD.sync (S : PD) (n : Int) : PD × Nat :=
 if S.dead = true ∨ S.left = 0 then (S.kill, 140) else if n < 0 ∨ 1 < n then (S.tick, 1)
 else if n = 0 then ({ S.tick with f0 := S.n0, r0 := false }, 0) else ({ S.tick with f1 := S.n1, r1 := false }, 0)
def PD.read (S : PD) (n : Int) : List UInt8 × Nat := if S.dead = true then ([], 140) else if n < 0 ∨ 1 < n then ([], 1) else (if n = 0 then S.n0 else S.n1, 0)

theorem bss2 (w : World) (v1 v2 : Value) (l1 l2 : List UInt8) (h1 : Sh (w.alloc (.cells #[v1, v2] 27)) v1 l1) (h2 : Sh (w.alloc (.cells #[v1, v2] 27)) v2 l2) : Bss (w.alloc (.cells #[v1, v2] 27)) (.slice (some ⟨w.heap.size, 0, none⟩) 2 2) [l1, l2] := by
 refine ⟨[v1, v2], (Own1.lit w 27 [v1, v2]).shows, fun i hi => ?_⟩
 have : i = 0 ∨ i = 1 := by simp at hi; omega
 rcases this with rfl | rfl
 ·exact ⟨v1, rfl, h1⟩
 ·exact ⟨v2, rfl, h2⟩
/-- The disk's slices lie elsewhere than in block h. -/
def DAv (w : World) (p h : Nat) : Prop := ∀ j v, w.cell? ⟨p, j, none⟩ = some v → v.ownBlock ≠ some h
theorem davC {w : World} {p h t : Nat} {a b c d : Value} {r0 r1 : Bool} {lim left : Int} {dead : Bool} (hr : Row w p t (DskC a b r0 c d r1 lim left dead)) : DAv w p h ↔ (a.ownBlock ≠ some h ∧ b.ownBlock ≠ some h ∧ c.ownBlock ≠ some h ∧ d.ownBlock ≠ some h) := by
 constructor
 ·intro hd
  exact ⟨hd 0 a (by rw [Row.cell hr 0]; rfl), hd 1 b (by rw [Row.cell hr 1]; rfl), hd 3 c (by rw [Row.cell hr 3]; rfl), hd 4 d (by rw [Row.cell hr 4]; rfl)⟩
 ·rintro ⟨ha, hb, hc, hd⟩ j v hv
  rw [Row.cell hr j] at hv
  have hm := List.mem_of_getElem? hv
  simp only [DskC, List.mem_cons, List.not_mem_nil, or_false] at hm
  rcases hm with rfl | rfl | rfl | rfl | rfl | rfl | rfl | rfl | rfl
  ·exact ha
  ·exact hb
  ·simp [Value.ownBlock]
  ·exact hc
  ·exact hd
  all_goals simp [Value.ownBlock]
theorem dav_same {w w' : World} {p h t t' : Nat} {a b c d : Value} {r0 r1 r0' r1' : Bool} {lim left lim' left' : Int} {dead dead' : Bool} (hr : Row w p t (DskC a b r0 c d r1 lim left dead)) (hr' : Row w' p t' (DskC a b r0' c d r1' lim' left' dead')) (hd : DAv w p h) : DAv w' p h := (davC hr').2 ((davC hr).1 hd)
theorem dav_b {w w' : World} {p h t t' : Nat} {a b b' c d : Value} {r0 r1 r0' r1' : Bool} {lim left lim' left' : Int} {dead dead' : Bool} (hr : Row w p t (DskC a b r0 c d r1 lim left dead)) (hr' : Row w' p t' (DskC a b' r0' c d r1' lim' left' dead')) (hb : b'.ownBlock ≠ some h) (hd : DAv w p h) : DAv w' p h := by
 obtain ⟨k1, k2, k3, k4⟩ := (davC hr).1 hd
 exact (davC hr').2 ⟨k1, hb, k3, k4⟩
theorem dav_d {w w' : World} {p h t t' : Nat} {a b c d d' : Value} {r0 r1 r0' r1' : Bool} {lim left lim' left' : Int} {dead dead' : Bool} (hr : Row w p t (DskC a b r0 c d r1 lim left dead)) (hr' : Row w' p t' (DskC a b r0' c d' r1' lim' left' dead')) (hb : d'.ownBlock ≠ some h) (hd : DAv w p h) : DAv w' p h := by
 obtain ⟨k1, k2, k3, k4⟩ := (davC hr).1 hd
 exact (davC hr').2 ⟨k1, k2, k3, hb⟩
theorem fresh_no {w : World} {B h e : Nat} {v : Value} {l : List UInt8} (ho : Own w B e v l) (hh : h < B) : v.ownBlock ≠ some h := fun hc => by
 have := (World.ownsRow.lt ho h hc).1
 omega
theorem dkeep {w w' : World} {p : Nat} {C : List Value} {v : Value} {l : List UInt8} {B : Nat} (h : Own w B 5 v l) (hr : Row w p 64 C) (hu : Upd p w w') : Own w' 0 5 v l :=
 hu.own (h.mono (Nat.zero_le _)) hr (by decide)
theorem dset0 {w : World} {p : Nat} {a b c d : Value} {r0 r1 : Bool} {lim left : Int} {dead : Bool} (h : Row w p 64 (DskC a b r0 c d r1 lim left dead)) (x : Value) :
  Row (w.setCell ⟨p, 0, none⟩ (x)) p 64 (DskC x b r0 c d r1 lim left dead) ∧ Upd p w (w.setCell ⟨p, 0, none⟩ (x)) := ⟨Row.set h 0 _, Upd.set p 0 w _⟩
theorem dset1 {w : World} {p : Nat} {a b c d : Value} {r0 r1 : Bool} {lim left : Int} {dead : Bool} (h : Row w p 64 (DskC a b r0 c d r1 lim left dead)) (x : Value) :
  Row (w.setCell ⟨p, 1, none⟩ (x)) p 64 (DskC a x r0 c d r1 lim left dead) ∧ Upd p w (w.setCell ⟨p, 1, none⟩ (x)) := ⟨Row.set h 1 _, Upd.set p 1 w _⟩
theorem dset2 {w : World} {p : Nat} {a b c d : Value} {r0 r1 : Bool} {lim left : Int} {dead : Bool} (h : Row w p 64 (DskC a b r0 c d r1 lim left dead)) (x : Bool) :
  Row (w.setCell ⟨p, 2, none⟩ (.bool x)) p 64 (DskC a b x c d r1 lim left dead) ∧ Upd p w (w.setCell ⟨p, 2, none⟩ (.bool x)) := ⟨Row.set h 2 _, Upd.set p 2 w _⟩
theorem dset3 {w : World} {p : Nat} {a b c d : Value} {r0 r1 : Bool} {lim left : Int} {dead : Bool} (h : Row w p 64 (DskC a b r0 c d r1 lim left dead)) (x : Value) :
  Row (w.setCell ⟨p, 3, none⟩ (x)) p 64 (DskC a b r0 x d r1 lim left dead) ∧ Upd p w (w.setCell ⟨p, 3, none⟩ (x)) := ⟨Row.set h 3 _, Upd.set p 3 w _⟩
theorem dset4 {w : World} {p : Nat} {a b c d : Value} {r0 r1 : Bool} {lim left : Int} {dead : Bool} (h : Row w p 64 (DskC a b r0 c d r1 lim left dead)) (x : Value) :
  Row (w.setCell ⟨p, 4, none⟩ (x)) p 64 (DskC a b r0 c x r1 lim left dead) ∧ Upd p w (w.setCell ⟨p, 4, none⟩ (x)) := ⟨Row.set h 4 _, Upd.set p 4 w _⟩
theorem dset5 {w : World} {p : Nat} {a b c d : Value} {r0 r1 : Bool} {lim left : Int} {dead : Bool} (h : Row w p 64 (DskC a b r0 c d r1 lim left dead)) (x : Bool) :
  Row (w.setCell ⟨p, 5, none⟩ (.bool x)) p 64 (DskC a b r0 c d x lim left dead) ∧ Upd p w (w.setCell ⟨p, 5, none⟩ (.bool x)) := ⟨Row.set h 5 _, Upd.set p 5 w _⟩
theorem Write0_any (p : Nat) (n : Int) (vb : Value) (b : List UInt8) (S : PD) (w : World) (hS : Dsk w p S) (hsb : ∀ w', Upd p w w' → Sh w' vb b) (hm : S.left ≤ 9223372036854775807) (ht : S.n0.length + S.n1.length ≤ 100000000000) (hbl : b.length ≤ 140737488355328) (hlim : -1000000000000 ≤ S.lim ∧ S.lim ≤ 1000000000000) :
  Calls Try.prog 28 #[.pointer (some ⟨p, 0, none⟩), .int .i64 n, vb] w fun e w' => e = .returned (.int .i64 ((S.write n b).2 : Int)) ∧ Dsk w' p (S.write n b).1 ∧ Upd p w w' ∧ (∀ h, h < w.heap.size → DAv w p h → DAv w' p h) := by
 obtain ⟨xa, ka, xb, kb, xc, kc, xd, kd, hR, oa, ob, oc, od⟩ := hS
 obtain ⟨f0, n0, r0, f1, n1, r1, lim, left, dead⟩ := S
 simp only at hR oa ob oc od hm ht hlim
 have HR := Lib.hid hR
 have OA := Lib.hid oa
 have OB := Lib.hid ob
 have OC := Lib.hid oc
 have OD := Lib.hid od
 clear hR oa ob oc od
 obtain ⟨xv, kv, rfl, -⟩ := (hsb w (Upd.refl _ _)).open
 have HSB := Lib.hid hsb
 clear hsb
 by_cases hbad : dead = true ∨ left = 0
 ·have e0 : (PD.mk f0 n0 r0 f1 n1 r1 lim left dead).write n b = (⟨f0, n0, r0, f1, n1, r1, lim, left, true⟩, 140) := by unfold PD.write; rw [if_pos hbad]; rfl
  rw [e0]
  clear e0
  go_enter Try.func28, Try.ntmps28
  go_wp2_with fail
  refine (counts_dead p _ _ _ _ r0 r1 dead lim left n _ HR.out hbad).mono ?_; rintro e w1 ⟨rfl, hr1, hu1⟩
  go_wp2_with fail
  go_ret
  exact ⟨rfl, ⟨xa, ka, xb, kb, xc, kc, xd, kd, hr1, dkeep OA.out HR.out hu1, dkeep OB.out HR.out hu1, dkeep OC.out HR.out hu1, dkeep OD.out HR.out hu1⟩, hu1, fun h _ hav => dav_same HR.out hr1 hav⟩
 ·have hd : dead = false := by cases dead; rfl; exact absurd (.inl rfl) hbad
  have hl0 : left ≠ 0 := fun h => hbad (.inr h)
  subst hd
  by_cases harg : n < 0 ∨ 1 < n
  ·have e0 : (PD.mk f0 n0 r0 f1 n1 r1 lim left false).write n b = (⟨f0, n0, r0, f1, n1, r1, lim, leftC left, false⟩, 1) := by unfold PD.write; rw [if_neg hbad, if_pos harg]; rfl
   rw [e0]
   clear e0
   go_enter Try.func28, Try.ntmps28
   go_wp2_with fail
   refine (counts_arg p _ _ _ _ r0 r1 lim left n _ HR.out hl0 hm harg).mono ?_; rintro e w1 ⟨rfl, hr1, hu1⟩
   go_wp2_with fail
   go_ret
   exact ⟨rfl, ⟨xa, ka, xb, kb, xc, kc, xd, kd, hr1, dkeep OA.out HR.out hu1, dkeep OB.out HR.out hu1, dkeep OC.out HR.out hu1, dkeep OD.out HR.out hu1⟩, hu1, fun h _ hav => dav_same HR.out hr1 hav⟩
  ·have hn01 : n = ((0 : Nat) : Int) ∨ n = ((1 : Nat) : Int) := by omega
   rcases hn01 with rfl | rfl
   ·have hw6 : IntKind.i64.wrap (lim - ((n0.length : Int) + (n1.length : Int))) = lim - ((n0.length : Int) + (n1.length : Int)) := IntWalk.i64_in _ ⟨by omega, by omega⟩
    by_cases hfit : lim - ((n0.length : Int) + (n1.length : Int)) < (b.length : Int)
    ·have e0 : (PD.mk f0 n0 r0 f1 n1 r1 lim left false).write ((0 : Nat) : Int) b = (⟨f0, n0, r0, f1, n1, r1, lim, leftC left, false⟩, 8) := by unfold PD.write; rw [if_neg hbad, if_neg harg]; exact if_pos (show lim - ((n0.length + n1.length : Nat) : Int) < (b.length : Int) by omega)
     rw [e0]
     clear e0
     go_enter Try.func28, Try.ntmps28
     go_wp2_with fail
     refine (counts_ok p _ _ _ _ r0 r1 lim left 0 _ HR.out hl0 hm (by omega)).mono ?_; rintro e w1 ⟨rfl, hr1, hu1⟩
     have HR1 := Lib.hid hr1
     have HU1 := Lib.hid hu1
     clear hr1 hu1
     have h6 := Row.cell HR1.out 6
     simp only [DskC, List.getElem?_cons_succ, List.getElem?_cons_zero] at h6
     have H6 := Lib.hid h6
     clear h6
     go_upto_region 4 with fail
     refine wp_region_held_drew (S := fun w' => Below w1.heap.size w1 w') (by kernel_rfl) (by exact (Below.refl _ _).drew) (fun hHeld => ?_)
     refine tH (i := 0) (v := ?_) (y := (Or.inl ⟨by rfl, ?_⟩)) (h := ?_)
     rotate_left
     ·intro w _; go_simp; try with_reducible rfl
     try simp only [Act.put, List.setIfInBounds_toArray, List.set_cons_zero, List.set_cons_succ, Array.replicate]
     refine tH (i := 1) (v := ?_) (y := (Or.inl ⟨by rfl, ?_⟩)) (h := ?_)
     rotate_left
     ·intro w _; go_simp; try with_reducible rfl
     try simp only [Act.put, List.setIfInBounds_toArray, List.set_cons_zero, List.set_cons_succ, Array.replicate]
     refine tH (i := 2) (v := ?_) (y := (Or.inl ⟨by rfl, ?_⟩)) (h := ?_)
     rotate_left
     ·intro w _; go_simp; try with_reducible rfl
     try simp only [Act.put, List.setIfInBounds_toArray, List.set_cons_zero, List.set_cons_succ, Array.replicate]
     refine tH (i := 3) (v := ?_) (y := (Or.inl ⟨by rfl, ?_⟩)) (h := ?_)
     rotate_left
     ·intro w _; go_simp; try with_reducible rfl
     try simp only [Act.put, List.setIfInBounds_toArray, List.set_cons_zero, List.set_cons_succ, Array.replicate]
     refine tH (i := 4) (v := ?_) (y := (Or.inl ⟨by rfl, ?_⟩)) (h := ?_)
     rotate_left
     ·intro w _; go_simp; try with_reducible rfl
     try simp only [Act.put, List.setIfInBounds_toArray, List.set_cons_zero, List.set_cons_succ, Array.replicate]
     refine tH (i := 5) (v := ?_) (y := (Or.inl ⟨by rfl, ?_⟩)) (h := ?_)
     rotate_left
     ·intro w hSS; have h6 := bkeep hSS H6.out; go_simp; try with_reducible rfl
     try simp only [Act.put, List.setIfInBounds_toArray, List.set_cons_zero, List.set_cons_succ, Array.replicate]
     refine tH (i := 6) (v := ?_) (y := (Or.inl ⟨by rfl, ?_⟩)) (h := ?_)
     rotate_left
     ·intro w _; go_simp; try with_reducible rfl
     try simp only [Act.put, List.setIfInBounds_toArray, List.set_cons_zero, List.set_cons_succ, Array.replicate]
     refine rH [7] (h := ?_)
     refine cH (h := fun K hK => ?_) (hs := ?_)
     ·go_simp; go_at_call 44; refine (dsize_any p xb xd xa xc kb kd f0.length f1.length ka kc n0 n1 r0 r1 lim (leftC left) false _ (Row.keep HR1.out hHeld) (by omega)).mono ?_; rintro e wq ⟨rfl, hbq⟩; try go_simp
      refine hK.out _ _ (by exact bstep hHeld hbq) (fun hHeld => ?_)
      clear hK K
      try simp only [Act.put, List.setIfInBounds_toArray, List.set_cons_zero, List.set_cons_succ, Array.replicate]
      refine tH (i := 8) (v := ?_) (y := (Or.inl ⟨by rfl, ?_⟩)) (h := ?_)
      rotate_left
      ·intro w _; go_simp; try with_reducible rfl
      try simp only [Act.put, List.setIfInBounds_toArray, List.set_cons_zero, List.set_cons_succ, Array.replicate]
      refine tH (i := 9) (v := ?_) (y := (Or.inl ⟨by rfl, ?_⟩)) (h := ?_)
      rotate_left
      ·intro w _; go_simp; try with_reducible rfl
      try simp only [Act.put, List.setIfInBounds_toArray, List.set_cons_zero, List.set_cons_succ, Array.replicate]
      refine tH (i := 10) (v := ?_) (y := (Or.inl ⟨by rfl, ?_⟩)) (h := ?_)
      rotate_left
      ·intro w _; go_simp; try with_reducible rfl
      try simp only [Act.put, List.setIfInBounds_toArray, List.set_cons_zero, List.set_cons_succ, Array.replicate]
      refine wpAnyH_done (by kernel_rfl) ?_ _
      go_wp2_with fail
      go_ret
      have hu2 := HU1.out.trans (Upd.of_below hHeld)
      exact ⟨rfl, ⟨xa, ka, xb, kb, xc, kc, xd, kd, Row.keep HR1.out hHeld, dkeep OA.out HR.out hu2, dkeep OB.out HR.out hu2, dkeep OC.out HR.out hu2, dkeep OD.out HR.out hu2⟩, hu2, fun h _ hav => dav_same HR.out (Row.keep HR1.out hHeld) hav⟩
     exact AllReadyH.nil
    ·have e0 : (PD.mk f0 n0 r0 f1 n1 r1 lim left false).write ((0 : Nat) : Int) b = (⟨f0, n0 ++ b, r0, f1, n1, r1, lim, leftC left, false⟩, 0) := by unfold PD.write; rw [if_neg hbad, if_neg harg]; exact (if_neg (show ¬ lim - ((n0.length + n1.length : Nat) : Int) < (b.length : Int) by omega)).trans rfl
     rw [e0]
     clear e0
     go_enter Try.func28, Try.ntmps28
     go_wp2_with fail
     refine (counts_ok p _ _ _ _ r0 r1 lim left 0 _ HR.out hl0 hm (by omega)).mono ?_; rintro e w1 ⟨rfl, hr1, hu1⟩
     have HR1 := Lib.hid hr1
     have HU1 := Lib.hid hu1
     clear hr1 hu1
     have h6 := Row.cell HR1.out 6
     simp only [DskC, List.getElem?_cons_succ, List.getElem?_cons_zero] at h6
     have H6 := Lib.hid h6
     clear h6
     go_upto_region 4 with fail
     refine wp_region_held_drew (S := fun w' => Below w1.heap.size w1 w') (by kernel_rfl) (by exact (Below.refl _ _).drew) (fun hHeld => ?_)
     refine tH (i := 0) (v := ?_) (y := (Or.inl ⟨by rfl, ?_⟩)) (h := ?_)
     rotate_left
     ·intro w _; go_simp; try with_reducible rfl
     try simp only [Act.put, List.setIfInBounds_toArray, List.set_cons_zero, List.set_cons_succ, Array.replicate]
     refine tH (i := 1) (v := ?_) (y := (Or.inl ⟨by rfl, ?_⟩)) (h := ?_)
     rotate_left
     ·intro w _; go_simp; try with_reducible rfl
     try simp only [Act.put, List.setIfInBounds_toArray, List.set_cons_zero, List.set_cons_succ, Array.replicate]
     refine tH (i := 2) (v := ?_) (y := (Or.inl ⟨by rfl, ?_⟩)) (h := ?_)
     rotate_left
     ·intro w _; go_simp; try with_reducible rfl
     try simp only [Act.put, List.setIfInBounds_toArray, List.set_cons_zero, List.set_cons_succ, Array.replicate]
     refine tH (i := 3) (v := ?_) (y := (Or.inl ⟨by rfl, ?_⟩)) (h := ?_)
     rotate_left
     ·intro w _; go_simp; try with_reducible rfl
     try simp only [Act.put, List.setIfInBounds_toArray, List.set_cons_zero, List.set_cons_succ, Array.replicate]
     refine tH (i := 4) (v := ?_) (y := (Or.inl ⟨by rfl, ?_⟩)) (h := ?_)
     rotate_left
     ·intro w _; go_simp; try with_reducible rfl
     try simp only [Act.put, List.setIfInBounds_toArray, List.set_cons_zero, List.set_cons_succ, Array.replicate]
     refine tH (i := 5) (v := ?_) (y := (Or.inl ⟨by rfl, ?_⟩)) (h := ?_)
     rotate_left
     ·intro w hSS; have h6 := bkeep hSS H6.out; go_simp; try with_reducible rfl
     try simp only [Act.put, List.setIfInBounds_toArray, List.set_cons_zero, List.set_cons_succ, Array.replicate]
     refine tH (i := 6) (v := ?_) (y := (Or.inl ⟨by rfl, ?_⟩)) (h := ?_)
     rotate_left
     ·intro w _; go_simp; try with_reducible rfl
     try simp only [Act.put, List.setIfInBounds_toArray, List.set_cons_zero, List.set_cons_succ, Array.replicate]
     refine rH [7] (h := ?_)
     refine cH (h := fun K hK => ?_) (hs := ?_)
     ·go_simp; go_at_call 44; refine (dsize_any p xb xd xa xc kb kd f0.length f1.length ka kc n0 n1 r0 r1 lim (leftC left) false _ (Row.keep HR1.out hHeld) (by omega)).mono ?_; rintro e wq ⟨rfl, hbq⟩; try go_simp
      refine hK.out _ _ (by exact bstep hHeld hbq) (fun hHeld => ?_)
      clear hK K
      try simp only [Act.put, List.setIfInBounds_toArray, List.set_cons_zero, List.set_cons_succ, Array.replicate]
      refine tH (i := 8) (v := ?_) (y := (Or.inl ⟨by rfl, ?_⟩)) (h := ?_)
      rotate_left
      ·intro w _; go_simp; try with_reducible rfl
      try simp only [Act.put, List.setIfInBounds_toArray, List.set_cons_zero, List.set_cons_succ, Array.replicate]
      refine tH (i := 9) (v := ?_) (y := (Or.inl ⟨by rfl, ?_⟩)) (h := ?_)
      rotate_left
      ·intro w _; go_simp; try with_reducible rfl
      try simp only [Act.put, List.setIfInBounds_toArray, List.set_cons_zero, List.set_cons_succ, Array.replicate]
      refine tH (i := 10) (v := ?_) (y := (Or.inl ⟨by rfl, ?_⟩)) (h := ?_)
      rotate_left
      ·intro w _; go_simp; try with_reducible rfl
      try simp only [Act.put, List.setIfInBounds_toArray, List.set_cons_zero, List.set_cons_succ, Array.replicate]
      refine wpAnyH_done (by kernel_rfl) ?_ _
      have hrq := Row.keep HR1.out hHeld
      have hq1 := Row.cell hrq 1
      simp only [DskC, List.getElem?_cons_succ, List.getElem?_cons_zero] at hq1
      have HRQ := Lib.hid hrq
      have huq : Upd p w wq := HU1.out.trans (Upd.of_below hHeld)
      have HUQ := Lib.hid huq
      have HOQ := Lib.hid (dkeep OB.out HR.out huq)
      clear hrq huq
      go_wp2_with (go_at_call 39; refine (concat_any _ [n0, b] _ (bss2 wq _ _ _ _ ((HOQ.out.sh).below (balloc (Below.refl _ _) _)) (HSB.out _ (HUQ.out.trans (Upd.of_below (balloc (Below.refl _ _) _))))) (by simp) (by simp; omega)).mono ?_; rintro e w3 ⟨v3, rfl, ho3, hb3⟩; have hb13 : Below wq.heap.size wq w3 := bstep (balloc (Below.refl _ _) _) hb3; have hr3 := Row.keep HRQ.out hb13; have hf3 := Row.frozen hr3 1; have hc3 := Row.cell hr3 1; simp only [DskC, List.getElem?_cons_succ, List.getElem?_cons_zero] at hc3; obtain ⟨x3, k3, rfl, -⟩ := ho3.sh.open)
      go_ret
      have hl : [n0, b].flatten = n0 ++ b := by simp
      have hll : n0.length + b.length = (n0 ++ b).length := List.length_append.symm
      rw [hl] at ho3
      try rw [hll]
      have hs3 := dset1 hr3 (.slice x3 (n0 ++ b).length k3)
      have hu4 := (HUQ.out.trans (Upd.of_below hb13)).trans hs3.2
      have hon := dkeep ho3 hr3 hs3.2
      exact ⟨rfl, ⟨xa, ka, x3, k3, xc, kc, xd, kd, hs3.1, dkeep OA.out HR.out hu4, hon, dkeep OC.out HR.out hu4, dkeep OD.out HR.out hu4⟩, hu4, fun h hh hav => dav_b HR.out hs3.1 (fresh_no ho3 (by have := HUQ.out.sizeLe; simp; omega)) hav⟩
     exact AllReadyH.nil
   ·have hw6 : IntKind.i64.wrap (lim - ((n0.length : Int) + (n1.length : Int))) = lim - ((n0.length : Int) + (n1.length : Int)) := IntWalk.i64_in _ ⟨by omega, by omega⟩
    by_cases hfit : lim - ((n0.length : Int) + (n1.length : Int)) < (b.length : Int)
    ·have e0 : (PD.mk f0 n0 r0 f1 n1 r1 lim left false).write ((1 : Nat) : Int) b = (⟨f0, n0, r0, f1, n1, r1, lim, leftC left, false⟩, 8) := by unfold PD.write; rw [if_neg hbad, if_neg harg]; exact if_pos (show lim - ((n0.length + n1.length : Nat) : Int) < (b.length : Int) by omega)
     rw [e0]
     clear e0
     go_enter Try.func28, Try.ntmps28
     go_wp2_with fail
     refine (counts_ok p _ _ _ _ r0 r1 lim left 1 _ HR.out hl0 hm (by omega)).mono ?_; rintro e w1 ⟨rfl, hr1, hu1⟩
     have HR1 := Lib.hid hr1
     have HU1 := Lib.hid hu1
     clear hr1 hu1
     have h6 := Row.cell HR1.out 6
     simp only [DskC, List.getElem?_cons_succ, List.getElem?_cons_zero] at h6
     have H6 := Lib.hid h6
     clear h6
     go_upto_region 4 with fail
     refine wp_region_held_drew (S := fun w' => Below w1.heap.size w1 w') (by kernel_rfl) (by exact (Below.refl _ _).drew) (fun hHeld => ?_)
     refine tH (i := 0) (v := ?_) (y := (Or.inl ⟨by rfl, ?_⟩)) (h := ?_)
     rotate_left
     ·intro w _; go_simp; try with_reducible rfl
     try simp only [Act.put, List.setIfInBounds_toArray, List.set_cons_zero, List.set_cons_succ, Array.replicate]
     refine tH (i := 1) (v := ?_) (y := (Or.inl ⟨by rfl, ?_⟩)) (h := ?_)
     rotate_left
     ·intro w _; go_simp; try with_reducible rfl
     try simp only [Act.put, List.setIfInBounds_toArray, List.set_cons_zero, List.set_cons_succ, Array.replicate]
     refine tH (i := 2) (v := ?_) (y := (Or.inl ⟨by rfl, ?_⟩)) (h := ?_)
     rotate_left
     ·intro w _; go_simp; try with_reducible rfl
     try simp only [Act.put, List.setIfInBounds_toArray, List.set_cons_zero, List.set_cons_succ, Array.replicate]
     refine tH (i := 3) (v := ?_) (y := (Or.inl ⟨by rfl, ?_⟩)) (h := ?_)
     rotate_left
     ·intro w _; go_simp; try with_reducible rfl
     try simp only [Act.put, List.setIfInBounds_toArray, List.set_cons_zero, List.set_cons_succ, Array.replicate]
     refine tH (i := 4) (v := ?_) (y := (Or.inl ⟨by rfl, ?_⟩)) (h := ?_)
     rotate_left
     ·intro w _; go_simp; try with_reducible rfl
     try simp only [Act.put, List.setIfInBounds_toArray, List.set_cons_zero, List.set_cons_succ, Array.replicate]
     refine tH (i := 5) (v := ?_) (y := (Or.inl ⟨by rfl, ?_⟩)) (h := ?_)
     rotate_left
     ·intro w hSS; have h6 := bkeep hSS H6.out; go_simp; try with_reducible rfl
     try simp only [Act.put, List.setIfInBounds_toArray, List.set_cons_zero, List.set_cons_succ, Array.replicate]
     refine tH (i := 6) (v := ?_) (y := (Or.inl ⟨by rfl, ?_⟩)) (h := ?_)
     rotate_left
     ·intro w _; go_simp; try with_reducible rfl
     try simp only [Act.put, List.setIfInBounds_toArray, List.set_cons_zero, List.set_cons_succ, Array.replicate]
     refine rH [7] (h := ?_)
     refine cH (h := fun K hK => ?_) (hs := ?_)
     ·go_simp; go_at_call 44; refine (dsize_any p xb xd xa xc kb kd f0.length f1.length ka kc n0 n1 r0 r1 lim (leftC left) false _ (Row.keep HR1.out hHeld) (by omega)).mono ?_; rintro e wq ⟨rfl, hbq⟩; try go_simp
      refine hK.out _ _ (by exact bstep hHeld hbq) (fun hHeld => ?_)
      clear hK K
      try simp only [Act.put, List.setIfInBounds_toArray, List.set_cons_zero, List.set_cons_succ, Array.replicate]
      refine tH (i := 8) (v := ?_) (y := (Or.inl ⟨by rfl, ?_⟩)) (h := ?_)
      rotate_left
      ·intro w _; go_simp; try with_reducible rfl
      try simp only [Act.put, List.setIfInBounds_toArray, List.set_cons_zero, List.set_cons_succ, Array.replicate]
      refine tH (i := 9) (v := ?_) (y := (Or.inl ⟨by rfl, ?_⟩)) (h := ?_)
      rotate_left
      ·intro w _; go_simp; try with_reducible rfl
      try simp only [Act.put, List.setIfInBounds_toArray, List.set_cons_zero, List.set_cons_succ, Array.replicate]
      refine tH (i := 10) (v := ?_) (y := (Or.inl ⟨by rfl, ?_⟩)) (h := ?_)
      rotate_left
      ·intro w _; go_simp; try with_reducible rfl
      try simp only [Act.put, List.setIfInBounds_toArray, List.set_cons_zero, List.set_cons_succ, Array.replicate]
      refine wpAnyH_done (by kernel_rfl) ?_ _
      go_wp2_with fail
      go_ret
      have hu2 := HU1.out.trans (Upd.of_below hHeld)
      exact ⟨rfl, ⟨xa, ka, xb, kb, xc, kc, xd, kd, Row.keep HR1.out hHeld, dkeep OA.out HR.out hu2, dkeep OB.out HR.out hu2, dkeep OC.out HR.out hu2, dkeep OD.out HR.out hu2⟩, hu2, fun h _ hav => dav_same HR.out (Row.keep HR1.out hHeld) hav⟩
     exact AllReadyH.nil
    ·have e0 : (PD.mk f0 n0 r0 f1 n1 r1 lim left false).write ((1 : Nat) : Int) b = (⟨f0, n0, r0, f1, n1 ++ b, r1, lim, leftC left, false⟩, 0) := by unfold PD.write; rw [if_neg hbad, if_neg harg]; exact (if_neg (show ¬ lim - ((n0.length + n1.length : Nat) : Int) < (b.length : Int) by omega)).trans rfl
     rw [e0]
     clear e0
     go_enter Try.func28, Try.ntmps28
     go_wp2_with fail
     refine (counts_ok p _ _ _ _ r0 r1 lim left 1 _ HR.out hl0 hm (by omega)).mono ?_; rintro e w1 ⟨rfl, hr1, hu1⟩
     have HR1 := Lib.hid hr1
     have HU1 := Lib.hid hu1
     clear hr1 hu1
     have h6 := Row.cell HR1.out 6
     simp only [DskC, List.getElem?_cons_succ, List.getElem?_cons_zero] at h6
     have H6 := Lib.hid h6
     clear h6
     go_upto_region 4 with fail
     refine wp_region_held_drew (S := fun w' => Below w1.heap.size w1 w') (by kernel_rfl) (by exact (Below.refl _ _).drew) (fun hHeld => ?_)
     refine tH (i := 0) (v := ?_) (y := (Or.inl ⟨by rfl, ?_⟩)) (h := ?_)
     rotate_left
     ·intro w _; go_simp; try with_reducible rfl
     try simp only [Act.put, List.setIfInBounds_toArray, List.set_cons_zero, List.set_cons_succ, Array.replicate]
     refine tH (i := 1) (v := ?_) (y := (Or.inl ⟨by rfl, ?_⟩)) (h := ?_)
     rotate_left
     ·intro w _; go_simp; try with_reducible rfl
     try simp only [Act.put, List.setIfInBounds_toArray, List.set_cons_zero, List.set_cons_succ, Array.replicate]
     refine tH (i := 2) (v := ?_) (y := (Or.inl ⟨by rfl, ?_⟩)) (h := ?_)
     rotate_left
     ·intro w _; go_simp; try with_reducible rfl
     try simp only [Act.put, List.setIfInBounds_toArray, List.set_cons_zero, List.set_cons_succ, Array.replicate]
     refine tH (i := 3) (v := ?_) (y := (Or.inl ⟨by rfl, ?_⟩)) (h := ?_)
     rotate_left
     ·intro w _; go_simp; try with_reducible rfl
     try simp only [Act.put, List.setIfInBounds_toArray, List.set_cons_zero, List.set_cons_succ, Array.replicate]
     refine tH (i := 4) (v := ?_) (y := (Or.inl ⟨by rfl, ?_⟩)) (h := ?_)
     rotate_left
     ·intro w _; go_simp; try with_reducible rfl
     try simp only [Act.put, List.setIfInBounds_toArray, List.set_cons_zero, List.set_cons_succ, Array.replicate]
     refine tH (i := 5) (v := ?_) (y := (Or.inl ⟨by rfl, ?_⟩)) (h := ?_)
     rotate_left
     ·intro w hSS; have h6 := bkeep hSS H6.out; go_simp; try with_reducible rfl
     try simp only [Act.put, List.setIfInBounds_toArray, List.set_cons_zero, List.set_cons_succ, Array.replicate]
     refine tH (i := 6) (v := ?_) (y := (Or.inl ⟨by rfl, ?_⟩)) (h := ?_)
     rotate_left
     ·intro w _; go_simp; try with_reducible rfl
     try simp only [Act.put, List.setIfInBounds_toArray, List.set_cons_zero, List.set_cons_succ, Array.replicate]
     refine rH [7] (h := ?_)
     refine cH (h := fun K hK => ?_) (hs := ?_)
     ·go_simp; go_at_call 44; refine (dsize_any p xb xd xa xc kb kd f0.length f1.length ka kc n0 n1 r0 r1 lim (leftC left) false _ (Row.keep HR1.out hHeld) (by omega)).mono ?_; rintro e wq ⟨rfl, hbq⟩; try go_simp
      refine hK.out _ _ (by exact bstep hHeld hbq) (fun hHeld => ?_)
      clear hK K
      try simp only [Act.put, List.setIfInBounds_toArray, List.set_cons_zero, List.set_cons_succ, Array.replicate]
      refine tH (i := 8) (v := ?_) (y := (Or.inl ⟨by rfl, ?_⟩)) (h := ?_)
      rotate_left
      ·intro w _; go_simp; try with_reducible rfl
      try simp only [Act.put, List.setIfInBounds_toArray, List.set_cons_zero, List.set_cons_succ, Array.replicate]
      refine tH (i := 9) (v := ?_) (y := (Or.inl ⟨by rfl, ?_⟩)) (h := ?_)
      rotate_left
      ·intro w _; go_simp; try with_reducible rfl
      try simp only [Act.put, List.setIfInBounds_toArray, List.set_cons_zero, List.set_cons_succ, Array.replicate]
      refine tH (i := 10) (v := ?_) (y := (Or.inl ⟨by rfl, ?_⟩)) (h := ?_)
      rotate_left
      ·intro w _; go_simp; try with_reducible rfl
      try simp only [Act.put, List.setIfInBounds_toArray, List.set_cons_zero, List.set_cons_succ, Array.replicate]
      refine wpAnyH_done (by kernel_rfl) ?_ _
      have hrq := Row.keep HR1.out hHeld
      have hq1 := Row.cell hrq 4
      simp only [DskC, List.getElem?_cons_succ, List.getElem?_cons_zero] at hq1
      have HRQ := Lib.hid hrq
      have huq : Upd p w wq := HU1.out.trans (Upd.of_below hHeld)
      have HUQ := Lib.hid huq
      have HOQ := Lib.hid (dkeep OD.out HR.out huq)
      clear hrq huq
      go_wp2_with (go_at_call 39; refine (concat_any _ [n1, b] _ (bss2 wq _ _ _ _ ((HOQ.out.sh).below (balloc (Below.refl _ _) _)) (HSB.out _ (HUQ.out.trans (Upd.of_below (balloc (Below.refl _ _) _))))) (by simp) (by simp; omega)).mono ?_; rintro e w3 ⟨v3, rfl, ho3, hb3⟩; have hb13 : Below wq.heap.size wq w3 := bstep (balloc (Below.refl _ _) _) hb3; have hr3 := Row.keep HRQ.out hb13; have hf3 := Row.frozen hr3 4; have hc3 := Row.cell hr3 4; simp only [DskC, List.getElem?_cons_succ, List.getElem?_cons_zero] at hc3; obtain ⟨x3, k3, rfl, -⟩ := ho3.sh.open)
      go_ret
      have hl : [n1, b].flatten = n1 ++ b := by simp
      have hll : n1.length + b.length = (n1 ++ b).length := List.length_append.symm
      rw [hl] at ho3
      try rw [hll]
      have hs3 := dset4 hr3 (.slice x3 (n1 ++ b).length k3)
      have hu4 := (HUQ.out.trans (Upd.of_below hb13)).trans hs3.2
      have hon := dkeep ho3 hr3 hs3.2
      exact ⟨rfl, ⟨xa, ka, xb, kb, xc, kc, x3, k3, hs3.1, dkeep OA.out HR.out hu4, dkeep OB.out HR.out hu4, dkeep OC.out HR.out hu4, hon⟩, hu4, fun h hh hav => dav_d HR.out hs3.1 (fresh_no ho3 (by have := HUQ.out.sizeLe; simp; omega)) hav⟩
     exact AllReadyH.nil
theorem Write_any (p : Nat) (n : Int) (vb : Value) (b : List UInt8) (S : PD) (w : World) (hS : Dsk w p S) (hsb : ∀ w', Upd p w w' → Sh w' vb b) (hm : S.left ≤ 9223372036854775807) (ht : S.n0.length + S.n1.length ≤ 100000000000) (hbl : b.length ≤ 140737488355328) (hlim : -1000000000000 ≤ S.lim ∧ S.lim ≤ 1000000000000) :
  Calls Try.prog 28 #[.pointer (some ⟨p, 0, none⟩), .int .i64 n, vb] w fun e w' => e = .returned (.int .i64 ((S.write n b).2 : Int)) ∧ Dsk w' p (S.write n b).1 ∧ Upd p w w' :=
 (Write0_any p n vb b S w hS hsb hm ht hbl hlim).mono fun e w' ⟨h1, h2, h3, _⟩ => ⟨h1, h2, h3⟩
theorem Replace_any (p : Nat) (n : Int) (vb : Value) (b : List UInt8) (S : PD) (w : World) (hS : Dsk w p S) (hsb : ∀ w', Upd p w w' → Sh w' vb b) (hm : S.left ≤ 9223372036854775807) (ht : S.n0.length + S.n1.length ≤ 100000000000) (hbl : b.length ≤ 140737488355328) (hlim : -1000000000000 ≤ S.lim ∧ S.lim ≤ 1000000000000) :
  Calls Try.prog 25 #[.pointer (some ⟨p, 0, none⟩), .int .i64 n, vb] w fun e w' => e = .returned (.int .i64 ((S.replace n b).2 : Int)) ∧ Dsk w' p (S.replace n b).1 ∧ Upd p w w' := by
 obtain ⟨xa, ka, xb, kb, xc, kc, xd, kd, hR, oa, ob, oc, od⟩ := hS
 obtain ⟨f0, n0, r0, f1, n1, r1, lim, left, dead⟩ := S
 simp only at hR oa ob oc od hm ht hlim
 have HR := Lib.hid hR
 have OA := Lib.hid oa
 have OB := Lib.hid ob
 have OC := Lib.hid oc
 have OD := Lib.hid od
 clear hR oa ob oc od
 obtain ⟨xv, kv, rfl, -⟩ := (hsb w (Upd.refl _ _)).open
 have HSB := Lib.hid hsb
 clear hsb
 by_cases hbad : dead = true ∨ left = 0
 ·have e0 : (PD.mk f0 n0 r0 f1 n1 r1 lim left dead).replace n b = (⟨f0, n0, r0, f1, n1, r1, lim, left, true⟩, 140) := by unfold PD.replace; rw [if_pos hbad]; rfl
  rw [e0]
  clear e0
  go_enter Try.func25, Try.ntmps25
  go_wp2_with fail
  refine (counts_dead p _ _ _ _ r0 r1 dead lim left n _ HR.out hbad).mono ?_; rintro e w1 ⟨rfl, hr1, hu1⟩
  go_wp2_with fail
  go_ret
  exact ⟨rfl, ⟨xa, ka, xb, kb, xc, kc, xd, kd, hr1, dkeep OA.out HR.out hu1, dkeep OB.out HR.out hu1, dkeep OC.out HR.out hu1, dkeep OD.out HR.out hu1⟩, hu1⟩
 ·have hd : dead = false := by cases dead; rfl; exact absurd (.inl rfl) hbad
  have hl0 : left ≠ 0 := fun h => hbad (.inr h)
  subst hd
  by_cases harg : n < 0 ∨ 1 < n
  ·have e0 : (PD.mk f0 n0 r0 f1 n1 r1 lim left false).replace n b = (⟨f0, n0, r0, f1, n1, r1, lim, leftC left, false⟩, 1) := by unfold PD.replace; rw [if_neg hbad, if_pos harg]; rfl
   rw [e0]
   clear e0
   go_enter Try.func25, Try.ntmps25
   go_wp2_with fail
   refine (counts_arg p _ _ _ _ r0 r1 lim left n _ HR.out hl0 hm harg).mono ?_; rintro e w1 ⟨rfl, hr1, hu1⟩
   go_wp2_with fail
   go_ret
   exact ⟨rfl, ⟨xa, ka, xb, kb, xc, kc, xd, kd, hr1, dkeep OA.out HR.out hu1, dkeep OB.out HR.out hu1, dkeep OC.out HR.out hu1, dkeep OD.out HR.out hu1⟩, hu1⟩
  ·have hn01 : n = ((0 : Nat) : Int) ∨ n = ((1 : Nat) : Int) := by omega
   rcases hn01 with rfl | rfl
   ·have hwo : IntKind.i64.wrap ((n0.length : Int) + (n1.length : Int) - (n0.length : Int)) = (n1.length : Int) := by rw [IntWalk.i64_in _ ⟨by omega, by omega⟩]; omega
    have hwo2 : IntKind.i64.wrap (n1.length : Int) = (n1.length : Int) := IntWalk.i64_in _ ⟨by omega, by omega⟩
    have hw6 : IntKind.i64.wrap (lim - (n1.length : Int)) = lim - (n1.length : Int) := IntWalk.i64_in _ ⟨by omega, by omega⟩
    by_cases hfit : lim - (n1.length : Int) < (b.length : Int)
    ·have e0 : (PD.mk f0 n0 r0 f1 n1 r1 lim left false).replace ((0 : Nat) : Int) b = (⟨f0, n0, r0, f1, n1, r1, lim, leftC left, false⟩, 8) := by unfold PD.replace; rw [if_neg hbad, if_neg harg]; exact if_pos (show lim - (((n0.length + n1.length : Nat) : Int) - (n0.length : Int)) < (b.length : Int) by omega)
     rw [e0]
     clear e0
     go_enter Try.func25, Try.ntmps25
     go_wp2_with fail
     refine (counts_ok p _ _ _ _ r0 r1 lim left 0 _ HR.out hl0 hm (by omega)).mono ?_; rintro e w1 ⟨rfl, hr1, hu1⟩
     have HR1 := Lib.hid hr1
     have HU1 := Lib.hid hu1
     clear hr1 hu1
     have h6 := Row.cell HR1.out 6
     have h1 := Row.cell HR1.out 1
     simp only [DskC, List.getElem?_cons_succ, List.getElem?_cons_zero] at h6 h1
     have H6 := Lib.hid h6
     have H1 := Lib.hid h1
     clear h6 h1
     go_upto_region 4 with fail
     refine wp_region_held_drew (S := fun w' => Below w1.heap.size w1 w') (by kernel_rfl) (by exact (Below.refl _ _).drew) (fun hHeld => ?_)
     refine tH (i := 0) (v := ?_) (y := (Or.inl ⟨by rfl, ?_⟩)) (h := ?_)
     rotate_left
     ·intro w _; go_simp; try with_reducible rfl
     try simp only [Act.put, List.setIfInBounds_toArray, List.set_cons_zero, List.set_cons_succ, Array.replicate]
     refine tH (i := 1) (v := ?_) (y := (Or.inl ⟨by rfl, ?_⟩)) (h := ?_)
     rotate_left
     ·intro w _; go_simp; try with_reducible rfl
     try simp only [Act.put, List.setIfInBounds_toArray, List.set_cons_zero, List.set_cons_succ, Array.replicate]
     refine tH (i := 2) (v := ?_) (y := (Or.inl ⟨by rfl, ?_⟩)) (h := ?_)
     rotate_left
     ·intro w _; go_simp; try with_reducible rfl
     try simp only [Act.put, List.setIfInBounds_toArray, List.set_cons_zero, List.set_cons_succ, Array.replicate]
     refine tH (i := 3) (v := ?_) (y := (Or.inl ⟨by rfl, ?_⟩)) (h := ?_)
     rotate_left
     ·intro w _; go_simp; try with_reducible rfl
     try simp only [Act.put, List.setIfInBounds_toArray, List.set_cons_zero, List.set_cons_succ, Array.replicate]
     refine tH (i := 4) (v := ?_) (y := (Or.inl ⟨by rfl, ?_⟩)) (h := ?_)
     rotate_left
     ·intro w _; go_simp; try with_reducible rfl
     try simp only [Act.put, List.setIfInBounds_toArray, List.set_cons_zero, List.set_cons_succ, Array.replicate]
     refine tH (i := 5) (v := ?_) (y := (Or.inl ⟨by rfl, ?_⟩)) (h := ?_)
     rotate_left
     ·intro w hSS; have h6 := bkeep hSS H6.out; go_simp; try with_reducible rfl
     try simp only [Act.put, List.setIfInBounds_toArray, List.set_cons_zero, List.set_cons_succ, Array.replicate]
     refine tH (i := 6) (v := ?_) (y := (Or.inl ⟨by rfl, ?_⟩)) (h := ?_)
     rotate_left
     ·intro w _; go_simp; try with_reducible rfl
     try simp only [Act.put, List.setIfInBounds_toArray, List.set_cons_zero, List.set_cons_succ, Array.replicate]
     refine tH (i := 8) (v := ?_) (y := (Or.inl ⟨by rfl, ?_⟩)) (h := ?_)
     rotate_left
     ·intro w _; go_simp; try with_reducible rfl
     try simp only [Act.put, List.setIfInBounds_toArray, List.set_cons_zero, List.set_cons_succ, Array.replicate]
     refine tH (i := 9) (v := ?_) (y := (Or.inl ⟨by rfl, ?_⟩)) (h := ?_)
     rotate_left
     ·intro w _; go_simp; try with_reducible rfl
     try simp only [Act.put, List.setIfInBounds_toArray, List.set_cons_zero, List.set_cons_succ, Array.replicate]
     refine tH (i := 10) (v := ?_) (y := (Or.inl ⟨by rfl, ?_⟩)) (h := ?_)
     rotate_left
     ·intro w _; go_simp; try with_reducible rfl
     try simp only [Act.put, List.setIfInBounds_toArray, List.set_cons_zero, List.set_cons_succ, Array.replicate]
     refine tH (i := 11) (v := ?_) (y := (Or.inl ⟨by rfl, ?_⟩)) (h := ?_)
     rotate_left
     ·intro w hSS; have h1 := bkeep hSS H1.out; go_simp; try with_reducible rfl
     try simp only [Act.put, List.setIfInBounds_toArray, List.set_cons_zero, List.set_cons_succ, Array.replicate]
     refine tH (i := 12) (v := ?_) (y := (Or.inl ⟨by rfl, ?_⟩)) (h := ?_)
     rotate_left
     ·intro w _; go_simp; try with_reducible rfl
     try simp only [Act.put, List.setIfInBounds_toArray, List.set_cons_zero, List.set_cons_succ, Array.replicate]
     refine rH [7] (h := ?_)
     refine cH (h := fun K hK => ?_) (hs := ?_)
     ·go_simp; go_at_call 44; refine (dsize_any p xb xd xa xc kb kd f0.length f1.length ka kc n0 n1 r0 r1 lim (leftC left) false _ (Row.keep HR1.out hHeld) (by omega)).mono ?_; rintro e wq ⟨rfl, hbq⟩; try go_simp
      refine hK.out _ _ (by exact bstep hHeld hbq) (fun hHeld => ?_)
      clear hK K
      try simp only [Act.put, List.setIfInBounds_toArray, List.set_cons_zero, List.set_cons_succ, Array.replicate]
      refine tH (i := 13) (v := ?_) (y := (Or.inl ⟨by rfl, ?_⟩)) (h := ?_)
      rotate_left
      ·intro w _; go_simp; try with_reducible rfl
      try simp only [Act.put, List.setIfInBounds_toArray, List.set_cons_zero, List.set_cons_succ, Array.replicate]
      refine tH (i := 14) (v := ?_) (y := (Or.inl ⟨by rfl, ?_⟩)) (h := ?_)
      rotate_left
      ·intro w _; go_simp; try with_reducible rfl
      try simp only [Act.put, List.setIfInBounds_toArray, List.set_cons_zero, List.set_cons_succ, Array.replicate]
      refine tH (i := 15) (v := ?_) (y := (Or.inl ⟨by rfl, ?_⟩)) (h := ?_)
      rotate_left
      ·intro w _; go_simp; try with_reducible rfl
      try simp only [Act.put, List.setIfInBounds_toArray, List.set_cons_zero, List.set_cons_succ, Array.replicate]
      refine tH (i := 16) (v := ?_) (y := (Or.inl ⟨by rfl, ?_⟩)) (h := ?_)
      rotate_left
      ·intro w _; go_simp; try with_reducible rfl
      try simp only [Act.put, List.setIfInBounds_toArray, List.set_cons_zero, List.set_cons_succ, Array.replicate]
      refine wpAnyH_done (by kernel_rfl) ?_ _
      go_wp2_with fail
      go_ret
      have hu2 := HU1.out.trans (Upd.of_below hHeld)
      exact ⟨rfl, ⟨xa, ka, xb, kb, xc, kc, xd, kd, Row.keep HR1.out hHeld, dkeep OA.out HR.out hu2, dkeep OB.out HR.out hu2, dkeep OC.out HR.out hu2, dkeep OD.out HR.out hu2⟩, hu2⟩
     exact AllReadyH.nil
    ·have e0 : (PD.mk f0 n0 r0 f1 n1 r1 lim left false).replace ((0 : Nat) : Int) b = (⟨f0, b, true, f1, n1, r1, lim, leftC left, false⟩, 0) := by unfold PD.replace; rw [if_neg hbad, if_neg harg]; exact (if_neg (show ¬ lim - (((n0.length + n1.length : Nat) : Int) - (n0.length : Int)) < (b.length : Int) by omega)).trans rfl
     rw [e0]
     clear e0
     go_enter Try.func25, Try.ntmps25
     go_wp2_with fail
     refine (counts_ok p _ _ _ _ r0 r1 lim left 0 _ HR.out hl0 hm (by omega)).mono ?_; rintro e w1 ⟨rfl, hr1, hu1⟩
     have HR1 := Lib.hid hr1
     have HU1 := Lib.hid hu1
     clear hr1 hu1
     have h6 := Row.cell HR1.out 6
     have h1 := Row.cell HR1.out 1
     simp only [DskC, List.getElem?_cons_succ, List.getElem?_cons_zero] at h6 h1
     have H6 := Lib.hid h6
     have H1 := Lib.hid h1
     clear h6 h1
     go_upto_region 4 with fail
     refine wp_region_held_drew (S := fun w' => Below w1.heap.size w1 w') (by kernel_rfl) (by exact (Below.refl _ _).drew) (fun hHeld => ?_)
     refine tH (i := 0) (v := ?_) (y := (Or.inl ⟨by rfl, ?_⟩)) (h := ?_)
     rotate_left
     ·intro w _; go_simp; try with_reducible rfl
     try simp only [Act.put, List.setIfInBounds_toArray, List.set_cons_zero, List.set_cons_succ, Array.replicate]
     refine tH (i := 1) (v := ?_) (y := (Or.inl ⟨by rfl, ?_⟩)) (h := ?_)
     rotate_left
     ·intro w _; go_simp; try with_reducible rfl
     try simp only [Act.put, List.setIfInBounds_toArray, List.set_cons_zero, List.set_cons_succ, Array.replicate]
     refine tH (i := 2) (v := ?_) (y := (Or.inl ⟨by rfl, ?_⟩)) (h := ?_)
     rotate_left
     ·intro w _; go_simp; try with_reducible rfl
     try simp only [Act.put, List.setIfInBounds_toArray, List.set_cons_zero, List.set_cons_succ, Array.replicate]
     refine tH (i := 3) (v := ?_) (y := (Or.inl ⟨by rfl, ?_⟩)) (h := ?_)
     rotate_left
     ·intro w _; go_simp; try with_reducible rfl
     try simp only [Act.put, List.setIfInBounds_toArray, List.set_cons_zero, List.set_cons_succ, Array.replicate]
     refine tH (i := 4) (v := ?_) (y := (Or.inl ⟨by rfl, ?_⟩)) (h := ?_)
     rotate_left
     ·intro w _; go_simp; try with_reducible rfl
     try simp only [Act.put, List.setIfInBounds_toArray, List.set_cons_zero, List.set_cons_succ, Array.replicate]
     refine tH (i := 5) (v := ?_) (y := (Or.inl ⟨by rfl, ?_⟩)) (h := ?_)
     rotate_left
     ·intro w hSS; have h6 := bkeep hSS H6.out; go_simp; try with_reducible rfl
     try simp only [Act.put, List.setIfInBounds_toArray, List.set_cons_zero, List.set_cons_succ, Array.replicate]
     refine tH (i := 6) (v := ?_) (y := (Or.inl ⟨by rfl, ?_⟩)) (h := ?_)
     rotate_left
     ·intro w _; go_simp; try with_reducible rfl
     try simp only [Act.put, List.setIfInBounds_toArray, List.set_cons_zero, List.set_cons_succ, Array.replicate]
     refine tH (i := 8) (v := ?_) (y := (Or.inl ⟨by rfl, ?_⟩)) (h := ?_)
     rotate_left
     ·intro w _; go_simp; try with_reducible rfl
     try simp only [Act.put, List.setIfInBounds_toArray, List.set_cons_zero, List.set_cons_succ, Array.replicate]
     refine tH (i := 9) (v := ?_) (y := (Or.inl ⟨by rfl, ?_⟩)) (h := ?_)
     rotate_left
     ·intro w _; go_simp; try with_reducible rfl
     try simp only [Act.put, List.setIfInBounds_toArray, List.set_cons_zero, List.set_cons_succ, Array.replicate]
     refine tH (i := 10) (v := ?_) (y := (Or.inl ⟨by rfl, ?_⟩)) (h := ?_)
     rotate_left
     ·intro w _; go_simp; try with_reducible rfl
     try simp only [Act.put, List.setIfInBounds_toArray, List.set_cons_zero, List.set_cons_succ, Array.replicate]
     refine tH (i := 11) (v := ?_) (y := (Or.inl ⟨by rfl, ?_⟩)) (h := ?_)
     rotate_left
     ·intro w hSS; have h1 := bkeep hSS H1.out; go_simp; try with_reducible rfl
     try simp only [Act.put, List.setIfInBounds_toArray, List.set_cons_zero, List.set_cons_succ, Array.replicate]
     refine tH (i := 12) (v := ?_) (y := (Or.inl ⟨by rfl, ?_⟩)) (h := ?_)
     rotate_left
     ·intro w _; go_simp; try with_reducible rfl
     try simp only [Act.put, List.setIfInBounds_toArray, List.set_cons_zero, List.set_cons_succ, Array.replicate]
     refine rH [7] (h := ?_)
     refine cH (h := fun K hK => ?_) (hs := ?_)
     ·go_simp; go_at_call 44; refine (dsize_any p xb xd xa xc kb kd f0.length f1.length ka kc n0 n1 r0 r1 lim (leftC left) false _ (Row.keep HR1.out hHeld) (by omega)).mono ?_; rintro e wq ⟨rfl, hbq⟩; try go_simp
      refine hK.out _ _ (by exact bstep hHeld hbq) (fun hHeld => ?_)
      clear hK K
      try simp only [Act.put, List.setIfInBounds_toArray, List.set_cons_zero, List.set_cons_succ, Array.replicate]
      refine tH (i := 13) (v := ?_) (y := (Or.inl ⟨by rfl, ?_⟩)) (h := ?_)
      rotate_left
      ·intro w _; go_simp; try with_reducible rfl
      try simp only [Act.put, List.setIfInBounds_toArray, List.set_cons_zero, List.set_cons_succ, Array.replicate]
      refine tH (i := 14) (v := ?_) (y := (Or.inl ⟨by rfl, ?_⟩)) (h := ?_)
      rotate_left
      ·intro w _; go_simp; try with_reducible rfl
      try simp only [Act.put, List.setIfInBounds_toArray, List.set_cons_zero, List.set_cons_succ, Array.replicate]
      refine tH (i := 15) (v := ?_) (y := (Or.inl ⟨by rfl, ?_⟩)) (h := ?_)
      rotate_left
      ·intro w _; go_simp; try with_reducible rfl
      try simp only [Act.put, List.setIfInBounds_toArray, List.set_cons_zero, List.set_cons_succ, Array.replicate]
      refine tH (i := 16) (v := ?_) (y := (Or.inl ⟨by rfl, ?_⟩)) (h := ?_)
      rotate_left
      ·intro w _; go_simp; try with_reducible rfl
      try simp only [Act.put, List.setIfInBounds_toArray, List.set_cons_zero, List.set_cons_succ, Array.replicate]
      refine wpAnyH_done (by kernel_rfl) ?_ _
      have hrq := Row.keep HR1.out hHeld
      have HRQ := Lib.hid hrq
      have huq : Upd p w wq := HU1.out.trans (Upd.of_below hHeld)
      have HUQ := Lib.hid huq
      clear hrq huq
      go_wp2_with (go_at_call 37; refine (clone_any _ b _ (HSB.out _ HUQ.out) (by omega)).mono ?_; rintro e w3 ⟨v3, rfl, ho3, hb3⟩; have hr3 := Row.keep HRQ.out hb3; have hf3 := Row.frozen hr3 1; have hf4 := Row.frozen hr3 2; have hc3 := Row.cell hr3 1; have hc4 := Row.cell hr3 2; simp only [DskC, List.getElem?_cons_succ, List.getElem?_cons_zero] at hc3 hc4; obtain ⟨x3, k3, rfl, -⟩ := ho3.sh.open)
      go_ret
      have hs3 := dset1 hr3 (.slice x3 b.length k3)
      have hs4 := dset2 hs3.1 true
      have hu34 := hs3.2.trans hs4.2
      have hu4 := (HUQ.out.trans (Upd.of_below hb3)).trans hu34
      have hon := dkeep ho3 hr3 hu34
      exact ⟨rfl, ⟨xa, ka, x3, k3, xc, kc, xd, kd, hs4.1, dkeep OA.out HR.out hu4, hon, dkeep OC.out HR.out hu4, dkeep OD.out HR.out hu4⟩, hu4⟩
     exact AllReadyH.nil
   ·have hwo : IntKind.i64.wrap ((n0.length : Int) + (n1.length : Int) - (n1.length : Int)) = (n0.length : Int) := by rw [IntWalk.i64_in _ ⟨by omega, by omega⟩]; omega
    have hwo2 : IntKind.i64.wrap (n0.length : Int) = (n0.length : Int) := IntWalk.i64_in _ ⟨by omega, by omega⟩
    have hw6 : IntKind.i64.wrap (lim - (n0.length : Int)) = lim - (n0.length : Int) := IntWalk.i64_in _ ⟨by omega, by omega⟩
    by_cases hfit : lim - (n0.length : Int) < (b.length : Int)
    ·have e0 : (PD.mk f0 n0 r0 f1 n1 r1 lim left false).replace ((1 : Nat) : Int) b = (⟨f0, n0, r0, f1, n1, r1, lim, leftC left, false⟩, 8) := by unfold PD.replace; rw [if_neg hbad, if_neg harg]; exact if_pos (show lim - (((n0.length + n1.length : Nat) : Int) - (n1.length : Int)) < (b.length : Int) by omega)
     rw [e0]
     clear e0
     go_enter Try.func25, Try.ntmps25
     go_wp2_with fail
     refine (counts_ok p _ _ _ _ r0 r1 lim left 1 _ HR.out hl0 hm (by omega)).mono ?_; rintro e w1 ⟨rfl, hr1, hu1⟩
     have HR1 := Lib.hid hr1
     have HU1 := Lib.hid hu1
     clear hr1 hu1
     have h6 := Row.cell HR1.out 6
     have h1 := Row.cell HR1.out 4
     simp only [DskC, List.getElem?_cons_succ, List.getElem?_cons_zero] at h6 h1
     have H6 := Lib.hid h6
     have H1 := Lib.hid h1
     clear h6 h1
     go_upto_region 4 with fail
     refine wp_region_held_drew (S := fun w' => Below w1.heap.size w1 w') (by kernel_rfl) (by exact (Below.refl _ _).drew) (fun hHeld => ?_)
     refine tH (i := 0) (v := ?_) (y := (Or.inl ⟨by rfl, ?_⟩)) (h := ?_)
     rotate_left
     ·intro w _; go_simp; try with_reducible rfl
     try simp only [Act.put, List.setIfInBounds_toArray, List.set_cons_zero, List.set_cons_succ, Array.replicate]
     refine tH (i := 1) (v := ?_) (y := (Or.inl ⟨by rfl, ?_⟩)) (h := ?_)
     rotate_left
     ·intro w _; go_simp; try with_reducible rfl
     try simp only [Act.put, List.setIfInBounds_toArray, List.set_cons_zero, List.set_cons_succ, Array.replicate]
     refine tH (i := 2) (v := ?_) (y := (Or.inl ⟨by rfl, ?_⟩)) (h := ?_)
     rotate_left
     ·intro w _; go_simp; try with_reducible rfl
     try simp only [Act.put, List.setIfInBounds_toArray, List.set_cons_zero, List.set_cons_succ, Array.replicate]
     refine tH (i := 3) (v := ?_) (y := (Or.inl ⟨by rfl, ?_⟩)) (h := ?_)
     rotate_left
     ·intro w _; go_simp; try with_reducible rfl
     try simp only [Act.put, List.setIfInBounds_toArray, List.set_cons_zero, List.set_cons_succ, Array.replicate]
     refine tH (i := 4) (v := ?_) (y := (Or.inl ⟨by rfl, ?_⟩)) (h := ?_)
     rotate_left
     ·intro w _; go_simp; try with_reducible rfl
     try simp only [Act.put, List.setIfInBounds_toArray, List.set_cons_zero, List.set_cons_succ, Array.replicate]
     refine tH (i := 5) (v := ?_) (y := (Or.inl ⟨by rfl, ?_⟩)) (h := ?_)
     rotate_left
     ·intro w hSS; have h6 := bkeep hSS H6.out; go_simp; try with_reducible rfl
     try simp only [Act.put, List.setIfInBounds_toArray, List.set_cons_zero, List.set_cons_succ, Array.replicate]
     refine tH (i := 6) (v := ?_) (y := (Or.inl ⟨by rfl, ?_⟩)) (h := ?_)
     rotate_left
     ·intro w _; go_simp; try with_reducible rfl
     try simp only [Act.put, List.setIfInBounds_toArray, List.set_cons_zero, List.set_cons_succ, Array.replicate]
     refine tH (i := 8) (v := ?_) (y := (Or.inl ⟨by rfl, ?_⟩)) (h := ?_)
     rotate_left
     ·intro w _; go_simp; try with_reducible rfl
     try simp only [Act.put, List.setIfInBounds_toArray, List.set_cons_zero, List.set_cons_succ, Array.replicate]
     refine tH (i := 9) (v := ?_) (y := (Or.inl ⟨by rfl, ?_⟩)) (h := ?_)
     rotate_left
     ·intro w _; go_simp; try with_reducible rfl
     try simp only [Act.put, List.setIfInBounds_toArray, List.set_cons_zero, List.set_cons_succ, Array.replicate]
     refine tH (i := 10) (v := ?_) (y := (Or.inl ⟨by rfl, ?_⟩)) (h := ?_)
     rotate_left
     ·intro w _; go_simp; try with_reducible rfl
     try simp only [Act.put, List.setIfInBounds_toArray, List.set_cons_zero, List.set_cons_succ, Array.replicate]
     refine tH (i := 11) (v := ?_) (y := (Or.inl ⟨by rfl, ?_⟩)) (h := ?_)
     rotate_left
     ·intro w hSS; have h1 := bkeep hSS H1.out; go_simp; try with_reducible rfl
     try simp only [Act.put, List.setIfInBounds_toArray, List.set_cons_zero, List.set_cons_succ, Array.replicate]
     refine tH (i := 12) (v := ?_) (y := (Or.inl ⟨by rfl, ?_⟩)) (h := ?_)
     rotate_left
     ·intro w _; go_simp; try with_reducible rfl
     try simp only [Act.put, List.setIfInBounds_toArray, List.set_cons_zero, List.set_cons_succ, Array.replicate]
     refine rH [7] (h := ?_)
     refine cH (h := fun K hK => ?_) (hs := ?_)
     ·go_simp; go_at_call 44; refine (dsize_any p xb xd xa xc kb kd f0.length f1.length ka kc n0 n1 r0 r1 lim (leftC left) false _ (Row.keep HR1.out hHeld) (by omega)).mono ?_; rintro e wq ⟨rfl, hbq⟩; try go_simp
      refine hK.out _ _ (by exact bstep hHeld hbq) (fun hHeld => ?_)
      clear hK K
      try simp only [Act.put, List.setIfInBounds_toArray, List.set_cons_zero, List.set_cons_succ, Array.replicate]
      refine tH (i := 13) (v := ?_) (y := (Or.inl ⟨by rfl, ?_⟩)) (h := ?_)
      rotate_left
      ·intro w _; go_simp; try with_reducible rfl
      try simp only [Act.put, List.setIfInBounds_toArray, List.set_cons_zero, List.set_cons_succ, Array.replicate]
      refine tH (i := 14) (v := ?_) (y := (Or.inl ⟨by rfl, ?_⟩)) (h := ?_)
      rotate_left
      ·intro w _; go_simp; try with_reducible rfl
      try simp only [Act.put, List.setIfInBounds_toArray, List.set_cons_zero, List.set_cons_succ, Array.replicate]
      refine tH (i := 15) (v := ?_) (y := (Or.inl ⟨by rfl, ?_⟩)) (h := ?_)
      rotate_left
      ·intro w _; go_simp; try with_reducible rfl
      try simp only [Act.put, List.setIfInBounds_toArray, List.set_cons_zero, List.set_cons_succ, Array.replicate]
      refine tH (i := 16) (v := ?_) (y := (Or.inl ⟨by rfl, ?_⟩)) (h := ?_)
      rotate_left
      ·intro w _; go_simp; try with_reducible rfl
      try simp only [Act.put, List.setIfInBounds_toArray, List.set_cons_zero, List.set_cons_succ, Array.replicate]
      refine wpAnyH_done (by kernel_rfl) ?_ _
      go_wp2_with fail
      go_ret
      have hu2 := HU1.out.trans (Upd.of_below hHeld)
      exact ⟨rfl, ⟨xa, ka, xb, kb, xc, kc, xd, kd, Row.keep HR1.out hHeld, dkeep OA.out HR.out hu2, dkeep OB.out HR.out hu2, dkeep OC.out HR.out hu2, dkeep OD.out HR.out hu2⟩, hu2⟩
     exact AllReadyH.nil
    ·have e0 : (PD.mk f0 n0 r0 f1 n1 r1 lim left false).replace ((1 : Nat) : Int) b = (⟨f0, n0, r0, f1, b, true, lim, leftC left, false⟩, 0) := by unfold PD.replace; rw [if_neg hbad, if_neg harg]; exact (if_neg (show ¬ lim - (((n0.length + n1.length : Nat) : Int) - (n1.length : Int)) < (b.length : Int) by omega)).trans rfl
     rw [e0]
     clear e0
     go_enter Try.func25, Try.ntmps25
     go_wp2_with fail
     refine (counts_ok p _ _ _ _ r0 r1 lim left 1 _ HR.out hl0 hm (by omega)).mono ?_; rintro e w1 ⟨rfl, hr1, hu1⟩
     have HR1 := Lib.hid hr1
     have HU1 := Lib.hid hu1
     clear hr1 hu1
     have h6 := Row.cell HR1.out 6
     have h1 := Row.cell HR1.out 4
     simp only [DskC, List.getElem?_cons_succ, List.getElem?_cons_zero] at h6 h1
     have H6 := Lib.hid h6
     have H1 := Lib.hid h1
     clear h6 h1
     go_upto_region 4 with fail
     refine wp_region_held_drew (S := fun w' => Below w1.heap.size w1 w') (by kernel_rfl) (by exact (Below.refl _ _).drew) (fun hHeld => ?_)
     refine tH (i := 0) (v := ?_) (y := (Or.inl ⟨by rfl, ?_⟩)) (h := ?_)
     rotate_left
     ·intro w _; go_simp; try with_reducible rfl
     try simp only [Act.put, List.setIfInBounds_toArray, List.set_cons_zero, List.set_cons_succ, Array.replicate]
     refine tH (i := 1) (v := ?_) (y := (Or.inl ⟨by rfl, ?_⟩)) (h := ?_)
     rotate_left
     ·intro w _; go_simp; try with_reducible rfl
     try simp only [Act.put, List.setIfInBounds_toArray, List.set_cons_zero, List.set_cons_succ, Array.replicate]
     refine tH (i := 2) (v := ?_) (y := (Or.inl ⟨by rfl, ?_⟩)) (h := ?_)
     rotate_left
     ·intro w _; go_simp; try with_reducible rfl
     try simp only [Act.put, List.setIfInBounds_toArray, List.set_cons_zero, List.set_cons_succ, Array.replicate]
     refine tH (i := 3) (v := ?_) (y := (Or.inl ⟨by rfl, ?_⟩)) (h := ?_)
     rotate_left
     ·intro w _; go_simp; try with_reducible rfl
     try simp only [Act.put, List.setIfInBounds_toArray, List.set_cons_zero, List.set_cons_succ, Array.replicate]
     refine tH (i := 4) (v := ?_) (y := (Or.inl ⟨by rfl, ?_⟩)) (h := ?_)
     rotate_left
     ·intro w _; go_simp; try with_reducible rfl
     try simp only [Act.put, List.setIfInBounds_toArray, List.set_cons_zero, List.set_cons_succ, Array.replicate]
     refine tH (i := 5) (v := ?_) (y := (Or.inl ⟨by rfl, ?_⟩)) (h := ?_)
     rotate_left
     ·intro w hSS; have h6 := bkeep hSS H6.out; go_simp; try with_reducible rfl
     try simp only [Act.put, List.setIfInBounds_toArray, List.set_cons_zero, List.set_cons_succ, Array.replicate]
     refine tH (i := 6) (v := ?_) (y := (Or.inl ⟨by rfl, ?_⟩)) (h := ?_)
     rotate_left
     ·intro w _; go_simp; try with_reducible rfl
     try simp only [Act.put, List.setIfInBounds_toArray, List.set_cons_zero, List.set_cons_succ, Array.replicate]
     refine tH (i := 8) (v := ?_) (y := (Or.inl ⟨by rfl, ?_⟩)) (h := ?_)
     rotate_left
     ·intro w _; go_simp; try with_reducible rfl
     try simp only [Act.put, List.setIfInBounds_toArray, List.set_cons_zero, List.set_cons_succ, Array.replicate]
     refine tH (i := 9) (v := ?_) (y := (Or.inl ⟨by rfl, ?_⟩)) (h := ?_)
     rotate_left
     ·intro w _; go_simp; try with_reducible rfl
     try simp only [Act.put, List.setIfInBounds_toArray, List.set_cons_zero, List.set_cons_succ, Array.replicate]
     refine tH (i := 10) (v := ?_) (y := (Or.inl ⟨by rfl, ?_⟩)) (h := ?_)
     rotate_left
     ·intro w _; go_simp; try with_reducible rfl
     try simp only [Act.put, List.setIfInBounds_toArray, List.set_cons_zero, List.set_cons_succ, Array.replicate]
     refine tH (i := 11) (v := ?_) (y := (Or.inl ⟨by rfl, ?_⟩)) (h := ?_)
     rotate_left
     ·intro w hSS; have h1 := bkeep hSS H1.out; go_simp; try with_reducible rfl
     try simp only [Act.put, List.setIfInBounds_toArray, List.set_cons_zero, List.set_cons_succ, Array.replicate]
     refine tH (i := 12) (v := ?_) (y := (Or.inl ⟨by rfl, ?_⟩)) (h := ?_)
     rotate_left
     ·intro w _; go_simp; try with_reducible rfl
     try simp only [Act.put, List.setIfInBounds_toArray, List.set_cons_zero, List.set_cons_succ, Array.replicate]
     refine rH [7] (h := ?_)
     refine cH (h := fun K hK => ?_) (hs := ?_)
     ·go_simp; go_at_call 44; refine (dsize_any p xb xd xa xc kb kd f0.length f1.length ka kc n0 n1 r0 r1 lim (leftC left) false _ (Row.keep HR1.out hHeld) (by omega)).mono ?_; rintro e wq ⟨rfl, hbq⟩; try go_simp
      refine hK.out _ _ (by exact bstep hHeld hbq) (fun hHeld => ?_)
      clear hK K
      try simp only [Act.put, List.setIfInBounds_toArray, List.set_cons_zero, List.set_cons_succ, Array.replicate]
      refine tH (i := 13) (v := ?_) (y := (Or.inl ⟨by rfl, ?_⟩)) (h := ?_)
      rotate_left
      ·intro w _; go_simp; try with_reducible rfl
      try simp only [Act.put, List.setIfInBounds_toArray, List.set_cons_zero, List.set_cons_succ, Array.replicate]
      refine tH (i := 14) (v := ?_) (y := (Or.inl ⟨by rfl, ?_⟩)) (h := ?_)
      rotate_left
      ·intro w _; go_simp; try with_reducible rfl
      try simp only [Act.put, List.setIfInBounds_toArray, List.set_cons_zero, List.set_cons_succ, Array.replicate]
      refine tH (i := 15) (v := ?_) (y := (Or.inl ⟨by rfl, ?_⟩)) (h := ?_)
      rotate_left
      ·intro w _; go_simp; try with_reducible rfl
      try simp only [Act.put, List.setIfInBounds_toArray, List.set_cons_zero, List.set_cons_succ, Array.replicate]
      refine tH (i := 16) (v := ?_) (y := (Or.inl ⟨by rfl, ?_⟩)) (h := ?_)
      rotate_left
      ·intro w _; go_simp; try with_reducible rfl
      try simp only [Act.put, List.setIfInBounds_toArray, List.set_cons_zero, List.set_cons_succ, Array.replicate]
      refine wpAnyH_done (by kernel_rfl) ?_ _
      have hrq := Row.keep HR1.out hHeld
      have HRQ := Lib.hid hrq
      have huq : Upd p w wq := HU1.out.trans (Upd.of_below hHeld)
      have HUQ := Lib.hid huq
      clear hrq huq
      go_wp2_with (go_at_call 37; refine (clone_any _ b _ (HSB.out _ HUQ.out) (by omega)).mono ?_; rintro e w3 ⟨v3, rfl, ho3, hb3⟩; have hr3 := Row.keep HRQ.out hb3; have hf3 := Row.frozen hr3 4; have hf4 := Row.frozen hr3 5; have hc3 := Row.cell hr3 4; have hc4 := Row.cell hr3 5; simp only [DskC, List.getElem?_cons_succ, List.getElem?_cons_zero] at hc3 hc4; obtain ⟨x3, k3, rfl, -⟩ := ho3.sh.open)
      go_ret
      have hs3 := dset4 hr3 (.slice x3 b.length k3)
      have hs4 := dset5 hs3.1 true
      have hu34 := hs3.2.trans hs4.2
      have hu4 := (HUQ.out.trans (Upd.of_below hb3)).trans hu34
      have hon := dkeep ho3 hr3 hu34
      exact ⟨rfl, ⟨xa, ka, xb, kb, xc, kc, x3, k3, hs4.1, dkeep OA.out HR.out hu4, dkeep OB.out HR.out hu4, dkeep OC.out HR.out hu4, hon⟩, hu4⟩
     exact AllReadyH.nil
theorem Sync_any (p : Nat) (n : Int) (S : PD) (w : World) (hS : Dsk w p S) (hm : S.left ≤ 9223372036854775807) (ht : S.n0.length + S.n1.length ≤ 100000000000) (hlim : -1000000000000 ≤ S.lim ∧ S.lim ≤ 1000000000000) :
  Calls Try.prog 26 #[.pointer (some ⟨p, 0, none⟩), .int .i64 n] w fun e w' => e = .returned (.int .i64 ((S.sync n).2 : Int)) ∧ Dsk w' p (S.sync n).1 ∧ Upd p w w' := by
 obtain ⟨xa, ka, xb, kb, xc, kc, xd, kd, hR, oa, ob, oc, od⟩ := hS
 obtain ⟨f0, n0, r0, f1, n1, r1, lim, left, dead⟩ := S
 simp only at hR oa ob oc od hm ht hlim
 have HR := Lib.hid hR
 have OA := Lib.hid oa
 have OB := Lib.hid ob
 have OC := Lib.hid oc
 have OD := Lib.hid od
 clear hR oa ob oc od
 by_cases hbad : dead = true ∨ left = 0
 ·have e0 : (PD.mk f0 n0 r0 f1 n1 r1 lim left dead).sync n = (⟨f0, n0, r0, f1, n1, r1, lim, left, true⟩, 140) := by unfold PD.sync; rw [if_pos hbad]; rfl
  rw [e0]
  clear e0
  go_enter Try.func26, Try.ntmps26
  go_wp2_with fail
  refine (counts_dead p _ _ _ _ r0 r1 dead lim left n _ HR.out hbad).mono ?_; rintro e w1 ⟨rfl, hr1, hu1⟩
  go_wp2_with fail
  go_ret
  exact ⟨rfl, ⟨xa, ka, xb, kb, xc, kc, xd, kd, hr1, dkeep OA.out HR.out hu1, dkeep OB.out HR.out hu1, dkeep OC.out HR.out hu1, dkeep OD.out HR.out hu1⟩, hu1⟩
 ·have hd : dead = false := by cases dead; rfl; exact absurd (.inl rfl) hbad
  have hl0 : left ≠ 0 := fun h => hbad (.inr h)
  subst hd
  by_cases harg : n < 0 ∨ 1 < n
  ·have e0 : (PD.mk f0 n0 r0 f1 n1 r1 lim left false).sync n = (⟨f0, n0, r0, f1, n1, r1, lim, leftC left, false⟩, 1) := by unfold PD.sync; rw [if_neg hbad, if_pos harg]; rfl
   rw [e0]
   clear e0
   go_enter Try.func26, Try.ntmps26
   go_wp2_with fail
   refine (counts_arg p _ _ _ _ r0 r1 lim left n _ HR.out hl0 hm harg).mono ?_; rintro e w1 ⟨rfl, hr1, hu1⟩
   go_wp2_with fail
   go_ret
   exact ⟨rfl, ⟨xa, ka, xb, kb, xc, kc, xd, kd, hr1, dkeep OA.out HR.out hu1, dkeep OB.out HR.out hu1, dkeep OC.out HR.out hu1, dkeep OD.out HR.out hu1⟩, hu1⟩
  ·have hn01 : n = ((0 : Nat) : Int) ∨ n = ((1 : Nat) : Int) := by omega
   rcases hn01 with rfl | rfl
   ·have e0 : (PD.mk f0 n0 r0 f1 n1 r1 lim left false).sync ((0 : Nat) : Int) = (⟨n0, n0, false, f1, n1, r1, lim, leftC left, false⟩, 0) := by unfold PD.sync; rw [if_neg hbad, if_neg harg]; rfl
    rw [e0]
    clear e0
    go_enter Try.func26, Try.ntmps26
    go_wp2_with fail
    refine (counts_ok p _ _ _ _ r0 r1 lim left 0 _ HR.out hl0 hm (by omega)).mono ?_; rintro e w1 ⟨rfl, hr1, hu1⟩
    have HR1 := Lib.hid hr1
    have HU1 := Lib.hid hu1
    clear hr1 hu1
    have hh0 := Row.cell HR1.out 0
    have hh1 := Row.cell HR1.out 1
    have hh2 := Row.cell HR1.out 2
    have hf0 := Row.frozen HR1.out 0
    have hf2 := Row.frozen HR1.out 2
    simp only [DskC, List.getElem?_cons_succ, List.getElem?_cons_zero] at hh0 hh1 hh2
    go_wp2_with fail
    go_ret
    have hs3 := dset0 HR1.out (.slice xb n0.length kb)
    have hs4 := dset2 hs3.1 false
    have hu4 := HU1.out.trans (hs3.2.trans hs4.2)
    exact ⟨rfl, ⟨xb, kb, xb, kb, xc, kc, xd, kd, hs4.1, dkeep OB.out HR.out hu4, dkeep OB.out HR.out hu4, dkeep OC.out HR.out hu4, dkeep OD.out HR.out hu4⟩, hu4⟩
   ·have e0 : (PD.mk f0 n0 r0 f1 n1 r1 lim left false).sync ((1 : Nat) : Int) = (⟨f0, n0, r0, n1, n1, false, lim, leftC left, false⟩, 0) := by unfold PD.sync; rw [if_neg hbad, if_neg harg]; rfl
    rw [e0]
    clear e0
    go_enter Try.func26, Try.ntmps26
    go_wp2_with fail
    refine (counts_ok p _ _ _ _ r0 r1 lim left 1 _ HR.out hl0 hm (by omega)).mono ?_; rintro e w1 ⟨rfl, hr1, hu1⟩
    have HR1 := Lib.hid hr1
    have HU1 := Lib.hid hu1
    clear hr1 hu1
    have hh0 := Row.cell HR1.out 3
    have hh1 := Row.cell HR1.out 4
    have hh2 := Row.cell HR1.out 5
    have hf0 := Row.frozen HR1.out 3
    have hf2 := Row.frozen HR1.out 5
    simp only [DskC, List.getElem?_cons_succ, List.getElem?_cons_zero] at hh0 hh1 hh2
    go_wp2_with fail
    go_ret
    have hs3 := dset3 HR1.out (.slice xd n1.length kd)
    have hs4 := dset5 hs3.1 false
    have hu4 := HU1.out.trans (hs3.2.trans hs4.2)
    exact ⟨rfl, ⟨xa, ka, xb, kb, xd, kd, xd, kd, hs4.1, dkeep OA.out HR.out hu4, dkeep OB.out HR.out hu4, dkeep OD.out HR.out hu4, dkeep OD.out HR.out hu4⟩, hu4⟩
theorem Read_any (p : Nat) (n : Int) (S : PD) (w : World) (hS : Dsk w p S) (ht : S.n0.length + S.n1.length ≤ 100000000000) :
  Calls Try.prog 16 #[.pointer (some ⟨p, 0, none⟩), .int .i64 n] w fun e w' => ∃ v', e = .returned (.tuple #[v', .int .i64 ((S.read n).2 : Int)]) ∧ Own w' w.heap.size 5 v' (S.read n).1 ∧ Below w.heap.size w w' := by
 obtain ⟨xa, ka, xb, kb, xc, kc, xd, kd, hR, oa, ob, oc, od⟩ := hS
 obtain ⟨f0, n0, r0, f1, n1, r1, lim, left, dead⟩ := S
 simp only at hR oa ob oc od ht
 have HR := Lib.hid hR
 have OA := Lib.hid oa
 have OB := Lib.hid ob
 have OC := Lib.hid oc
 have OD := Lib.hid od
 clear hR oa ob oc od
 have h8 := Row.cell HR.out 8
 simp only [DskC, List.getElem?_cons_succ, List.getElem?_cons_zero] at h8
 cases dead with
 | true =>
  have e0 : (PD.mk f0 n0 r0 f1 n1 r1 lim left true).read n = ([], 140) := by unfold PD.read; exact if_pos rfl
  rw [e0]
  go_enter Try.func16, Try.ntmps16
  go_wp2_with fail
  go_ret2
  exact ⟨_, rfl, Own.nil _ _ _, Below.refl _ _⟩
 | false =>
  by_cases harg : n < 0 ∨ 1 < n
  ·have e0 : (PD.mk f0 n0 r0 f1 n1 r1 lim left false).read n = ([], 1) := by unfold PD.read; rw [if_neg (by simp), if_pos harg]
   rw [e0]
   rcases harg with hn | hn
   ·go_enter Try.func16, Try.ntmps16
    go_wp2_with fail
    go_ret2
    exact ⟨_, rfl, Own.nil _ _ _, Below.refl _ _⟩
   ·have hn0 : ¬ n < 0 := by omega
    have hn2 : 2 ≤ n := by omega
    go_enter Try.func16, Try.ntmps16
    go_wp2_with fail
    go_ret2
    exact ⟨_, rfl, Own.nil _ _ _, Below.refl _ _⟩
  ·have hn01 : n = ((0 : Nat) : Int) ∨ n = ((1 : Nat) : Int) := by omega
   have h1 := Row.cell HR.out 1
   have h4 := Row.cell HR.out 4
   simp only [DskC, List.getElem?_cons_succ, List.getElem?_cons_zero] at h1 h4
   rcases hn01 with rfl | rfl
   ·have e0 : (PD.mk f0 n0 r0 f1 n1 r1 lim left false).read ((0 : Nat) : Int) = (n0, 0) := by unfold PD.read; rw [if_neg (by simp), if_neg harg]; rfl
    rw [e0]
    go_enter Try.func16, Try.ntmps16
    go_wp2_with (go_at_call 37; refine (clone_any _ n0 _ OB.out.sh (by omega)).mono ?_; rintro e w1 ⟨v1, rfl, ho1, hb1⟩)
    go_ret2
    exact ⟨_, rfl, ho1, hb1⟩
   ·have e0 : (PD.mk f0 n0 r0 f1 n1 r1 lim left false).read ((1 : Nat) : Int) = (n1, 0) := by unfold PD.read; rw [if_neg (by simp), if_neg harg]; rfl
    rw [e0]
    go_enter Try.func16, Try.ntmps16
    go_wp2_with (go_at_call 37; refine (clone_any _ n1 _ OD.out.sh (by omega)).mono ?_; rintro e w1 ⟨v1, rfl, ho1, hb1⟩)
    go_ret2
    exact ⟨_, rfl, ho1, hb1⟩
end Go.Proofs.Ytkghkpkiodghiaa
