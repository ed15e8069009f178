/- The document's disk: its state, New, All, Size, counts, Arm, fast, Read. (printed by gen/dsk6.py) -/
import Derived.Test.YtkghkpkiodghiaaTk
import Derived.Test.YtkghkpkiodghiaaDsk4
namespace Go.Proofs.Ytkghkpkiodghiaa
set_option linter.unusedVariables false
set_option linter.unusedSimpArgs false
set_option linter.unnecessarySimpa false
open Go.RowKit
set_option maxRecDepth 100000
set_option maxHeartbeats 4000000

/-- The document's disk, plainly. -/
structure RD where
 f0 : List UInt8
 f1 : List UInt8
 m0 : List UInt8
 m1 : List UInt8
 o0 : List UInt8
 o1 : List UInt8
 i0 : Bool
 i1 : Bool
 lim : Int
 left : Int
 armed : Bool
 dead : Bool
def RdC (F0 F1 M0 M1 O0 O1 : Value) (i0 i1 : Bool) (lim left : Int) (armed dead : Bool) : List Value := [F0, F1, M0, M1, O0, O1, .bool i0, .bool i1, .int .i64 lim, .int .i64 left, .bool armed, .bool dead]
def Rdk (w : World) (q : Nat) (R : RD) : Prop := ∃ (xf0 : Option Addr) (kf0 : Nat) (xf1 : Option Addr) (kf1 : Nat) (xm0 : Option Addr) (km0 : Nat) (xm1 : Option Addr) (km1 : Nat) (xo0 : Option Addr) (ko0 : Nat) (xo1 : Option Addr) (ko1 : Nat),
 Row w q 78 (RdC (.slice xf0 R.f0.length kf0) (.slice xf1 R.f1.length kf1) (.slice xm0 R.m0.length km0) (.slice xm1 R.m1.length km1) (.slice xo0 R.o0.length ko0) (.slice xo1 R.o1.length ko1) R.i0 R.i1 R.lim R.left R.armed R.dead) ∧
 Own w 0 5 (.slice xf0 R.f0.length kf0) R.f0 ∧ Own w 0 5 (.slice xf1 R.f1.length kf1) R.f1 ∧ Own w 0 5 (.slice xm0 R.m0.length km0) R.m0 ∧ Own w 0 5 (.slice xm1 R.m1.length km1) R.m1 ∧ Own w 0 5 (.slice xo0 R.o0.length ko0) R.o0 ∧ Own w 0 5 (.slice xo1 R.o1.length ko1) R.o1
def RD.all (R : RD) (n : Nat) : List UInt8 := if n = 0 then (if R.i0 = true then R.o0 else R.f0) ++ R.m0 else (if R.i1 = true then R.o1 else R.f1) ++ R.m1
def RD.sz (R : RD) : Nat := R.f0.length + R.f1.length + R.m0.length + R.m1.length + R.o0.length + R.o1.length
theorem RD.all_le (R : RD) (n : Nat) : (R.all n).length ≤ R.sz := by
 unfold RD.all RD.sz
 split <;> split <;> simp <;> omega
theorem Rdk.below {w w' : World} {q : Nat} {R : RD} (h : Rdk w q R) (hb : Below w.heap.size w w') : Rdk w' q R := by
 obtain ⟨xf0, kf0, xf1, kf1, xm0, km0, xm1, km1, xo0, ko0, xo1, ko1, hR, h1, h2, h3, h4, h5, h6⟩ := h
 exact ⟨xf0, kf0, xf1, kf1, xm0, km0, xm1, km1, xo0, ko0, xo1, ko1, hR.keep hb, h1.below hb, h2.below hb, h3.below hb, h4.below hb, h5.below hb, h6.below hb⟩
theorem Rdk.lt {w : World} {q : Nat} {R : RD} (h : Rdk w q R) : q < w.heap.size := by
 obtain ⟨xf0, kf0, xf1, kf1, xm0, km0, xm1, km1, xo0, ko0, xo1, ko1, hR, _⟩ := h
 exact hR.lt
theorem rkeep {w w' : World} {q : Nat} {C : List Value} {v : Value} {l : List UInt8} {B : Nat} (h : Own w B 5 v l) (hr : Row w q 78 C) (hu : Upd q w w') : Own w' 0 5 v l :=
 hu.own (h.mono (Nat.zero_le _)) hr (by decide)
/-- A disk's call leaves the other disk as it is. -/
theorem Dsk.upd {w w' : World} {p q : Nat} {S : PD} {R : RD} (h : Dsk w p S) (hq : Rdk w q R) (hpq : p ≠ q) (hu : Upd q w w') : Dsk w' p S := by
 obtain ⟨xf0, kf0, xf1, kf1, xm0, km0, xm1, km1, xo0, ko0, xo1, ko1, hR, _⟩ := hq
 obtain ⟨xa, ka, xb, kb, xc, kc, xd, kd, hP, oa, ob, oc, od⟩ := h
 exact ⟨xa, ka, xb, kb, xc, kc, xd, kd, hu.row hP hpq, rkeep oa hR hu, rkeep ob hR hu, rkeep oc hR hu, rkeep od hR hu⟩
theorem Rdk.upd {w w' : World} {p q : Nat} {S : PD} {R : RD} (h : Rdk w q R) (hp : Dsk w p S) (hpq : q ≠ p) (hu : Upd p w w') : Rdk w' q R := by
 obtain ⟨xf0, kf0, xf1, kf1, xm0, km0, xm1, km1, xo0, ko0, xo1, ko1, hR, h1, h2, h3, h4, h5, h6⟩ := h
 obtain ⟨xa, ka, xb, kb, xc, kc, xd, kd, hP, oa, ob, oc, od⟩ := hp
 exact ⟨xf0, kf0, xf1, kf1, xm0, km0, xm1, km1, xo0, ko0, xo1, ko1, hu.row hR hpq, dkeep h1 hP hu, dkeep h2 hP hu, dkeep h3 hP hu, dkeep h4 hP hu, dkeep h5 hP hu, dkeep h6 hP hu⟩
/-- 'append(l, m...)' onto bytes of the call's own, as a step of a region that draws. -/
theorem step_app_more {P : Program} {t e : TypeId} (ht : P.underlying t = some (.slice e)) (he : (P.info? e).map (fun i => (i.zero, i.size, i.bytes)) = some (some (.int .u8 0), 1, 1))
  {ops : Array Oper} {o : Oper} {a : Act} {w : World} {K : Act → World → Prop} {Q : Exit → Act → World → Prop} {E : Prop} (hw : Region.wanted o (yielded ops a.tmps) = true) (s x : Operand)
  (ho : o.op = .call { callee := .builtin .append, args := #[s, x], argTypes := #[t, t] })
  {base : Nat} {v sv : Value} {l m : List UInt8} (hs : a.eval s = v) (hown : Own w base e v l) (hx : a.eval x = sv) (hsh : Sh w sv m) (hlen : l.length + m.length ≤ 140737488355328) (hbase : base ≤ w.heap.size)
  (h : ∀ v' w', Own w' base e v' (l ++ m) → Below base w w' → K (a.put o.dst v') w') : if Region.wanted o (yielded ops a.tmps) = true then Oper.wp P o a w K Q else E := by
 rw [if_pos hw]
 obtain ⟨i, hi, hz0, hz1, hz2⟩ := info_parts he
 obtain ⟨v', w', hr, g1, g2⟩ := run_append_shows (P := P) w base t o.type e i (.int .u8 0) 1 1 ht hi hz0 hz1 hz2 rfl (by decide) v _ _ hown sv _ _ hsh (bytes_one _) (by simp only [maxLen]; omega) (by omega) hbase
 unfold Oper.wp
 simp [execOp, ho, resolve, invoke, builtin, hs, hx, hr, Result.andThen]
 refine h v' w' ?_ ((Below.refl _ _).grown g2 hbase fun k hk => (World.ownsRow.lt hown k hk).1)
 unfold Own
 rw [bytes_append, List.length_append]; exact g1
theorem rset0 {w : World} {q : Nat} {a b c d e f : Value} {i0 i1 : Bool} {lim left : Int} {armed dead : Bool} (h : Row w q 78 (RdC a b c d e f i0 i1 lim left armed dead)) (x : Value) :
  Row (w.setCell ⟨q, 0, none⟩ (x)) q 78 (RdC x b c d e f i0 i1 lim left armed dead) ∧ Upd q w (w.setCell ⟨q, 0, none⟩ (x)) := ⟨Row.set h 0 _, Upd.set q 0 w _⟩
theorem rset1 {w : World} {q : Nat} {a b c d e f : Value} {i0 i1 : Bool} {lim left : Int} {armed dead : Bool} (h : Row w q 78 (RdC a b c d e f i0 i1 lim left armed dead)) (x : Value) :
  Row (w.setCell ⟨q, 1, none⟩ (x)) q 78 (RdC a x c d e f i0 i1 lim left armed dead) ∧ Upd q w (w.setCell ⟨q, 1, none⟩ (x)) := ⟨Row.set h 1 _, Upd.set q 1 w _⟩
theorem rset2 {w : World} {q : Nat} {a b c d e f : Value} {i0 i1 : Bool} {lim left : Int} {armed dead : Bool} (h : Row w q 78 (RdC a b c d e f i0 i1 lim left armed dead)) (x : Value) :
  Row (w.setCell ⟨q, 2, none⟩ (x)) q 78 (RdC a b x d e f i0 i1 lim left armed dead) ∧ Upd q w (w.setCell ⟨q, 2, none⟩ (x)) := ⟨Row.set h 2 _, Upd.set q 2 w _⟩
theorem rset3 {w : World} {q : Nat} {a b c d e f : Value} {i0 i1 : Bool} {lim left : Int} {armed dead : Bool} (h : Row w q 78 (RdC a b c d e f i0 i1 lim left armed dead)) (x : Value) :
  Row (w.setCell ⟨q, 3, none⟩ (x)) q 78 (RdC a b c x e f i0 i1 lim left armed dead) ∧ Upd q w (w.setCell ⟨q, 3, none⟩ (x)) := ⟨Row.set h 3 _, Upd.set q 3 w _⟩
theorem rset4 {w : World} {q : Nat} {a b c d e f : Value} {i0 i1 : Bool} {lim left : Int} {armed dead : Bool} (h : Row w q 78 (RdC a b c d e f i0 i1 lim left armed dead)) (x : Value) :
  Row (w.setCell ⟨q, 4, none⟩ (x)) q 78 (RdC a b c d x f i0 i1 lim left armed dead) ∧ Upd q w (w.setCell ⟨q, 4, none⟩ (x)) := ⟨Row.set h 4 _, Upd.set q 4 w _⟩
theorem rset5 {w : World} {q : Nat} {a b c d e f : Value} {i0 i1 : Bool} {lim left : Int} {armed dead : Bool} (h : Row w q 78 (RdC a b c d e f i0 i1 lim left armed dead)) (x : Value) :
  Row (w.setCell ⟨q, 5, none⟩ (x)) q 78 (RdC a b c d e x i0 i1 lim left armed dead) ∧ Upd q w (w.setCell ⟨q, 5, none⟩ (x)) := ⟨Row.set h 5 _, Upd.set q 5 w _⟩
theorem rset6 {w : World} {q : Nat} {a b c d e f : Value} {i0 i1 : Bool} {lim left : Int} {armed dead : Bool} (h : Row w q 78 (RdC a b c d e f i0 i1 lim left armed dead)) (x : Bool) :
  Row (w.setCell ⟨q, 6, none⟩ (.bool x)) q 78 (RdC a b c d e f x i1 lim left armed dead) ∧ Upd q w (w.setCell ⟨q, 6, none⟩ (.bool x)) := ⟨Row.set h 6 _, Upd.set q 6 w _⟩
theorem rset7 {w : World} {q : Nat} {a b c d e f : Value} {i0 i1 : Bool} {lim left : Int} {armed dead : Bool} (h : Row w q 78 (RdC a b c d e f i0 i1 lim left armed dead)) (x : Bool) :
  Row (w.setCell ⟨q, 7, none⟩ (.bool x)) q 78 (RdC a b c d e f i0 x lim left armed dead) ∧ Upd q w (w.setCell ⟨q, 7, none⟩ (.bool x)) := ⟨Row.set h 7 _, Upd.set q 7 w _⟩
theorem rset9 {w : World} {q : Nat} {a b c d e f : Value} {i0 i1 : Bool} {lim left : Int} {armed dead : Bool} (h : Row w q 78 (RdC a b c d e f i0 i1 lim left armed dead)) (x : Int) :
  Row (w.setCell ⟨q, 9, none⟩ (.int .i64 x)) q 78 (RdC a b c d e f i0 i1 lim x armed dead) ∧ Upd q w (w.setCell ⟨q, 9, none⟩ (.int .i64 x)) := ⟨Row.set h 9 _, Upd.set q 9 w _⟩
theorem rset10 {w : World} {q : Nat} {a b c d e f : Value} {i0 i1 : Bool} {lim left : Int} {armed dead : Bool} (h : Row w q 78 (RdC a b c d e f i0 i1 lim left armed dead)) (x : Bool) :
  Row (w.setCell ⟨q, 10, none⟩ (.bool x)) q 78 (RdC a b c d e f i0 i1 lim left x dead) ∧ Upd q w (w.setCell ⟨q, 10, none⟩ (.bool x)) := ⟨Row.set h 10 _, Upd.set q 10 w _⟩
theorem rset11 {w : World} {q : Nat} {a b c d e f : Value} {i0 i1 : Bool} {lim left : Int} {armed dead : Bool} (h : Row w q 78 (RdC a b c d e f i0 i1 lim left armed dead)) (x : Bool) :
  Row (w.setCell ⟨q, 11, none⟩ (.bool x)) q 78 (RdC a b c d e f i0 i1 lim left armed x) ∧ Upd q w (w.setCell ⟨q, 11, none⟩ (.bool x)) := ⟨Row.set h 11 _, Upd.set q 11 w _⟩
theorem refNew_any (n : Int) (w : World) :
  Calls Try.prog 13 #[.int .i64 n] w fun e w' => e = .returned (.pointer (some ⟨w.heap.size, 0, none⟩)) ∧ Rdk w' w.heap.size ⟨[], [], [], [], [], [], false, false, if n < 0 then 0 else if 16777216 < n then 16777216 else n, 0, false, false⟩ ∧ Below w.heap.size w w' ∧ w.heap.size < w'.heap.size := by
 have key (m : Int) : Rdk (w.alloc (.cells #[.slice none 0 0, .slice none 0 0, .slice none 0 0, .slice none 0 0, .slice none 0 0, .slice none 0 0, .bool false, .bool false, .int .i64 m, .int .i64 0, .bool false, .bool false] 78)) w.heap.size ⟨[], [], [], [], [], [], false, false, m, 0, false, false⟩ :=
  ⟨none, 0, none, 0, none, 0, none, 0, none, 0, none, 0, Row.new w _ _, Own.nil _ _ _, Own.nil _ _ _, Own.nil _ _ _, Own.nil _ _ _, Own.nil _ _ _, Own.nil _ _ _⟩
 by_cases h0 : n < 0
 ·rw [if_pos h0]
  go_enter Try.func13, Try.ntmps13
  go_wp2_with fail
  go_ret
  exact ⟨rfl, key _, balloc (Below.refl _ _) _, by simp⟩
 ·rw [if_neg h0]
  by_cases h1 : 16777216 < n
  ·rw [if_pos h1]
   go_enter Try.func13, Try.ntmps13
   go_wp2_with fail
   go_ret
   exact ⟨rfl, key _, balloc (Below.refl _ _) _, by simp⟩
  ·rw [if_neg h1]
   go_enter Try.func13, Try.ntmps13
   go_wp2_with fail
   go_ret
   exact ⟨rfl, key _, balloc (Below.refl _ _) _, by simp⟩
theorem refAll_any (q : Nat) (n : Nat) (hn : n < 2) (R : RD) (w : World) (hR0 : Rdk w q R) (hs : R.sz ≤ 140737488355328) :
  Calls Try.prog 38 #[.pointer (some ⟨q, 0, none⟩), .int .i64 n] w fun e w' => ∃ v', e = .returned v' ∧ Own w' w.heap.size 5 v' (R.all n) ∧ Below w.heap.size w w' := by
 obtain ⟨xf0, kf0, xf1, kf1, xm0, km0, xm1, km1, xo0, ko0, xo1, ko1, hR, of0, of1, om0, om1, oo0, oo1⟩ := hR0
 obtain ⟨f0, f1, m0, m1, o0, o1, i0, i1, lim, left, armed, dead⟩ := R
 simp only at hR of0 of1 om0 om1 oo0 oo1 hs
 have HR := Lib.hid hR
 have OF0 := Lib.hid of0
 have OF1 := Lib.hid of1
 have OM0 := Lib.hid om0
 have OM1 := Lib.hid om1
 have OO0 := Lib.hid oo0
 have OO1 := Lib.hid oo1
 clear hR of0 of1 om0 om1 oo0 oo1
 unfold RD.sz at hs
 simp only at hs
 have hn01 : n = 0 ∨ n = 1 := by omega
 rcases hn01 with rfl | rfl
 ·cases i0 with
  | true =>
   show Calls Try.prog 38 #[.pointer (some ⟨q, 0, none⟩), .int .i64 ((0 : Nat) : Int)] w fun e w' => ∃ v', e = .returned v' ∧ Own w' w.heap.size 5 v' (o0 ++ m0) ∧ Below w.heap.size w w'
   have hh6 := Row.cell HR.out 6
   have hh4 := Row.cell HR.out 4
   have hh2 := Row.cell HR.out 2
   simp only [RdC, List.getElem?_cons_succ, List.getElem?_cons_zero] at hh6 hh4 hh2
   have HC1 := Lib.hid hh4
   have HC2 := Lib.hid hh2
   clear hh4 hh2
   go_enter Try.func38, Try.ntmps38
   go_upto_region 2 with fail
   refine wp_region_held_drew (S := fun w' => Below w.heap.size w w') (by kernel_rfl) (by exact (Below.refl _ _).drew) (fun hHeld => ?_)
   refine tH (i := 1) (v := ?_) (y := (Or.inl ⟨by rfl, ?_⟩)) (h := ?_)
   rotate_left
   ·intro w _; go_simp; try with_reducible rfl
   try simp only [Act.put, List.setIfInBounds_toArray, List.set_cons_zero, List.set_cons_succ, Array.replicate]
   refine tH (i := 2) (v := ?_) (y := (Or.inl ⟨by rfl, ?_⟩)) (h := ?_)
   rotate_left
   ·intro w _; go_simp; try with_reducible rfl
   try simp only [Act.put, List.setIfInBounds_toArray, List.set_cons_zero, List.set_cons_succ, Array.replicate]
   refine tH (i := 3) (v := ?_) (y := (Or.inl ⟨by rfl, ?_⟩)) (h := ?_)
   rotate_left
   ·intro w _; go_simp; try with_reducible rfl
   try simp only [Act.put, List.setIfInBounds_toArray, List.set_cons_zero, List.set_cons_succ, Array.replicate]
   refine tH (i := 4) (v := ?_) (y := (Or.inl ⟨by rfl, ?_⟩)) (h := ?_)
   rotate_left
   ·intro w _; go_simp; try with_reducible rfl
   try simp only [Act.put, List.setIfInBounds_toArray, List.set_cons_zero, List.set_cons_succ, Array.replicate]
   refine tH (i := 5) (v := ?_) (y := (Or.inl ⟨by rfl, ?_⟩)) (h := ?_)
   rotate_left
   ·intro w _; go_simp; try with_reducible rfl
   try simp only [Act.put, List.setIfInBounds_toArray, List.set_cons_zero, List.set_cons_succ, Array.replicate]
   refine tH (i := 6) (v := ?_) (y := (Or.inl ⟨by rfl, ?_⟩)) (h := ?_)
   rotate_left
   ·intro w hSS; have hcc := bkeep hSS HC1.out; go_simp; try with_reducible rfl
   try simp only [Act.put, List.setIfInBounds_toArray, List.set_cons_zero, List.set_cons_succ, Array.replicate]
   refine tH (i := 8) (v := ?_) (y := (Or.inl ⟨by rfl, ?_⟩)) (h := ?_)
   rotate_left
   ·intro w _; go_simp; try with_reducible rfl
   try simp only [Act.put, List.setIfInBounds_toArray, List.set_cons_zero, List.set_cons_succ, Array.replicate]
   refine tH (i := 9) (v := ?_) (y := (Or.inl ⟨by rfl, ?_⟩)) (h := ?_)
   rotate_left
   ·intro w _; go_simp; try with_reducible rfl
   try simp only [Act.put, List.setIfInBounds_toArray, List.set_cons_zero, List.set_cons_succ, Array.replicate]
   refine tH (i := 10) (v := ?_) (y := (Or.inl ⟨by rfl, ?_⟩)) (h := ?_)
   rotate_left
   ·intro w _; go_simp; try with_reducible rfl
   try simp only [Act.put, List.setIfInBounds_toArray, List.set_cons_zero, List.set_cons_succ, Array.replicate]
   refine tH (i := 11) (v := ?_) (y := (Or.inl ⟨by rfl, ?_⟩)) (h := ?_)
   rotate_left
   ·intro w _; go_simp; try with_reducible rfl
   try simp only [Act.put, List.setIfInBounds_toArray, List.set_cons_zero, List.set_cons_succ, Array.replicate]
   refine tH (i := 12) (v := ?_) (y := (Or.inl ⟨by rfl, ?_⟩)) (h := ?_)
   rotate_left
   ·intro w _; go_simp; try with_reducible rfl
   try simp only [Act.put, List.setIfInBounds_toArray, List.set_cons_zero, List.set_cons_succ, Array.replicate]
   refine tH (i := 13) (v := ?_) (y := (Or.inl ⟨by rfl, ?_⟩)) (h := ?_)
   rotate_left
   ·intro w hSS; have hcc := bkeep hSS HC2.out; go_simp; try with_reducible rfl
   try simp only [Act.put, List.setIfInBounds_toArray, List.set_cons_zero, List.set_cons_succ, Array.replicate]
   refine rH [0] (h := ?_)
   refine cH (h := fun K hK => ?_) (hs := ?_)
   ·go_simp
    refine hK.out _ _ (by exact balloc hHeld _) (fun hHeld => ?_)
    clear hK K
    try simp only [Act.put, List.setIfInBounds_toArray, List.set_cons_zero, List.set_cons_succ, Array.replicate]
    refine rH [7] (h := ?_)
    refine cH (h := fun K hK => ?_) (hs := ?_)
    ·refine step_app_own Try.underlying27 info_byte (by with_unfolding_all rfl) (.tmp 11) (.tmp 17) rfl rfl (Row.new _ _ []) rfl ((OO0.out.sh).below (by exact hHeld)) (by omega) ?_; intro v1 w1 ho1 hb1
     refine hK.out _ _ (by exact bstep hHeld hb1) (fun hHeld => ?_)
     clear hK K
     try simp only [Act.put, List.setIfInBounds_toArray, List.set_cons_zero, List.set_cons_succ, Array.replicate]
     refine rH [14] (h := ?_)
     refine cH (h := fun K hK => ?_) (hs := ?_)
     ·refine step_app_more Try.underlying27 info_byte (by with_unfolding_all rfl) (.tmp 18) (.tmp 24) rfl rfl ho1 rfl ((OM0.out.sh).below (by exact hHeld)) (by omega) (by exact hHeld.size) ?_; intro v2 w2 ho2 hb2
      refine hK.out _ _ (by exact hHeld.trans hb2) (fun hHeld => ?_)
      clear hK K
      try simp only [Act.put, List.setIfInBounds_toArray, List.set_cons_zero, List.set_cons_succ, Array.replicate]
      refine tH (i := 15) (v := ?_) (y := (Or.inl ⟨by rfl, ?_⟩)) (h := ?_)
      rotate_left
      ·intro w _; go_simp; try with_reducible rfl
      try simp only [Act.put, List.setIfInBounds_toArray, List.set_cons_zero, List.set_cons_succ, Array.replicate]
      refine wpAnyH_done (by kernel_rfl) ?_ _
      go_wp2_with fail
      go_ret
      exact ⟨_, rfl, ho2, hHeld⟩
     exact AllReadyH.nil
    exact AllReadyH.nil
   exact AllReadyH.nil
  | false =>
   show Calls Try.prog 38 #[.pointer (some ⟨q, 0, none⟩), .int .i64 ((0 : Nat) : Int)] w fun e w' => ∃ v', e = .returned v' ∧ Own w' w.heap.size 5 v' (f0 ++ m0) ∧ Below w.heap.size w w'
   have hh6 := Row.cell HR.out 6
   have hh0 := Row.cell HR.out 0
   have hh2 := Row.cell HR.out 2
   simp only [RdC, List.getElem?_cons_succ, List.getElem?_cons_zero] at hh6 hh0 hh2
   have HC1 := Lib.hid hh0
   have HC2 := Lib.hid hh2
   clear hh0 hh2
   go_enter Try.func38, Try.ntmps38
   go_upto_region 3 with fail
   refine wp_region_held_drew (S := fun w' => Below w.heap.size w w') (by kernel_rfl) (by exact (Below.refl _ _).drew) (fun hHeld => ?_)
   refine tH (i := 1) (v := ?_) (y := (Or.inl ⟨by rfl, ?_⟩)) (h := ?_)
   rotate_left
   ·intro w _; go_simp; try with_reducible rfl
   try simp only [Act.put, List.setIfInBounds_toArray, List.set_cons_zero, List.set_cons_succ, Array.replicate]
   refine tH (i := 2) (v := ?_) (y := (Or.inl ⟨by rfl, ?_⟩)) (h := ?_)
   rotate_left
   ·intro w _; go_simp; try with_reducible rfl
   try simp only [Act.put, List.setIfInBounds_toArray, List.set_cons_zero, List.set_cons_succ, Array.replicate]
   refine tH (i := 3) (v := ?_) (y := (Or.inl ⟨by rfl, ?_⟩)) (h := ?_)
   rotate_left
   ·intro w _; go_simp; try with_reducible rfl
   try simp only [Act.put, List.setIfInBounds_toArray, List.set_cons_zero, List.set_cons_succ, Array.replicate]
   refine tH (i := 4) (v := ?_) (y := (Or.inl ⟨by rfl, ?_⟩)) (h := ?_)
   rotate_left
   ·intro w _; go_simp; try with_reducible rfl
   try simp only [Act.put, List.setIfInBounds_toArray, List.set_cons_zero, List.set_cons_succ, Array.replicate]
   refine tH (i := 5) (v := ?_) (y := (Or.inl ⟨by rfl, ?_⟩)) (h := ?_)
   rotate_left
   ·intro w _; go_simp; try with_reducible rfl
   try simp only [Act.put, List.setIfInBounds_toArray, List.set_cons_zero, List.set_cons_succ, Array.replicate]
   refine tH (i := 6) (v := ?_) (y := (Or.inl ⟨by rfl, ?_⟩)) (h := ?_)
   rotate_left
   ·intro w hSS; have hcc := bkeep hSS HC1.out; go_simp; try with_reducible rfl
   try simp only [Act.put, List.setIfInBounds_toArray, List.set_cons_zero, List.set_cons_succ, Array.replicate]
   refine tH (i := 8) (v := ?_) (y := (Or.inl ⟨by rfl, ?_⟩)) (h := ?_)
   rotate_left
   ·intro w _; go_simp; try with_reducible rfl
   try simp only [Act.put, List.setIfInBounds_toArray, List.set_cons_zero, List.set_cons_succ, Array.replicate]
   refine tH (i := 9) (v := ?_) (y := (Or.inl ⟨by rfl, ?_⟩)) (h := ?_)
   rotate_left
   ·intro w _; go_simp; try with_reducible rfl
   try simp only [Act.put, List.setIfInBounds_toArray, List.set_cons_zero, List.set_cons_succ, Array.replicate]
   refine tH (i := 10) (v := ?_) (y := (Or.inl ⟨by rfl, ?_⟩)) (h := ?_)
   rotate_left
   ·intro w _; go_simp; try with_reducible rfl
   try simp only [Act.put, List.setIfInBounds_toArray, List.set_cons_zero, List.set_cons_succ, Array.replicate]
   refine tH (i := 11) (v := ?_) (y := (Or.inl ⟨by rfl, ?_⟩)) (h := ?_)
   rotate_left
   ·intro w _; go_simp; try with_reducible rfl
   try simp only [Act.put, List.setIfInBounds_toArray, List.set_cons_zero, List.set_cons_succ, Array.replicate]
   refine tH (i := 12) (v := ?_) (y := (Or.inl ⟨by rfl, ?_⟩)) (h := ?_)
   rotate_left
   ·intro w _; go_simp; try with_reducible rfl
   try simp only [Act.put, List.setIfInBounds_toArray, List.set_cons_zero, List.set_cons_succ, Array.replicate]
   refine tH (i := 13) (v := ?_) (y := (Or.inl ⟨by rfl, ?_⟩)) (h := ?_)
   rotate_left
   ·intro w hSS; have hcc := bkeep hSS HC2.out; go_simp; try with_reducible rfl
   try simp only [Act.put, List.setIfInBounds_toArray, List.set_cons_zero, List.set_cons_succ, Array.replicate]
   refine rH [0] (h := ?_)
   refine cH (h := fun K hK => ?_) (hs := ?_)
   ·go_simp
    refine hK.out _ _ (by exact balloc hHeld _) (fun hHeld => ?_)
    clear hK K
    try simp only [Act.put, List.setIfInBounds_toArray, List.set_cons_zero, List.set_cons_succ, Array.replicate]
    refine rH [7] (h := ?_)
    refine cH (h := fun K hK => ?_) (hs := ?_)
    ·refine step_app_own Try.underlying27 info_byte (by with_unfolding_all rfl) (.tmp 26) (.tmp 32) rfl rfl (Row.new _ _ []) rfl ((OF0.out.sh).below (by exact hHeld)) (by omega) ?_; intro v1 w1 ho1 hb1
     refine hK.out _ _ (by exact bstep hHeld hb1) (fun hHeld => ?_)
     clear hK K
     try simp only [Act.put, List.setIfInBounds_toArray, List.set_cons_zero, List.set_cons_succ, Array.replicate]
     refine rH [14] (h := ?_)
     refine cH (h := fun K hK => ?_) (hs := ?_)
     ·refine step_app_more Try.underlying27 info_byte (by with_unfolding_all rfl) (.tmp 33) (.tmp 39) rfl rfl ho1 rfl ((OM0.out.sh).below (by exact hHeld)) (by omega) (by exact hHeld.size) ?_; intro v2 w2 ho2 hb2
      refine hK.out _ _ (by exact hHeld.trans hb2) (fun hHeld => ?_)
      clear hK K
      try simp only [Act.put, List.setIfInBounds_toArray, List.set_cons_zero, List.set_cons_succ, Array.replicate]
      refine tH (i := 15) (v := ?_) (y := (Or.inl ⟨by rfl, ?_⟩)) (h := ?_)
      rotate_left
      ·intro w _; go_simp; try with_reducible rfl
      try simp only [Act.put, List.setIfInBounds_toArray, List.set_cons_zero, List.set_cons_succ, Array.replicate]
      refine wpAnyH_done (by kernel_rfl) ?_ _
      go_wp2_with fail
      go_ret
      exact ⟨_, rfl, ho2, hHeld⟩
     exact AllReadyH.nil
    exact AllReadyH.nil
   exact AllReadyH.nil
 ·cases i1 with
  | true =>
   show Calls Try.prog 38 #[.pointer (some ⟨q, 0, none⟩), .int .i64 ((1 : Nat) : Int)] w fun e w' => ∃ v', e = .returned v' ∧ Own w' w.heap.size 5 v' (o1 ++ m1) ∧ Below w.heap.size w w'
   have hh7 := Row.cell HR.out 7
   have hh5 := Row.cell HR.out 5
   have hh3 := Row.cell HR.out 3
   simp only [RdC, List.getElem?_cons_succ, List.getElem?_cons_zero] at hh7 hh5 hh3
   have HC1 := Lib.hid hh5
   have HC2 := Lib.hid hh3
   clear hh5 hh3
   go_enter Try.func38, Try.ntmps38
   go_upto_region 2 with fail
   refine wp_region_held_drew (S := fun w' => Below w.heap.size w w') (by kernel_rfl) (by exact (Below.refl _ _).drew) (fun hHeld => ?_)
   refine tH (i := 1) (v := ?_) (y := (Or.inl ⟨by rfl, ?_⟩)) (h := ?_)
   rotate_left
   ·intro w _; go_simp; try with_reducible rfl
   try simp only [Act.put, List.setIfInBounds_toArray, List.set_cons_zero, List.set_cons_succ, Array.replicate]
   refine tH (i := 2) (v := ?_) (y := (Or.inl ⟨by rfl, ?_⟩)) (h := ?_)
   rotate_left
   ·intro w _; go_simp; try with_reducible rfl
   try simp only [Act.put, List.setIfInBounds_toArray, List.set_cons_zero, List.set_cons_succ, Array.replicate]
   refine tH (i := 3) (v := ?_) (y := (Or.inl ⟨by rfl, ?_⟩)) (h := ?_)
   rotate_left
   ·intro w _; go_simp; try with_reducible rfl
   try simp only [Act.put, List.setIfInBounds_toArray, List.set_cons_zero, List.set_cons_succ, Array.replicate]
   refine tH (i := 4) (v := ?_) (y := (Or.inl ⟨by rfl, ?_⟩)) (h := ?_)
   rotate_left
   ·intro w _; go_simp; try with_reducible rfl
   try simp only [Act.put, List.setIfInBounds_toArray, List.set_cons_zero, List.set_cons_succ, Array.replicate]
   refine tH (i := 5) (v := ?_) (y := (Or.inl ⟨by rfl, ?_⟩)) (h := ?_)
   rotate_left
   ·intro w _; go_simp; try with_reducible rfl
   try simp only [Act.put, List.setIfInBounds_toArray, List.set_cons_zero, List.set_cons_succ, Array.replicate]
   refine tH (i := 6) (v := ?_) (y := (Or.inl ⟨by rfl, ?_⟩)) (h := ?_)
   rotate_left
   ·intro w hSS; have hcc := bkeep hSS HC1.out; go_simp; try with_reducible rfl
   try simp only [Act.put, List.setIfInBounds_toArray, List.set_cons_zero, List.set_cons_succ, Array.replicate]
   refine tH (i := 8) (v := ?_) (y := (Or.inl ⟨by rfl, ?_⟩)) (h := ?_)
   rotate_left
   ·intro w _; go_simp; try with_reducible rfl
   try simp only [Act.put, List.setIfInBounds_toArray, List.set_cons_zero, List.set_cons_succ, Array.replicate]
   refine tH (i := 9) (v := ?_) (y := (Or.inl ⟨by rfl, ?_⟩)) (h := ?_)
   rotate_left
   ·intro w _; go_simp; try with_reducible rfl
   try simp only [Act.put, List.setIfInBounds_toArray, List.set_cons_zero, List.set_cons_succ, Array.replicate]
   refine tH (i := 10) (v := ?_) (y := (Or.inl ⟨by rfl, ?_⟩)) (h := ?_)
   rotate_left
   ·intro w _; go_simp; try with_reducible rfl
   try simp only [Act.put, List.setIfInBounds_toArray, List.set_cons_zero, List.set_cons_succ, Array.replicate]
   refine tH (i := 11) (v := ?_) (y := (Or.inl ⟨by rfl, ?_⟩)) (h := ?_)
   rotate_left
   ·intro w _; go_simp; try with_reducible rfl
   try simp only [Act.put, List.setIfInBounds_toArray, List.set_cons_zero, List.set_cons_succ, Array.replicate]
   refine tH (i := 12) (v := ?_) (y := (Or.inl ⟨by rfl, ?_⟩)) (h := ?_)
   rotate_left
   ·intro w _; go_simp; try with_reducible rfl
   try simp only [Act.put, List.setIfInBounds_toArray, List.set_cons_zero, List.set_cons_succ, Array.replicate]
   refine tH (i := 13) (v := ?_) (y := (Or.inl ⟨by rfl, ?_⟩)) (h := ?_)
   rotate_left
   ·intro w hSS; have hcc := bkeep hSS HC2.out; go_simp; try with_reducible rfl
   try simp only [Act.put, List.setIfInBounds_toArray, List.set_cons_zero, List.set_cons_succ, Array.replicate]
   refine rH [0] (h := ?_)
   refine cH (h := fun K hK => ?_) (hs := ?_)
   ·go_simp
    refine hK.out _ _ (by exact balloc hHeld _) (fun hHeld => ?_)
    clear hK K
    try simp only [Act.put, List.setIfInBounds_toArray, List.set_cons_zero, List.set_cons_succ, Array.replicate]
    refine rH [7] (h := ?_)
    refine cH (h := fun K hK => ?_) (hs := ?_)
    ·refine step_app_own Try.underlying27 info_byte (by with_unfolding_all rfl) (.tmp 11) (.tmp 17) rfl rfl (Row.new _ _ []) rfl ((OO1.out.sh).below (by exact hHeld)) (by omega) ?_; intro v1 w1 ho1 hb1
     refine hK.out _ _ (by exact bstep hHeld hb1) (fun hHeld => ?_)
     clear hK K
     try simp only [Act.put, List.setIfInBounds_toArray, List.set_cons_zero, List.set_cons_succ, Array.replicate]
     refine rH [14] (h := ?_)
     refine cH (h := fun K hK => ?_) (hs := ?_)
     ·refine step_app_more Try.underlying27 info_byte (by with_unfolding_all rfl) (.tmp 18) (.tmp 24) rfl rfl ho1 rfl ((OM1.out.sh).below (by exact hHeld)) (by omega) (by exact hHeld.size) ?_; intro v2 w2 ho2 hb2
      refine hK.out _ _ (by exact hHeld.trans hb2) (fun hHeld => ?_)
      clear hK K
      try simp only [Act.put, List.setIfInBounds_toArray, List.set_cons_zero, List.set_cons_succ, Array.replicate]
      refine tH (i := 15) (v := ?_) (y := (Or.inl ⟨by rfl, ?_⟩)) (h := ?_)
      rotate_left
      ·intro w _; go_simp; try with_reducible rfl
      try simp only [Act.put, List.setIfInBounds_toArray, List.set_cons_zero, List.set_cons_succ, Array.replicate]
      refine wpAnyH_done (by kernel_rfl) ?_ _
      go_wp2_with fail
      go_ret
      exact ⟨_, rfl, ho2, hHeld⟩
     exact AllReadyH.nil
    exact AllReadyH.nil
   exact AllReadyH.nil
  | false =>
   show Calls Try.prog 38 #[.pointer (some ⟨q, 0, none⟩), .int .i64 ((1 : Nat) : Int)] w fun e w' => ∃ v', e = .returned v' ∧ Own w' w.heap.size 5 v' (f1 ++ m1) ∧ Below w.heap.size w w'
   have hh7 := Row.cell HR.out 7
   have hh1 := Row.cell HR.out 1
   have hh3 := Row.cell HR.out 3
   simp only [RdC, List.getElem?_cons_succ, List.getElem?_cons_zero] at hh7 hh1 hh3
   have HC1 := Lib.hid hh1
   have HC2 := Lib.hid hh3
   clear hh1 hh3
   go_enter Try.func38, Try.ntmps38
   go_upto_region 3 with fail
   refine wp_region_held_drew (S := fun w' => Below w.heap.size w w') (by kernel_rfl) (by exact (Below.refl _ _).drew) (fun hHeld => ?_)
   refine tH (i := 1) (v := ?_) (y := (Or.inl ⟨by rfl, ?_⟩)) (h := ?_)
   rotate_left
   ·intro w _; go_simp; try with_reducible rfl
   try simp only [Act.put, List.setIfInBounds_toArray, List.set_cons_zero, List.set_cons_succ, Array.replicate]
   refine tH (i := 2) (v := ?_) (y := (Or.inl ⟨by rfl, ?_⟩)) (h := ?_)
   rotate_left
   ·intro w _; go_simp; try with_reducible rfl
   try simp only [Act.put, List.setIfInBounds_toArray, List.set_cons_zero, List.set_cons_succ, Array.replicate]
   refine tH (i := 3) (v := ?_) (y := (Or.inl ⟨by rfl, ?_⟩)) (h := ?_)
   rotate_left
   ·intro w _; go_simp; try with_reducible rfl
   try simp only [Act.put, List.setIfInBounds_toArray, List.set_cons_zero, List.set_cons_succ, Array.replicate]
   refine tH (i := 4) (v := ?_) (y := (Or.inl ⟨by rfl, ?_⟩)) (h := ?_)
   rotate_left
   ·intro w _; go_simp; try with_reducible rfl
   try simp only [Act.put, List.setIfInBounds_toArray, List.set_cons_zero, List.set_cons_succ, Array.replicate]
   refine tH (i := 5) (v := ?_) (y := (Or.inl ⟨by rfl, ?_⟩)) (h := ?_)
   rotate_left
   ·intro w _; go_simp; try with_reducible rfl
   try simp only [Act.put, List.setIfInBounds_toArray, List.set_cons_zero, List.set_cons_succ, Array.replicate]
   refine tH (i := 6) (v := ?_) (y := (Or.inl ⟨by rfl, ?_⟩)) (h := ?_)
   rotate_left
   ·intro w hSS; have hcc := bkeep hSS HC1.out; go_simp; try with_reducible rfl
   try simp only [Act.put, List.setIfInBounds_toArray, List.set_cons_zero, List.set_cons_succ, Array.replicate]
   refine tH (i := 8) (v := ?_) (y := (Or.inl ⟨by rfl, ?_⟩)) (h := ?_)
   rotate_left
   ·intro w _; go_simp; try with_reducible rfl
   try simp only [Act.put, List.setIfInBounds_toArray, List.set_cons_zero, List.set_cons_succ, Array.replicate]
   refine tH (i := 9) (v := ?_) (y := (Or.inl ⟨by rfl, ?_⟩)) (h := ?_)
   rotate_left
   ·intro w _; go_simp; try with_reducible rfl
   try simp only [Act.put, List.setIfInBounds_toArray, List.set_cons_zero, List.set_cons_succ, Array.replicate]
   refine tH (i := 10) (v := ?_) (y := (Or.inl ⟨by rfl, ?_⟩)) (h := ?_)
   rotate_left
   ·intro w _; go_simp; try with_reducible rfl
   try simp only [Act.put, List.setIfInBounds_toArray, List.set_cons_zero, List.set_cons_succ, Array.replicate]
   refine tH (i := 11) (v := ?_) (y := (Or.inl ⟨by rfl, ?_⟩)) (h := ?_)
   rotate_left
   ·intro w _; go_simp; try with_reducible rfl
   try simp only [Act.put, List.setIfInBounds_toArray, List.set_cons_zero, List.set_cons_succ, Array.replicate]
   refine tH (i := 12) (v := ?_) (y := (Or.inl ⟨by rfl, ?_⟩)) (h := ?_)
   rotate_left
   ·intro w _; go_simp; try with_reducible rfl
   try simp only [Act.put, List.setIfInBounds_toArray, List.set_cons_zero, List.set_cons_succ, Array.replicate]
   refine tH (i := 13) (v := ?_) (y := (Or.inl ⟨by rfl, ?_⟩)) (h := ?_)
   rotate_left
   ·intro w hSS; have hcc := bkeep hSS HC2.out; go_simp; try with_reducible rfl
   try simp only [Act.put, List.setIfInBounds_toArray, List.set_cons_zero, List.set_cons_succ, Array.replicate]
   refine rH [0] (h := ?_)
   refine cH (h := fun K hK => ?_) (hs := ?_)
   ·go_simp
    refine hK.out _ _ (by exact balloc hHeld _) (fun hHeld => ?_)
    clear hK K
    try simp only [Act.put, List.setIfInBounds_toArray, List.set_cons_zero, List.set_cons_succ, Array.replicate]
    refine rH [7] (h := ?_)
    refine cH (h := fun K hK => ?_) (hs := ?_)
    ·refine step_app_own Try.underlying27 info_byte (by with_unfolding_all rfl) (.tmp 26) (.tmp 32) rfl rfl (Row.new _ _ []) rfl ((OF1.out.sh).below (by exact hHeld)) (by omega) ?_; intro v1 w1 ho1 hb1
     refine hK.out _ _ (by exact bstep hHeld hb1) (fun hHeld => ?_)
     clear hK K
     try simp only [Act.put, List.setIfInBounds_toArray, List.set_cons_zero, List.set_cons_succ, Array.replicate]
     refine rH [14] (h := ?_)
     refine cH (h := fun K hK => ?_) (hs := ?_)
     ·refine step_app_more Try.underlying27 info_byte (by with_unfolding_all rfl) (.tmp 33) (.tmp 39) rfl rfl ho1 rfl ((OM1.out.sh).below (by exact hHeld)) (by omega) (by exact hHeld.size) ?_; intro v2 w2 ho2 hb2
      refine hK.out _ _ (by exact hHeld.trans hb2) (fun hHeld => ?_)
      clear hK K
      try simp only [Act.put, List.setIfInBounds_toArray, List.set_cons_zero, List.set_cons_succ, Array.replicate]
      refine tH (i := 15) (v := ?_) (y := (Or.inl ⟨by rfl, ?_⟩)) (h := ?_)
      rotate_left
      ·intro w _; go_simp; try with_reducible rfl
      try simp only [Act.put, List.setIfInBounds_toArray, List.set_cons_zero, List.set_cons_succ, Array.replicate]
      refine wpAnyH_done (by kernel_rfl) ?_ _
      go_wp2_with fail
      go_ret
      exact ⟨_, rfl, ho2, hHeld⟩
     exact AllReadyH.nil
    exact AllReadyH.nil
   exact AllReadyH.nil
theorem rdSize_any (q : Nat) (R : RD) (w : World) (hR0 : Rdk w q R) (hs : R.sz ≤ 140737488355328) :
  Calls Try.prog 68 #[.pointer (some ⟨q, 0, none⟩)] w fun e w' => e = .returned (.int .i64 (((R.all 0).length + (R.all 1).length : Nat) : Int)) ∧ Below w.heap.size w w' := by
 have h0 := R.all_le 0
 have h1 := R.all_le 1
 have H := Lib.hid hR0
 clear hR0
 go_enter Try.func68, Try.ntmps68
 go_wp2_with fail
 refine (refAll_any q 0 (by omega) R _ H.out hs).mono ?_; rintro e w1 ⟨v1, rfl, ho1, hb1⟩
 obtain ⟨x1, k1, rfl, -⟩ := ho1.sh.open
 clear ho1
 generalize hA : (R.all 0).length = A at *
 have HA := Lib.hid hA
 clear hA
 go_wp2_with fail
 refine (refAll_any q 1 (by omega) R _ (H.out.below hb1) hs).mono ?_; rintro e w2 ⟨v2, rfl, ho2, hb2⟩
 obtain ⟨x2, k2, rfl, -⟩ := ho2.sh.open
 clear ho2
 generalize hB : (R.all 1).length = B at *
 have HB := Lib.hid hB
 clear hB
 go_wp2_with fail
 go_ret
 exact ⟨by rw [HA.out, HB.out]; simp, bthen hb1 hb2 (Nat.le_refl _)⟩
theorem refArm_any (q : Nat) (n : Int) (R : RD) (w : World) (hR0 : Rdk w q R) :
  Calls Try.prog 35 #[.pointer (some ⟨q, 0, none⟩), .int .i64 n] w fun e w' => e = .returned (.tuple #[]) ∧ Rdk w' q { R with armed := true, left := if n < 0 then 0 else n } ∧ Upd q w w' := by
 obtain ⟨xf0, kf0, xf1, kf1, xm0, km0, xm1, km1, xo0, ko0, xo1, ko1, hR, of0, of1, om0, om1, oo0, oo1⟩ := hR0
 obtain ⟨f0, f1, m0, m1, o0, o1, i0, i1, lim, left, armed, dead⟩ := R
 simp only at hR of0 of1 om0 om1 oo0 oo1 
 have HR := Lib.hid hR
 have OF0 := Lib.hid of0
 have OF1 := Lib.hid of1
 have OM0 := Lib.hid om0
 have OM1 := Lib.hid om1
 have OO0 := Lib.hid oo0
 have OO1 := Lib.hid oo1
 clear hR of0 of1 om0 om1 oo0 oo1
 have hh9 := Row.cell HR.out 9
 have hh10 := Row.cell HR.out 10
 simp only [RdC, List.getElem?_cons_succ, List.getElem?_cons_zero] at hh9 hh10
 have hf9 := Row.frozen HR.out 9
 have hf10 := Row.frozen HR.out 10
 by_cases hn : n < 0
 ·rw [if_pos hn]
  go_enter Try.func35, Try.ntmps35
  go_wp2_with fail
  go_end0
  have h1 := rset10 HR.out true
  have h2 := rset9 h1.1 0
  have hu := h1.2.trans h2.2
  exact ⟨rfl, ⟨xf0, kf0, xf1, kf1, xm0, km0, xm1, km1, xo0, ko0, xo1, ko1, h2.1, rkeep OF0.out HR.out hu, rkeep OF1.out HR.out hu, rkeep OM0.out HR.out hu, rkeep OM1.out HR.out hu, rkeep OO0.out HR.out hu, rkeep OO1.out HR.out hu⟩, hu⟩
 ·rw [if_neg hn]
  go_enter Try.func35, Try.ntmps35
  go_wp2_with fail
  go_end0
  have h1 := rset10 HR.out true
  have h2 := rset9 h1.1 n
  have hu := h1.2.trans h2.2
  exact ⟨rfl, ⟨xf0, kf0, xf1, kf1, xm0, km0, xm1, km1, xo0, ko0, xo1, ko1, h2.1, rkeep OF0.out HR.out hu, rkeep OF1.out HR.out hu, rkeep OM0.out HR.out hu, rkeep OM1.out HR.out hu, rkeep OO0.out HR.out hu, rkeep OO1.out HR.out hu⟩, hu⟩
def RD.kill (R : RD) : RD := { R with dead := true }
def RD.tick (R : RD) : RD := { R with left := R.left - 1 }
def RD.bad (R : RD) : Prop := R.dead = true ∨ (R.armed = true ∧ R.left = 0)
theorem refcounts_bad (q : Nat) (n : Int) (R : RD) (w : World) (hR0 : Rdk w q R) (hbad : R.bad) :
  Calls Try.prog 65 #[.pointer (some ⟨q, 0, none⟩), .int .i64 n] w fun e w' => e = .returned (.int .i64 140) ∧ Rdk w' q R.kill ∧ Upd q w w' := by
 obtain ⟨xf0, kf0, xf1, kf1, xm0, km0, xm1, km1, xo0, ko0, xo1, ko1, hR, of0, of1, om0, om1, oo0, oo1⟩ := hR0
 obtain ⟨f0, f1, m0, m1, o0, o1, i0, i1, lim, left, armed, dead⟩ := R
 simp only at hR of0 of1 om0 om1 oo0 oo1 hbad
 have HR := Lib.hid hR
 have OF0 := Lib.hid of0
 have OF1 := Lib.hid of1
 have OM0 := Lib.hid om0
 have OM1 := Lib.hid om1
 have OO0 := Lib.hid oo0
 have OO1 := Lib.hid oo1
 clear hR of0 of1 om0 om1 oo0 oo1
 unfold RD.bad at hbad
 simp only at hbad
 have hh9 := Row.cell HR.out 9
 have hh10 := Row.cell HR.out 10
 have hh11 := Row.cell HR.out 11
 simp only [RdC, List.getElem?_cons_succ, List.getElem?_cons_zero] at hh9 hh10 hh11
 have hf11 := Row.frozen HR.out 11
 by_cases hz : armed = true ∧ left = 0
 ·obtain ⟨rfl, rfl⟩ := hz
  go_enter Try.func65, Try.ntmps65
  go_wp2_with fail
  go_ret
  have h1 := rset11 HR.out true
  exact ⟨rfl, ⟨xf0, kf0, xf1, kf1, xm0, km0, xm1, km1, xo0, ko0, xo1, ko1, h1.1, rkeep OF0.out HR.out h1.2, rkeep OF1.out HR.out h1.2, rkeep OM0.out HR.out h1.2, rkeep OM1.out HR.out h1.2, rkeep OO0.out HR.out h1.2, rkeep OO1.out HR.out h1.2⟩, h1.2⟩
 ·have hd : dead = true := by
   rcases hbad with h | h
   ·exact h
   ·exact absurd h hz
  subst hd
  cases armed with
  | true =>
   have hl0 : (left == 0) = false := by rw [beq_eq_false_iff_ne]; exact fun h => hz ⟨rfl, h⟩
   go_enter Try.func65, Try.ntmps65
   go_wp2_with fail
   go_ret
   exact ⟨rfl, ⟨xf0, kf0, xf1, kf1, xm0, km0, xm1, km1, xo0, ko0, xo1, ko1, HR.out, rkeep OF0.out HR.out (Upd.refl _ _), rkeep OF1.out HR.out (Upd.refl _ _), rkeep OM0.out HR.out (Upd.refl _ _), rkeep OM1.out HR.out (Upd.refl _ _), rkeep OO0.out HR.out (Upd.refl _ _), rkeep OO1.out HR.out (Upd.refl _ _)⟩, Upd.refl _ _⟩
  | false =>
   go_enter Try.func65, Try.ntmps65
   go_wp2_with fail
   go_ret
   exact ⟨rfl, ⟨xf0, kf0, xf1, kf1, xm0, km0, xm1, km1, xo0, ko0, xo1, ko1, HR.out, rkeep OF0.out HR.out (Upd.refl _ _), rkeep OF1.out HR.out (Upd.refl _ _), rkeep OM0.out HR.out (Upd.refl _ _), rkeep OM1.out HR.out (Upd.refl _ _), rkeep OO0.out HR.out (Upd.refl _ _), rkeep OO1.out HR.out (Upd.refl _ _)⟩, Upd.refl _ _⟩
theorem refcounts_arg (q : Nat) (n : Int) (R : RD) (w : World) (hR0 : Rdk w q R) (hbad : ¬ R.bad) (hm : -9223372036854775808 < R.left ∧ R.left ≤ 9223372036854775807) (hn : n < 0 ∨ 1 < n) :
  Calls Try.prog 65 #[.pointer (some ⟨q, 0, none⟩), .int .i64 n] w fun e w' => e = .returned (.int .i64 1) ∧ Rdk w' q R.tick ∧ Upd q w w' := by
 obtain ⟨xf0, kf0, xf1, kf1, xm0, km0, xm1, km1, xo0, ko0, xo1, ko1, hR, of0, of1, om0, om1, oo0, oo1⟩ := hR0
 obtain ⟨f0, f1, m0, m1, o0, o1, i0, i1, lim, left, armed, dead⟩ := R
 simp only at hR of0 of1 om0 om1 oo0 oo1 hbad hm
 have HR := Lib.hid hR
 have OF0 := Lib.hid of0
 have OF1 := Lib.hid of1
 have OM0 := Lib.hid om0
 have OM1 := Lib.hid om1
 have OO0 := Lib.hid oo0
 have OO1 := Lib.hid oo1
 clear hR of0 of1 om0 om1 oo0 oo1
 unfold RD.bad at hbad
 simp only at hbad
 have hh9 := Row.cell HR.out 9
 have hh10 := Row.cell HR.out 10
 have hh11 := Row.cell HR.out 11
 simp only [RdC, List.getElem?_cons_succ, List.getElem?_cons_zero] at hh9 hh10 hh11
 have hf9 := Row.frozen HR.out 9
 have hd : dead = false := by cases dead; rfl; exact absurd (.inl rfl) hbad
 subst hd
 have hw := IntWalk.wrap64_in (left - 1) ⟨by omega, by omega⟩
 have hal : armed = false ∨ (armed = true ∧ (left == 0) = false) := by
  cases armed with
  | false => exact .inl rfl
  | true => exact .inr ⟨rfl, by rw [beq_eq_false_iff_ne]; exact fun h => hbad (.inr ⟨rfl, h⟩)⟩
 clear hbad
 rcases hn with hn | hn
 ·rcases hal with rfl | ⟨rfl, hl0⟩
  ·go_enter Try.func65, Try.ntmps65
   go_wp2_with fail
   try rw [hw]
   go_ret
   have h1 := rset9 HR.out (left - 1)
   exact ⟨rfl, ⟨xf0, kf0, xf1, kf1, xm0, km0, xm1, km1, xo0, ko0, xo1, ko1, h1.1, rkeep OF0.out HR.out h1.2, rkeep OF1.out HR.out h1.2, rkeep OM0.out HR.out h1.2, rkeep OM1.out HR.out h1.2, rkeep OO0.out HR.out h1.2, rkeep OO1.out HR.out h1.2⟩, h1.2⟩
  ·go_enter Try.func65, Try.ntmps65
   go_wp2_with fail
   try rw [hw]
   go_ret
   have h1 := rset9 HR.out (left - 1)
   exact ⟨rfl, ⟨xf0, kf0, xf1, kf1, xm0, km0, xm1, km1, xo0, ko0, xo1, ko1, h1.1, rkeep OF0.out HR.out h1.2, rkeep OF1.out HR.out h1.2, rkeep OM0.out HR.out h1.2, rkeep OM1.out HR.out h1.2, rkeep OO0.out HR.out h1.2, rkeep OO1.out HR.out h1.2⟩, h1.2⟩
 ·have hn0 : ¬ n < 0 := by omega
  rcases hal with rfl | ⟨rfl, hl0⟩
  ·go_enter Try.func65, Try.ntmps65
   go_wp2_with fail
   try rw [hw]
   go_ret
   have h1 := rset9 HR.out (left - 1)
   exact ⟨rfl, ⟨xf0, kf0, xf1, kf1, xm0, km0, xm1, km1, xo0, ko0, xo1, ko1, h1.1, rkeep OF0.out HR.out h1.2, rkeep OF1.out HR.out h1.2, rkeep OM0.out HR.out h1.2, rkeep OM1.out HR.out h1.2, rkeep OO0.out HR.out h1.2, rkeep OO1.out HR.out h1.2⟩, h1.2⟩
  ·go_enter Try.func65, Try.ntmps65
   go_wp2_with fail
   try rw [hw]
   go_ret
   have h1 := rset9 HR.out (left - 1)
   exact ⟨rfl, ⟨xf0, kf0, xf1, kf1, xm0, km0, xm1, km1, xo0, ko0, xo1, ko1, h1.1, rkeep OF0.out HR.out h1.2, rkeep OF1.out HR.out h1.2, rkeep OM0.out HR.out h1.2, rkeep OM1.out HR.out h1.2, rkeep OO0.out HR.out h1.2, rkeep OO1.out HR.out h1.2⟩, h1.2⟩
theorem refcounts_ok (q : Nat) (n : Int) (R : RD) (w : World) (hR0 : Rdk w q R) (hbad : ¬ R.bad) (hm : -9223372036854775808 < R.left ∧ R.left ≤ 9223372036854775807) (hn : 0 ≤ n ∧ n ≤ 1) :
  Calls Try.prog 65 #[.pointer (some ⟨q, 0, none⟩), .int .i64 n] w fun e w' => e = .returned (.int .i64 0) ∧ Rdk w' q R.tick ∧ Upd q w w' := by
 obtain ⟨xf0, kf0, xf1, kf1, xm0, km0, xm1, km1, xo0, ko0, xo1, ko1, hR, of0, of1, om0, om1, oo0, oo1⟩ := hR0
 obtain ⟨f0, f1, m0, m1, o0, o1, i0, i1, lim, left, armed, dead⟩ := R
 simp only at hR of0 of1 om0 om1 oo0 oo1 hbad hm
 have HR := Lib.hid hR
 have OF0 := Lib.hid of0
 have OF1 := Lib.hid of1
 have OM0 := Lib.hid om0
 have OM1 := Lib.hid om1
 have OO0 := Lib.hid oo0
 have OO1 := Lib.hid oo1
 clear hR of0 of1 om0 om1 oo0 oo1
 unfold RD.bad at hbad
 simp only at hbad
 have hh9 := Row.cell HR.out 9
 have hh10 := Row.cell HR.out 10
 have hh11 := Row.cell HR.out 11
 simp only [RdC, List.getElem?_cons_succ, List.getElem?_cons_zero] at hh9 hh10 hh11
 have hf9 := Row.frozen HR.out 9
 have hd : dead = false := by cases dead; rfl; exact absurd (.inl rfl) hbad
 subst hd
 have hw := IntWalk.wrap64_in (left - 1) ⟨by omega, by omega⟩
 have hal : armed = false ∨ (armed = true ∧ (left == 0) = false) := by
  cases armed with
  | false => exact .inl rfl
  | true => exact .inr ⟨rfl, by rw [beq_eq_false_iff_ne]; exact fun h => hbad (.inr ⟨rfl, h⟩)⟩
 clear hbad
 obtain ⟨hn0, hn1⟩ := hn
 have hn2 : ¬ n < 0 := by omega
 have hn3 : ¬ 1 < n := by omega
 rcases hal with rfl | ⟨rfl, hl0⟩
 ·go_enter Try.func65, Try.ntmps65
  go_wp2_with fail
  try rw [hw]
  go_ret
  have h1 := rset9 HR.out (left - 1)
  exact ⟨rfl, ⟨xf0, kf0, xf1, kf1, xm0, km0, xm1, km1, xo0, ko0, xo1, ko1, h1.1, rkeep OF0.out HR.out h1.2, rkeep OF1.out HR.out h1.2, rkeep OM0.out HR.out h1.2, rkeep OM1.out HR.out h1.2, rkeep OO0.out HR.out h1.2, rkeep OO1.out HR.out h1.2⟩, h1.2⟩
 ·go_enter Try.func65, Try.ntmps65
  go_wp2_with fail
  try rw [hw]
  go_ret
  have h1 := rset9 HR.out (left - 1)
  exact ⟨rfl, ⟨xf0, kf0, xf1, kf1, xm0, km0, xm1, km1, xo0, ko0, xo1, ko1, h1.1, rkeep OF0.out HR.out h1.2, rkeep OF1.out HR.out h1.2, rkeep OM0.out HR.out h1.2, rkeep OM1.out HR.out h1.2, rkeep OO0.out HR.out h1.2, rkeep OO1.out HR.out h1.2⟩, h1.2⟩
def RD.fast (R : RD) (n : Nat) (b : List UInt8) : RD := if n = 0 then { R with f0 := b, m0 := [], o0 := [], i0 := false } else { R with f1 := b, m1 := [], o1 := [], i1 := false }
theorem fast_any (q : Nat) (n : Nat) (hn : n < 2) (vb : Value) (b : List UInt8) (B : Nat) (R : RD) (w : World) (hR0 : Rdk w q R) (hob : Own w B 5 vb b) :
  Calls Try.prog 53 #[.pointer (some ⟨q, 0, none⟩), .int .i64 n, vb] w fun e w' => e = .returned (.tuple #[]) ∧ Rdk w' q (R.fast n b) ∧ Upd q w w' := by
 obtain ⟨xf0, kf0, xf1, kf1, xm0, km0, xm1, km1, xo0, ko0, xo1, ko1, hR, of0, of1, om0, om1, oo0, oo1⟩ := hR0
 obtain ⟨f0, f1, m0, m1, o0, o1, i0, i1, lim, left, armed, dead⟩ := R
 simp only at hR of0 of1 om0 om1 oo0 oo1 
 have HR := Lib.hid hR
 have OF0 := Lib.hid of0
 have OF1 := Lib.hid of1
 have OM0 := Lib.hid om0
 have OM1 := Lib.hid om1
 have OO0 := Lib.hid oo0
 have OO1 := Lib.hid oo1
 clear hR of0 of1 om0 om1 oo0 oo1
 obtain ⟨xv, kv, rfl, -⟩ := hob.sh.open
 have HOB := Lib.hid hob
 clear hob
 have hn01 : n = 0 ∨ n = 1 := by omega
 rcases hn01 with rfl | rfl
 ·have hh0 := Row.cell HR.out 0
  have hh2 := Row.cell HR.out 2
  have hh4 := Row.cell HR.out 4
  have hh6 := Row.cell HR.out 6
  simp only [RdC, List.getElem?_cons_succ, List.getElem?_cons_zero] at hh0 hh2 hh4 hh6
  have hf0 := Row.frozen HR.out 0
  have hf2 := Row.frozen HR.out 2
  have hf4 := Row.frozen HR.out 4
  have hf6 := Row.frozen HR.out 6
  go_enter Try.func53, Try.ntmps53
  refine wp_region_any (by kernel_rfl) ?_
  try (change wpAny _ _ _ _ _ _ _ (World.drew _))
  refine tA (i := 0) (v := ?_) (y := (Or.inl ⟨by rfl, ?_⟩)) (h := ?_)
  rotate_left
  ·intro w; go_simp; try with_reducible rfl
  try simp only [Act.put, List.setIfInBounds_toArray, List.set_cons_zero, List.set_cons_succ, Array.replicate]
  refine tA (i := 1) (v := ?_) (y := (Or.inl ⟨by rfl, ?_⟩)) (h := ?_)
  rotate_left
  ·intro w; go_simp; try with_reducible rfl
  try simp only [Act.put, List.setIfInBounds_toArray, List.set_cons_zero, List.set_cons_succ, Array.replicate]
  refine tA (i := 2) (v := ?_) (y := (Or.inl ⟨by rfl, ?_⟩)) (h := ?_)
  rotate_left
  ·intro w; go_simp; try with_reducible rfl
  try simp only [Act.put, List.setIfInBounds_toArray, List.set_cons_zero, List.set_cons_succ, Array.replicate]
  refine tA (i := 3) (v := ?_) (y := (Or.inl ⟨by rfl, ?_⟩)) (h := ?_)
  rotate_left
  ·intro w; go_simp; try with_reducible rfl
  try simp only [Act.put, List.setIfInBounds_toArray, List.set_cons_zero, List.set_cons_succ, Array.replicate]
  refine tA (i := 4) (v := ?_) (y := (Or.inl ⟨by rfl, ?_⟩)) (h := ?_)
  rotate_left
  ·intro w; go_simp; try with_reducible rfl
  try simp only [Act.put, List.setIfInBounds_toArray, List.set_cons_zero, List.set_cons_succ, Array.replicate]
  refine tA (i := 5) (v := ?_) (y := (Or.inl ⟨by rfl, ?_⟩)) (h := ?_)
  rotate_left
  ·intro w; go_simp; try with_reducible rfl
  try simp only [Act.put, List.setIfInBounds_toArray, List.set_cons_zero, List.set_cons_succ, Array.replicate]
  refine tA (i := 6) (v := ?_) (y := (Or.inl ⟨by rfl, ?_⟩)) (h := ?_)
  rotate_left
  ·intro w; go_simp; try with_reducible rfl
  try simp only [Act.put, List.setIfInBounds_toArray, List.set_cons_zero, List.set_cons_succ, Array.replicate]
  refine tA (i := 7) (v := ?_) (y := (Or.inl ⟨by rfl, ?_⟩)) (h := ?_)
  rotate_left
  ·intro w; go_simp; try with_reducible rfl
  try simp only [Act.put, List.setIfInBounds_toArray, List.set_cons_zero, List.set_cons_succ, Array.replicate]
  refine tA (i := 8) (v := ?_) (y := (Or.inl ⟨by rfl, ?_⟩)) (h := ?_)
  rotate_left
  ·intro w; go_simp; try with_reducible rfl
  try simp only [Act.put, List.setIfInBounds_toArray, List.set_cons_zero, List.set_cons_succ, Array.replicate]
  refine tA (i := 9) (v := ?_) (y := (Or.inl ⟨by rfl, ?_⟩)) (h := ?_)
  rotate_left
  ·intro w; go_simp; try with_reducible rfl
  try simp only [Act.put, List.setIfInBounds_toArray, List.set_cons_zero, List.set_cons_succ, Array.replicate]
  refine tA (i := 10) (v := ?_) (y := (Or.inl ⟨by rfl, ?_⟩)) (h := ?_)
  rotate_left
  ·intro w; go_simp; try with_reducible rfl
  try simp only [Act.put, List.setIfInBounds_toArray, List.set_cons_zero, List.set_cons_succ, Array.replicate]
  refine tA (i := 13) (v := ?_) (y := (Or.inl ⟨by rfl, ?_⟩)) (h := ?_)
  rotate_left
  ·intro w; go_simp; try with_reducible rfl
  try simp only [Act.put, List.setIfInBounds_toArray, List.set_cons_zero, List.set_cons_succ, Array.replicate]
  refine tA (i := 14) (v := ?_) (y := (Or.inl ⟨by rfl, ?_⟩)) (h := ?_)
  rotate_left
  ·intro w; go_simp; try with_reducible rfl
  try simp only [Act.put, List.setIfInBounds_toArray, List.set_cons_zero, List.set_cons_succ, Array.replicate]
  refine tA (i := 17) (v := ?_) (y := (Or.inl ⟨by rfl, ?_⟩)) (h := ?_)
  rotate_left
  ·intro w; go_simp; try with_reducible rfl
  try simp only [Act.put, List.setIfInBounds_toArray, List.set_cons_zero, List.set_cons_succ, Array.replicate]
  refine tA (i := 18) (v := ?_) (y := (Or.inl ⟨by rfl, ?_⟩)) (h := ?_)
  rotate_left
  ·intro w; go_simp; try with_reducible rfl
  try simp only [Act.put, List.setIfInBounds_toArray, List.set_cons_zero, List.set_cons_succ, Array.replicate]
  refine tA (i := 21) (v := ?_) (y := (Or.inl ⟨by rfl, ?_⟩)) (h := ?_)
  rotate_left
  ·intro w; go_simp; try with_reducible rfl
  try simp only [Act.put, List.setIfInBounds_toArray, List.set_cons_zero, List.set_cons_succ, Array.replicate]
  refine tA (i := 22) (v := ?_) (y := (Or.inl ⟨by rfl, ?_⟩)) (h := ?_)
  rotate_left
  ·intro w; go_simp; try with_reducible rfl
  try simp only [Act.put, List.setIfInBounds_toArray, List.set_cons_zero, List.set_cons_succ, Array.replicate]
  refine tA (i := 11) (v := ?_) (y := (Or.inl ⟨by rfl, ?_⟩)) (h := ?_)
  rotate_left
  ·intro w; go_simp; try with_reducible rfl
  try simp only [Act.put, List.setIfInBounds_toArray, List.set_cons_zero, List.set_cons_succ, Array.replicate]
  refine rA [12] (h := ?_)
  refine cA (h := fun K hK => ?_) (hs := ?_)
  ·go_simp
   refine hK _ _ ?_
   clear hK K
   try simp only [Act.put, List.setIfInBounds_toArray, List.set_cons_zero, List.set_cons_succ, Array.replicate]
   refine tA (i := 15) (v := ?_) (y := (Or.inl ⟨by rfl, ?_⟩)) (h := ?_)
   rotate_left
   ·intro w; go_simp; try with_reducible rfl
   try simp only [Act.put, List.setIfInBounds_toArray, List.set_cons_zero, List.set_cons_succ, Array.replicate]
   refine rA [16] (h := ?_)
   refine cA (h := fun K hK => ?_) (hs := ?_)
   ·go_simp
    refine hK _ _ ?_
    clear hK K
    try simp only [Act.put, List.setIfInBounds_toArray, List.set_cons_zero, List.set_cons_succ, Array.replicate]
    refine tA (i := 19) (v := ?_) (y := (Or.inl ⟨by rfl, ?_⟩)) (h := ?_)
    rotate_left
    ·intro w; go_simp; try with_reducible rfl
    try simp only [Act.put, List.setIfInBounds_toArray, List.set_cons_zero, List.set_cons_succ, Array.replicate]
    refine rA [20] (h := ?_)
    refine cA (h := fun K hK => ?_) (hs := ?_)
    ·go_simp
     refine hK _ _ ?_
     clear hK K
     try simp only [Act.put, List.setIfInBounds_toArray, List.set_cons_zero, List.set_cons_succ, Array.replicate]
     refine tA (i := 23) (v := ?_) (y := (Or.inl ⟨by rfl, ?_⟩)) (h := ?_)
     rotate_left
     ·intro w; go_simp; try with_reducible rfl
     try simp only [Act.put, List.setIfInBounds_toArray, List.set_cons_zero, List.set_cons_succ, Array.replicate]
     refine rA [24] (h := ?_)
     refine cA (h := fun K hK => ?_) (hs := ?_)
     ·go_simp
      refine hK _ _ ?_
      clear hK K
      try simp only [Act.put, List.setIfInBounds_toArray, List.set_cons_zero, List.set_cons_succ, Array.replicate]
      refine wpAny_done (by kernel_rfl) ?_ _
      go_end0
      have h1 := rset0 HR.out (.slice xv b.length kv)
      have h2 := rset2 h1.1 (.slice none 0 0)
      have h3 := rset4 h2.1 (.slice none 0 0)
      have h4 := rset6 h3.1 false
      have hu := (((h1.2.trans h2.2).trans h3.2).trans h4.2).trans (Upd.of_below (Below.refl _ _).drew)
      exact ⟨rfl, ⟨xv, kv, xf1, kf1, none, 0, xm1, km1, none, 0, xo1, ko1, Row.drew h4.1, rkeep HOB.out HR.out hu, rkeep OF1.out HR.out hu, Own.nil _ _ _, rkeep OM1.out HR.out hu, Own.nil _ _ _, rkeep OO1.out HR.out hu⟩, hu⟩
     exact AllReady.nil
    exact AllReady.nil
   exact AllReady.nil
  exact AllReady.nil
 ·have hh1 := Row.cell HR.out 1
  have hh3 := Row.cell HR.out 3
  have hh5 := Row.cell HR.out 5
  have hh7 := Row.cell HR.out 7
  simp only [RdC, List.getElem?_cons_succ, List.getElem?_cons_zero] at hh1 hh3 hh5 hh7
  have hf1 := Row.frozen HR.out 1
  have hf3 := Row.frozen HR.out 3
  have hf5 := Row.frozen HR.out 5
  have hf7 := Row.frozen HR.out 7
  go_enter Try.func53, Try.ntmps53
  refine wp_region_any (by kernel_rfl) ?_
  try (change wpAny _ _ _ _ _ _ _ (World.drew _))
  refine tA (i := 0) (v := ?_) (y := (Or.inl ⟨by rfl, ?_⟩)) (h := ?_)
  rotate_left
  ·intro w; go_simp; try with_reducible rfl
  try simp only [Act.put, List.setIfInBounds_toArray, List.set_cons_zero, List.set_cons_succ, Array.replicate]
  refine tA (i := 1) (v := ?_) (y := (Or.inl ⟨by rfl, ?_⟩)) (h := ?_)
  rotate_left
  ·intro w; go_simp; try with_reducible rfl
  try simp only [Act.put, List.setIfInBounds_toArray, List.set_cons_zero, List.set_cons_succ, Array.replicate]
  refine tA (i := 2) (v := ?_) (y := (Or.inl ⟨by rfl, ?_⟩)) (h := ?_)
  rotate_left
  ·intro w; go_simp; try with_reducible rfl
  try simp only [Act.put, List.setIfInBounds_toArray, List.set_cons_zero, List.set_cons_succ, Array.replicate]
  refine tA (i := 3) (v := ?_) (y := (Or.inl ⟨by rfl, ?_⟩)) (h := ?_)
  rotate_left
  ·intro w; go_simp; try with_reducible rfl
  try simp only [Act.put, List.setIfInBounds_toArray, List.set_cons_zero, List.set_cons_succ, Array.replicate]
  refine tA (i := 4) (v := ?_) (y := (Or.inl ⟨by rfl, ?_⟩)) (h := ?_)
  rotate_left
  ·intro w; go_simp; try with_reducible rfl
  try simp only [Act.put, List.setIfInBounds_toArray, List.set_cons_zero, List.set_cons_succ, Array.replicate]
  refine tA (i := 5) (v := ?_) (y := (Or.inl ⟨by rfl, ?_⟩)) (h := ?_)
  rotate_left
  ·intro w; go_simp; try with_reducible rfl
  try simp only [Act.put, List.setIfInBounds_toArray, List.set_cons_zero, List.set_cons_succ, Array.replicate]
  refine tA (i := 6) (v := ?_) (y := (Or.inl ⟨by rfl, ?_⟩)) (h := ?_)
  rotate_left
  ·intro w; go_simp; try with_reducible rfl
  try simp only [Act.put, List.setIfInBounds_toArray, List.set_cons_zero, List.set_cons_succ, Array.replicate]
  refine tA (i := 7) (v := ?_) (y := (Or.inl ⟨by rfl, ?_⟩)) (h := ?_)
  rotate_left
  ·intro w; go_simp; try with_reducible rfl
  try simp only [Act.put, List.setIfInBounds_toArray, List.set_cons_zero, List.set_cons_succ, Array.replicate]
  refine tA (i := 8) (v := ?_) (y := (Or.inl ⟨by rfl, ?_⟩)) (h := ?_)
  rotate_left
  ·intro w; go_simp; try with_reducible rfl
  try simp only [Act.put, List.setIfInBounds_toArray, List.set_cons_zero, List.set_cons_succ, Array.replicate]
  refine tA (i := 9) (v := ?_) (y := (Or.inl ⟨by rfl, ?_⟩)) (h := ?_)
  rotate_left
  ·intro w; go_simp; try with_reducible rfl
  try simp only [Act.put, List.setIfInBounds_toArray, List.set_cons_zero, List.set_cons_succ, Array.replicate]
  refine tA (i := 10) (v := ?_) (y := (Or.inl ⟨by rfl, ?_⟩)) (h := ?_)
  rotate_left
  ·intro w; go_simp; try with_reducible rfl
  try simp only [Act.put, List.setIfInBounds_toArray, List.set_cons_zero, List.set_cons_succ, Array.replicate]
  refine tA (i := 13) (v := ?_) (y := (Or.inl ⟨by rfl, ?_⟩)) (h := ?_)
  rotate_left
  ·intro w; go_simp; try with_reducible rfl
  try simp only [Act.put, List.setIfInBounds_toArray, List.set_cons_zero, List.set_cons_succ, Array.replicate]
  refine tA (i := 14) (v := ?_) (y := (Or.inl ⟨by rfl, ?_⟩)) (h := ?_)
  rotate_left
  ·intro w; go_simp; try with_reducible rfl
  try simp only [Act.put, List.setIfInBounds_toArray, List.set_cons_zero, List.set_cons_succ, Array.replicate]
  refine tA (i := 17) (v := ?_) (y := (Or.inl ⟨by rfl, ?_⟩)) (h := ?_)
  rotate_left
  ·intro w; go_simp; try with_reducible rfl
  try simp only [Act.put, List.setIfInBounds_toArray, List.set_cons_zero, List.set_cons_succ, Array.replicate]
  refine tA (i := 18) (v := ?_) (y := (Or.inl ⟨by rfl, ?_⟩)) (h := ?_)
  rotate_left
  ·intro w; go_simp; try with_reducible rfl
  try simp only [Act.put, List.setIfInBounds_toArray, List.set_cons_zero, List.set_cons_succ, Array.replicate]
  refine tA (i := 21) (v := ?_) (y := (Or.inl ⟨by rfl, ?_⟩)) (h := ?_)
  rotate_left
  ·intro w; go_simp; try with_reducible rfl
  try simp only [Act.put, List.setIfInBounds_toArray, List.set_cons_zero, List.set_cons_succ, Array.replicate]
  refine tA (i := 22) (v := ?_) (y := (Or.inl ⟨by rfl, ?_⟩)) (h := ?_)
  rotate_left
  ·intro w; go_simp; try with_reducible rfl
  try simp only [Act.put, List.setIfInBounds_toArray, List.set_cons_zero, List.set_cons_succ, Array.replicate]
  refine tA (i := 11) (v := ?_) (y := (Or.inl ⟨by rfl, ?_⟩)) (h := ?_)
  rotate_left
  ·intro w; go_simp; try with_reducible rfl
  try simp only [Act.put, List.setIfInBounds_toArray, List.set_cons_zero, List.set_cons_succ, Array.replicate]
  refine rA [12] (h := ?_)
  refine cA (h := fun K hK => ?_) (hs := ?_)
  ·go_simp
   refine hK _ _ ?_
   clear hK K
   try simp only [Act.put, List.setIfInBounds_toArray, List.set_cons_zero, List.set_cons_succ, Array.replicate]
   refine tA (i := 15) (v := ?_) (y := (Or.inl ⟨by rfl, ?_⟩)) (h := ?_)
   rotate_left
   ·intro w; go_simp; try with_reducible rfl
   try simp only [Act.put, List.setIfInBounds_toArray, List.set_cons_zero, List.set_cons_succ, Array.replicate]
   refine rA [16] (h := ?_)
   refine cA (h := fun K hK => ?_) (hs := ?_)
   ·go_simp
    refine hK _ _ ?_
    clear hK K
    try simp only [Act.put, List.setIfInBounds_toArray, List.set_cons_zero, List.set_cons_succ, Array.replicate]
    refine tA (i := 19) (v := ?_) (y := (Or.inl ⟨by rfl, ?_⟩)) (h := ?_)
    rotate_left
    ·intro w; go_simp; try with_reducible rfl
    try simp only [Act.put, List.setIfInBounds_toArray, List.set_cons_zero, List.set_cons_succ, Array.replicate]
    refine rA [20] (h := ?_)
    refine cA (h := fun K hK => ?_) (hs := ?_)
    ·go_simp
     refine hK _ _ ?_
     clear hK K
     try simp only [Act.put, List.setIfInBounds_toArray, List.set_cons_zero, List.set_cons_succ, Array.replicate]
     refine tA (i := 23) (v := ?_) (y := (Or.inl ⟨by rfl, ?_⟩)) (h := ?_)
     rotate_left
     ·intro w; go_simp; try with_reducible rfl
     try simp only [Act.put, List.setIfInBounds_toArray, List.set_cons_zero, List.set_cons_succ, Array.replicate]
     refine rA [24] (h := ?_)
     refine cA (h := fun K hK => ?_) (hs := ?_)
     ·go_simp
      refine hK _ _ ?_
      clear hK K
      try simp only [Act.put, List.setIfInBounds_toArray, List.set_cons_zero, List.set_cons_succ, Array.replicate]
      refine wpAny_done (by kernel_rfl) ?_ _
      go_end0
      have h1 := rset1 HR.out (.slice xv b.length kv)
      have h2 := rset3 h1.1 (.slice none 0 0)
      have h3 := rset5 h2.1 (.slice none 0 0)
      have h4 := rset7 h3.1 false
      have hu := (((h1.2.trans h2.2).trans h3.2).trans h4.2).trans (Upd.of_below (Below.refl _ _).drew)
      exact ⟨rfl, ⟨xf0, kf0, xv, kv, xm0, km0, none, 0, xo0, ko0, none, 0, Row.drew h4.1, rkeep OF0.out HR.out hu, rkeep HOB.out HR.out hu, rkeep OM0.out HR.out hu, Own.nil _ _ _, rkeep OO0.out HR.out hu, Own.nil _ _ _⟩, hu⟩
     exact AllReady.nil
    exact AllReady.nil
   exact AllReady.nil
  exact AllReady.nil
def RD.read (R : RD) (n : Int) : List UInt8 × Nat := if R.dead = true then ([], 140) else if n < 0 ∨ 1 < n then ([], 1) else (R.all n.toNat, 0)
theorem refRead_any (q : Nat) (n : Int) (R : RD) (w : World) (hR0 : Rdk w q R) (hs : R.sz ≤ 140737488355328) :
  Calls Try.prog 17 #[.pointer (some ⟨q, 0, none⟩), .int .i64 n] w fun e w' => ∃ v', e = .returned (.tuple #[v', .int .i64 ((R.read n).2 : Int)]) ∧ Own w' w.heap.size 5 v' (R.read n).1 ∧ Below w.heap.size w w' := by
 have H := Lib.hid hR0
 obtain ⟨xf0, kf0, xf1, kf1, xm0, km0, xm1, km1, xo0, ko0, xo1, ko1, hR, -⟩ := hR0
 have hh11 := Row.cell hR 11
 simp only [RdC, List.getElem?_cons_succ, List.getElem?_cons_zero] at hh11
 clear hR
 cases hd : R.dead with
 | true =>
  have e0 : R.read n = ([], 140) := by unfold RD.read; exact if_pos hd
  rw [e0]
  rw [hd] at hh11
  clear e0 hd
  go_enter Try.func17, Try.ntmps17
  go_wp2_with fail
  go_ret2
  exact ⟨_, rfl, Own.nil _ _ _, Below.refl _ _⟩
 | false =>
  rw [hd] at hh11
  by_cases harg : n < 0 ∨ 1 < n
  ·have e0 : R.read n = ([], 1) := by unfold RD.read; rw [if_neg (by rw [hd]; simp), if_pos harg]
   rw [e0]
   clear e0 hd
   rcases harg with hn | hn
   ·go_enter Try.func17, Try.ntmps17
    go_wp2_with fail
    go_ret2
    exact ⟨_, rfl, Own.nil _ _ _, Below.refl _ _⟩
   ·have hn0 : ¬ n < 0 := by omega
    go_enter Try.func17, Try.ntmps17
    go_wp2_with fail
    go_ret2
    exact ⟨_, rfl, Own.nil _ _ _, Below.refl _ _⟩
  ·obtain ⟨m, rfl⟩ : ∃ m : Nat, n = (m : Int) := ⟨n.toNat, by omega⟩
   have e0 : R.read (m : Int) = (R.all m, 0) := by unfold RD.read; rw [if_neg (by rw [hd]; simp), if_neg harg, Int.toNat_natCast]
   rw [e0]
   have hm1 : ¬ 1 < (m : Int) := by omega
   clear e0 hd
   go_enter Try.func17, Try.ntmps17
   go_wp2_with (go_at_call 38; refine (refAll_any q m (by omega) R _ H.out hs).mono ?_; rintro e w1 ⟨v1, rfl, ho1, hb1⟩)
   go_ret2
   exact ⟨_, rfl, ho1, hb1⟩
end Go.Proofs.Ytkghkpkiodghiaa
