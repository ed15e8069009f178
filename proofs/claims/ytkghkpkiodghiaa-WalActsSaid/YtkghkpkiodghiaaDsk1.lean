/- Of no program: a call that writes one block alone. -/
import Derived.Test.YtkghkpkiodghiaaBase
import Derived.Test.YtkghkpkiodghiaaArr
import Derived.Test.YtkghkpkiodghiaaRows
import Derived.Test.YtkghkpkiodghiaaOpen
import Derived.Lib.AppendZeros
namespace Go.Proofs.Ytkghkpkiodghiaa
set_option linter.unusedVariables false
set_option linter.unusedSimpArgs false
set_option linter.unnecessarySimpa false
open Go.RowKit

/-- Of what was there block p alone is another. -/
def Upd (p : Nat) (w w' : World) : Prop := w.grownBy w' (some p)
theorem Upd.refl (p : Nat) (w : World) : Upd p w w := ⟨rfl, rfl, rfl, Nat.le_refl _, fun _ _ _ => rfl⟩
theorem Upd.trans {p : Nat} {a b c : World} (h : Upd p a b) (k : Upd p b c) : Upd p a c :=
 ⟨k.os.trans h.os, k.tape.trans h.tape, k.output.trans h.output, Nat.le_trans h.size k.size, fun i hi hp => (k.block i (Nat.lt_of_lt_of_le hi h.size) hp).trans (h.block i hi hp)⟩
theorem Upd.of_below {p : Nat} {a b : World} (h : Below a.heap.size a b) : Upd p a b := bgrow h _
theorem Upd.sizeLe {p : Nat} {a b : World} (h : Upd p a b) : a.heap.size ≤ b.heap.size := h.size
theorem Upd.below {p B : Nat} {a b : World} (h : Upd p a b) (hp : B ≤ p) (hB : B ≤ a.heap.size) : Below B a b :=
 ⟨h.os, h.tape, h.output, h.size, fun k hk => h.block k (by omega) (fun e => by simp at e; omega)⟩
theorem Upd.set (p j : Nat) (w : World) (u : Value) : Upd p w (w.setCell ⟨p, j, none⟩ u) :=
 ⟨rfl, rfl, rfl, by simp [World.setCell], fun k _ hk => Below.heap_setCell _ _ _ _ (fun e => hk (by simp [e]))⟩
theorem Upd.row {p q t : Nat} {C : List Value} {a b : World} (h : Upd p a b) (hr : Row a q t C) (hq : q ≠ p) : Row b q t C := (h.block q hr.lt (fun e => hq (by simpa using e))).trans hr
theorem Upd.own {p t e : Nat} {C : List Value} {v : Value} {l : List UInt8} {B : Nat} {a b : World} (h : Upd p a b) (ho : Own a B e v l) (hr : Row a p t C) (he : e ≠ t) : Own b B e v l := by
 refine World.ownsRow.kept ho h ?_
 rcases ho.2 with ⟨rfl, _⟩ | ⟨g, cap, cur, rfl, _, hg, _⟩
 ·exact .inl rfl
 ·refine .inr fun hc => ?_
  simp only [Value.ownBlock, Option.some.injEq] at hc
  subst hc
  unfold Row at hr
  rw [hg] at hr
  simp only [Option.some.injEq, Obj.cells.injEq] at hr
  exact he hr.2.1
end Go.Proofs.Ytkghkpkiodghiaa
namespace Go.Proofs.Ytkghkpkiodghiaa
set_option linter.unusedVariables false
set_option linter.unusedSimpArgs false
set_option linter.unnecessarySimpa false
open Go.RowKit
set_option maxRecDepth 100000
set_option maxHeartbeats 4000000
theorem info_byte : (Try.prog.info? 5).map (fun i => (i.zero, i.size, i.bytes)) = some (some (.int .u8 0), 1, 1) := by kernel_rfl

theorem run_slice_nil_eql (x : Option Addr) (n c : Nat) (w : World) : (binOp .eql 27 (.slice x n c) (.slice none 0 0)).run Try.prog w = .ok (.bool x.isNone) w :=
 Lib.run_eql_slice_nil w 27 5 x n c 0 0 Try.underlying27

/-- slices.Clone at []byte. -/
theorem clone_any (v : Value) (l : List UInt8) (w : World) (h : Sh w v l) (hl : l.length ≤ 140737488355328) :
  Calls Try.prog 37 #[v] w fun e w' => ∃ v', e = .returned v' ∧ Own w' w.heap.size 5 v' l ∧ Below w.heap.size w w' := by
 obtain ⟨x, cap, rfl, h1, h2, h3, h4⟩ := h.open
 cases x with
 | none =>
  have := h3 rfl
  obtain rfl : l = [] := List.eq_nil_of_length_eq_zero (by omega)
  have e : cap = 0 := h3 rfl
  subst e
  clear h3 h h4
  have hk := run_slice_nil_eql none 0 0 w
  show Calls _ _ #[.slice none 0 0] _ _
  go_enter Try.func37, Try.ntmps37
  go_wp2
  go_ret
  exact ⟨_, rfl, Own.nil _ _ _, Below.refl _ _⟩
 | some x =>
  have H4 := Lib.hid h4
  clear h h4 h3
  have hk := run_slice_nil_eql (some x) l.length cap w
  go_enter Try.func37, Try.ntmps37
  go_wp2_with (at_builtin; refine app_bytes (base := w.heap.size) Try.underlying27 info_byte rfl (.tmp 5) (.tmp 6) rfl (l := []) rfl (Own.lit w 5 []) rfl ((H4.out).below ((Below.refl _ _).alloc (Nat.le_refl _) _)) (by simpa using hl) (by simp) ?_; intro v' w' ho hb)
  go_ret
  exact ⟨v', rfl, ho, ((Below.refl _ _).alloc (Nat.le_refl _) _).trans hb⟩

theorem grow_nil (n : Nat) (w : World) (hn : n ≤ 140737488355328) :
  Calls Try.prog 54 #[.slice none 0 0, .int .i64 n] w fun e w' => ∃ v', e = .returned v' ∧ Own w' w.heap.size 5 v' [] ∧ Below w.heap.size w w' := by
 by_cases h0 : n = 0
 ·subst h0
  go_enter Try.func54, Try.ntmps54
  go_wp2_with fail
  go_ret
  exact ⟨_, rfl, Own.nil _ _ _, Below.refl _ _⟩
 ·have hnI : ¬ (n : Int) < 0 := by omega
  have hnI2 : 0 < (n : Int) := by omega
  obtain ⟨i, hi, hz0, hz1, hz2⟩ := info_parts info_byte
  go_enter Try.func54, Try.ntmps54
  go_wp2_with (at_builtin; refine Lib.wpList_append_run _ rfl (.tmp 20) (.tmp 21) _ _ rfl _ _ rfl rfl _ _ (Lib.run_append_nil_zeros w 27 3 _ 5 i (.int .u8 0) .i64 .i64 Try.underlying27 Try.underlying3 hi hz0 n (by omega) (by rw [hz1]; omega) (by omega) (by rw [hz2]; omega)) ?_)
  have hc := grownCap_ge w n 0 5
  have hm := grownCap_le_maxLen w n 0 5 (by unfold maxLen; omega)
  generalize grownCap w n 0 5 = C at *
  go_ret
  refine ⟨_, rfl, ?_, ((Below.refl _ _).alloc (Nat.le_refl _) _).drew⟩
  have hs : (Builtin.zeroCells #[Value.int .u8 0] n ++ Builtin.zeroCells #[Value.int .u8 0] (C - n)).size = C * 1 := by
   rw [Array.size_append, size_zeroCells, size_zeroCells]; simp; omega
  exact World.ownsRow_made (base := w.heap.size) (size := 1) (e := 5) w _ C (Nat.le_refl _) hm hs
theorem cat_take (Ls : List (List UInt8)) (j : Nat) (hj : j < Ls.length) : (Ls.take (j + 1)).flatten = (Ls.take j).flatten ++ Ls.getD j [] := by
 rw [List.take_add_one, List.getElem?_eq_getElem hj, List.flatten_append]
 simp [List.getD, List.getElem?_eq_getElem hj]
theorem cat_le (Ls : List (List UInt8)) (j : Nat) : (Ls.take j).flatten.length ≤ Ls.flatten.length := by
 have : Ls.flatten = (Ls.take j).flatten ++ (Ls.drop j).flatten := by rw [← List.flatten_append, List.take_append_drop]
 rw [this, List.length_append]; omega
/-- slices.Concat. -/
theorem concat_any (lv : Value) (Ls : List (List UInt8)) (w : World) (hs : Bss w lv Ls) (hn : Ls.length ≤ 1000000) (hl : Ls.flatten.length ≤ 140737488355328) :
  Calls Try.prog 39 #[lv] w fun e w' => ∃ v', e = .returned v' ∧ Own w' w.heap.size 5 v' Ls.flatten ∧ Below w.heap.size w w' := by
 obtain ⟨a, cap, rfl, g1, g2, g3⟩ := hs.open
 have HS := Lib.hid hs
 have HL := Lib.hid hl
 have HL2 := Lib.hid hl
 clear hs g3
 go_enter Try.func39, Try.ntmps39
 go_wp2_with fail
 go_loopw [3, 11] (fun n i wr => ∃ j : Nat, j ≤ Ls.length ∧ i = .int .i64 j ∧ n = .int .i64 ((Ls.take j).flatten.length : Int) ∧ wr = w) (fun _ i _ => Ls.length - (intOf i).toNat)
 case atStart => exact ⟨0, by omega, rfl, rfl, rfl⟩
 case round =>
  obtain ⟨j, hj, rfl, rfl, hw⟩ := hrel
  have hw := hw.symm
  subst hw
  by_cases hlt : j < Ls.length
  ·have hct := congrArg List.length (cat_take Ls j hlt)
   rw [List.length_append] at hct
   have hle := cat_le Ls (j + 1)
   have HT := Lib.hid hct
   obtain ⟨b, off, rfl, -, hat⟩ := HS.out.cells (by omega)
   obtain ⟨u, hu, hsu⟩ := hat j hlt
   obtain ⟨x, c, rfl, -⟩ := hsu.open
   have hjI : (j : Int) < (Ls.length : Int) := by omega
   have hb : (Ls.take j).flatten.length + (Ls.getD j []).length ≤ 140737488355328 := by omega
   clear hat hsu hct hle hl
   generalize (Ls.take j).flatten.length = A at *
   generalize (Ls.getD j []).length = B at *
   go_wp2_with fail
   exact ⟨⟨j + 1, by omega, by go_num, by rw [HT.out]; go_num, by trivial⟩, by simp [intOf]; omega⟩
  ·obtain rfl : j = Ls.length := by omega
   rw [List.take_length]
   have HL0 := Lib.hid hl
   clear hlt hj
   clear HL HL0
   generalize hTT : Ls.flatten.length = T at *
   have HTT := Lib.hid hTT
   clear hTT
   go_wp2_with (go_at_call 54; refine (grow_nil _ _ hl).mono ?_; rintro e w1 ⟨v1, rfl, ho1, hb1⟩)
   have HO := Lib.hid ho1
   have HB := Lib.hid hb1
   clear ho1 hb1
   go_loopw [6, 27] (fun o i wr => ∃ j : Nat, j ≤ Ls.length ∧ i = .int .i64 j ∧ Own wr w.heap.size 5 o (Ls.take j).flatten ∧ Below w.heap.size w wr) (fun _ i _ => Ls.length - (intOf i).toNat)
   case atStart => exact ⟨0, by omega, rfl, HO.out, HB.out⟩
   case round =>
    obtain ⟨j, hj, rfl, ho, hb⟩ := hrel
    by_cases hlt : j < Ls.length
    ·have hct := congrArg List.length (cat_take Ls j hlt)
     rw [List.length_append] at hct
     have hle := cat_le Ls (j + 1)
     have HT := Lib.hid (cat_take Ls j hlt)
     obtain ⟨b, off, rfl, -, hat⟩ := HS.out.cells (by omega)
     obtain ⟨u, hu, hsu⟩ := hat j hlt
     have hsu' := hsu.at' hb (Nat.le_refl _)
     have HSU := Lib.hid hsu'
     have hu' := bcell hb hu (blt hu)
     have hjI : (j : Int) < (Ls.length : Int) := by omega
     have hsz : (Ls.take j).flatten.length + (Ls.getD j []).length ≤ 140737488355328 := by have := HL2.out; have := HTT.out; omega
     have HSZ := Lib.hid hsz
     have HOO := Lib.hid ho
     have HBB := Lib.hid hb
     clear hat hsu hct hle hsz hsu' hu ho hb
     go_wp2_with (at_builtin; refine app_bytes (base := w.heap.size) Try.underlying27 info_byte rfl (.tmp 31) (.tmp 32) rfl rfl HOO.out rfl HSU.out HSZ.out HBB.out.size ?_; intro v2 w2 ho2 hb2)
     exact ⟨⟨j + 1, by omega, by go_num, by rw [HT.out]; exact ho2, HBB.out.trans hb2⟩, by simp [intOf]; omega⟩
    ·obtain rfl : j = Ls.length := by omega
     have hoo := ho
     rw [List.take_length] at hoo
     clear hlt hj
     go_wp2_with fail
     go_ret
     exact ⟨_, rfl, hoo, hb⟩
end Go.Proofs.Ytkghkpkiodghiaa
namespace Go.Proofs.Ytkghkpkiodghiaa
set_option linter.unusedVariables false
set_option linter.unusedSimpArgs false
set_option linter.unnecessarySimpa false
open Go.RowKit
set_option maxRecDepth 100000
set_option maxHeartbeats 4000000

/-- A disk, plainly: of each file what stands fast and what is written, whether that was replaced; the limit, how many calls come yet, and whether it is dead. -/
structure PD where
 f0 : List UInt8
 n0 : List UInt8
 r0 : Bool
 f1 : List UInt8
 n1 : List UInt8
 r1 : Bool
 lim : Int
 left : Int
 dead : Bool
def DskC (a b : Value) (r0 : Bool) (c d : Value) (r1 : Bool) (lim left : Int) (dead : Bool) : List Value := [a, b, .bool r0, c, d, .bool r1, .int .i64 lim, .int .i64 left, .bool dead]
def Dsk (w : World) (p : Nat) (S : PD) : Prop := ∃ (xa : Option Addr) (ka : Nat) (xb : Option Addr) (kb : Nat) (xc : Option Addr) (kc : Nat) (xd : Option Addr) (kd : Nat),
 Row w p 64 (DskC (.slice xa S.f0.length ka) (.slice xb S.n0.length kb) S.r0 (.slice xc S.f1.length kc) (.slice xd S.n1.length kd) S.r1 S.lim S.left S.dead) ∧
 Own w 0 5 (.slice xa S.f0.length ka) S.f0 ∧ Own w 0 5 (.slice xb S.n0.length kb) S.n0 ∧ Own w 0 5 (.slice xc S.f1.length kc) S.f1 ∧ Own w 0 5 (.slice xd S.n1.length kd) S.n1
theorem ix0 (a b c d : Value) (r0 r1 : Bool) (w : World) : (Instr.index 62 (.agg #[a, b, .bool r0, c, d, .bool r1]) (.int .i64 0)).run Try.prog w = .ok (.agg #[a, b, .bool r0]) w := by kernel_rfl
theorem ix1 (a b c d : Value) (r0 r1 : Bool) (w : World) : (Instr.index 62 (.agg #[a, b, .bool r0, c, d, .bool r1]) (.int .i64 1)).run Try.prog w = .ok (.agg #[c, d, .bool r1]) w := by kernel_rfl
theorem dsize_any (p : Nat) (xa xc ya yc : Option Addr) (ka kc na nc la lc : Nat) (A C : List UInt8) (r0 r1 : Bool) (lim left : Int) (dead : Bool) (w : World) (h : Row w p 64 (DskC (.slice ya na la) (.slice xa A.length ka) r0 (.slice yc nc lc) (.slice xc C.length kc) r1 lim left dead)) (hl : A.length + C.length ≤ 140737488355328) :
  Calls Try.prog 44 #[.pointer (some ⟨p, 0, none⟩)] w fun e w' => e = .returned (.int .i64 ((A.length + C.length : Nat) : Int)) ∧ Below w.heap.size w w' := by
 have h0 := Row.cell h 0
 have h1 := Row.cell h 1
 have h2 := Row.cell h 2
 have h3 := Row.cell h 3
 have h4 := Row.cell h 4
 have h5 := Row.cell h 5
 simp only [DskC, List.getElem?_cons_succ, List.getElem?_cons_zero] at h0 h1 h2 h3 h4 h5
 go_enter Try.func44, Try.ntmps44
 go_wp2_with fail
 clear h h0 h1 h2 h3 h4 h5
 go_loopw [3, 10] (fun n i wr => Below w.heap.size w wr ∧ ((i = .int .i64 0 ∧ n = .int .i64 0) ∨ (i = .int .i64 1 ∧ n = .int .i64 (A.length : Int)) ∨ (i = .int .i64 2 ∧ n = .int .i64 ((A.length + C.length : Nat) : Int)))) (fun _ i _ => 2 - (intOf i).toNat)
 case atStart => exact ⟨Below.refl _ _, .inl ⟨rfl, rfl⟩⟩
 case round =>
  obtain ⟨hb, ⟨rfl, rfl⟩ | ⟨rfl, rfl⟩ | ⟨rfl, rfl⟩⟩ := hrel
  ·have hix := ix0 (.slice ya na la) (.slice xa A.length ka) (.slice yc nc lc) (.slice xc C.length kc) r0 r1 wr
   go_wp2_with fail
   exact ⟨⟨balloc hb _, .inr (.inl ⟨rfl, rfl⟩)⟩, by simp [intOf]⟩
  ·have hix := ix1 (.slice ya na la) (.slice xa A.length ka) (.slice yc nc lc) (.slice xc C.length kc) r0 r1 wr
   go_wp2_with fail
   exact ⟨⟨balloc hb _, .inr (.inr ⟨rfl, by simp⟩)⟩, by simp [intOf]⟩
  ·go_wp2_with fail
   go_ret
   exact ⟨rfl, hb⟩
theorem dset7 {w : World} {p : Nat} {a b c d : Value} {r0 r1 : Bool} {lim left : Int} {dead : Bool} (h : Row w p 64 (DskC a b r0 c d r1 lim left dead)) (x : Int) :
  Row (w.setCell ⟨p, 7, none⟩ (.int .i64 x)) p 64 (DskC a b r0 c d r1 lim x dead) ∧ Upd p w (w.setCell ⟨p, 7, none⟩ (.int .i64 x)) := ⟨Row.set h 7 _, Upd.set p 7 w _⟩
theorem dset8 {w : World} {p : Nat} {a b c d : Value} {r0 r1 : Bool} {lim left : Int} {dead : Bool} (h : Row w p 64 (DskC a b r0 c d r1 lim left dead)) (x : Bool) :
  Row (w.setCell ⟨p, 8, none⟩ (.bool x)) p 64 (DskC a b r0 c d r1 lim left x) ∧ Upd p w (w.setCell ⟨p, 8, none⟩ (.bool x)) := ⟨Row.set h 8 _, Upd.set p 8 w _⟩
theorem Arm_row (p : Nat) (a b c d : Value) (r0 r1 : Bool) (lim left n : Int) (dead : Bool) (w : World) (h : Row w p 64 (DskC a b r0 c d r1 lim left dead)) :
  Calls Try.prog 18 #[.pointer (some ⟨p, 0, none⟩), .int .i64 n] w fun e w' => e = .returned (.tuple #[]) ∧ Row w' p 64 (DskC a b r0 c d r1 lim (if n < 0 then 0 else n) dead) ∧ Upd p w w' := by
 have h7 := Row.cell h 7
 have hf7 := Row.frozen h 7
 simp only [DskC, List.getElem?_cons_succ, List.getElem?_cons_zero] at h7
 have HH := Lib.hid h
 clear h
 by_cases hn : n < 0
 ·rw [if_pos hn]
  go_enter Try.func18, Try.ntmps18
  go_wp2_with fail
  go_end0
  exact ⟨rfl, dset7 HH.out _⟩
 ·rw [if_neg hn]
  go_enter Try.func18, Try.ntmps18
  go_wp2_with fail
  go_end0
  exact ⟨rfl, dset7 HH.out _⟩
def leftC (left : Int) : Int := if 0 < left then left - 1 else left
theorem counts_dead (p : Nat) (a b c d : Value) (r0 r1 dead : Bool) (lim left n : Int) (w : World) (h : Row w p 64 (DskC a b r0 c d r1 lim left dead)) (hl : dead = true ∨ left = 0) :
  Calls Try.prog 43 #[.pointer (some ⟨p, 0, none⟩), .int .i64 n] w fun e w' => e = .returned (.tuple #[.pointer none, .int .i64 140]) ∧ Row w' p 64 (DskC a b r0 c d r1 lim left true) ∧ Upd p w w' := by
 have h7 := Row.cell h 7
 have h8 := Row.cell h 8
 have hf7 := Row.frozen h 7
 have hf8 := Row.frozen h 8
 simp only [DskC, List.getElem?_cons_succ, List.getElem?_cons_zero] at h7 h8
 have HH := Lib.hid h
 clear h
 by_cases h0 : left = 0
 ·subst h0
  go_enter Try.func43, Try.ntmps43
  go_wp2_with fail
  go_ret2
  exact ⟨rfl, dset8 HH.out _⟩
 ·have hd : dead = true := by rcases hl with h | h; exact h; exact absurd h h0
  subst hd
  have hle : (left == 0) = false := by rw [beq_eq_false_iff_ne]; exact h0
  go_enter Try.func43, Try.ntmps43
  go_wp2_with fail
  go_ret2
  exact ⟨rfl, HH.out, Upd.refl _ _⟩
theorem counts_arg (p : Nat) (a b c d : Value) (r0 r1 : Bool) (lim left n : Int) (w : World) (h : Row w p 64 (DskC a b r0 c d r1 lim left false)) (hl : left ≠ 0) (hm : left ≤ 9223372036854775807) (hn : n < 0 ∨ 1 < n) :
  Calls Try.prog 43 #[.pointer (some ⟨p, 0, none⟩), .int .i64 n] w fun e w' => e = .returned (.tuple #[.pointer none, .int .i64 1]) ∧ Row w' p 64 (DskC a b r0 c d r1 lim (leftC left) false) ∧ Upd p w w' := by
 have h7 := Row.cell h 7
 have h8 := Row.cell h 8
 have hf7 := Row.frozen h 7
 have hf8 := Row.frozen h 8
 simp only [DskC, List.getElem?_cons_succ, List.getElem?_cons_zero] at h7 h8
 have HH := Lib.hid h
 clear h
 have hle : (left == 0) = false := by rw [beq_eq_false_iff_ne]; exact hl
 by_cases hg : 0 < left
 ·have e1 : leftC left = left - 1 := if_pos hg
  rw [e1]
  have hw := IntWalk.wrap64_in (left - 1) ⟨by omega, by omega⟩
  rcases hn with hn | hn
  ·go_enter Try.func43, Try.ntmps43
   go_wp2_with fail
   try rw [hw]
   go_ret2
   exact ⟨rfl, dset7 HH.out _⟩
  ·have hn0 : ¬ n < 0 := by omega
   have hn2 : 2 ≤ n := by omega
   go_enter Try.func43, Try.ntmps43
   go_wp2_with fail
   try rw [hw]
   go_ret2
   exact ⟨rfl, dset7 HH.out _⟩
 ·have e1 : leftC left = left := if_neg hg
  rw [e1]
  rcases hn with hn | hn
  ·go_enter Try.func43, Try.ntmps43
   go_wp2_with fail
   go_ret2
   exact ⟨rfl, HH.out, Upd.refl _ _⟩
  ·have hn0 : ¬ n < 0 := by omega
   have hn2 : 2 ≤ n := by omega
   go_enter Try.func43, Try.ntmps43
   go_wp2_with fail
   go_ret2
   exact ⟨rfl, HH.out, Upd.refl _ _⟩
theorem counts_ok (p : Nat) (a b c d : Value) (r0 r1 : Bool) (lim left : Int) (n : Nat) (w : World) (h : Row w p 64 (DskC a b r0 c d r1 lim left false)) (hl : left ≠ 0) (hm : left ≤ 9223372036854775807) (hn : n < 2) :
  Calls Try.prog 43 #[.pointer (some ⟨p, 0, none⟩), .int .i64 n] w fun e w' => e = .returned (.tuple #[.pointer (some ⟨p, n * 3, none⟩), .int .i64 0]) ∧ Row w' p 64 (DskC a b r0 c d r1 lim (leftC left) false) ∧ Upd p w w' := by
 have h7 := Row.cell h 7
 have h8 := Row.cell h 8
 have hf7 := Row.frozen h 7
 have hf8 := Row.frozen h 8
 simp only [DskC, List.getElem?_cons_succ, List.getElem?_cons_zero] at h7 h8
 have HH := Lib.hid h
 clear h
 have hle : (left == 0) = false := by rw [beq_eq_false_iff_ne]; exact hl
 have hn1 : (n : Int) < 2 := by omega
 by_cases hg : 0 < left
 ·have e1 : leftC left = left - 1 := if_pos hg
  rw [e1]
  have hw := IntWalk.wrap64_in (left - 1) ⟨by omega, by omega⟩
  go_enter Try.func43, Try.ntmps43
  go_wp2_with fail
  try rw [hw]
  go_ret2
  exact ⟨rfl, dset7 HH.out _⟩
 ·have e1 : leftC left = left := if_neg hg
  rw [e1]
  go_enter Try.func43, Try.ntmps43
  go_wp2_with fail
  go_ret2
  exact ⟨rfl, HH.out, Upd.refl _ _⟩
theorem New_any (n : Int) (w : World) :
  Calls Try.prog 6 #[.int .i64 n] w fun e w' => e = .returned (.pointer (some ⟨w.heap.size, 0, none⟩)) ∧ Dsk w' w.heap.size ⟨[], [], false, [], [], false, if n < 0 then 0 else if 16777216 < n then 16777216 else n, -1, false⟩ ∧ Below w.heap.size w w' ∧ w.heap.size < w'.heap.size := by
 have key (m : Int) : Dsk (w.alloc (.cells #[.slice none 0 0, .slice none 0 0, .bool false, .slice none 0 0, .slice none 0 0, .bool false, .int .i64 m, .int .i64 (-1), .bool false] 64)) w.heap.size ⟨[], [], false, [], [], false, m, -1, false⟩ :=
  ⟨none, 0, none, 0, none, 0, none, 0, Row.new w _ _, Own.nil _ _ _, Own.nil _ _ _, Own.nil _ _ _, Own.nil _ _ _⟩
 by_cases h0 : n < 0
 ·rw [if_pos h0]
  go_enter Try.func6, Try.ntmps6
  go_wp2_with fail
  go_ret
  exact ⟨rfl, key _, balloc (Below.refl _ _) _, by simp⟩
 ·rw [if_neg h0]
  by_cases h1 : 16777216 < n
  ·rw [if_pos h1]
   go_enter Try.func6, Try.ntmps6
   go_wp2_with fail
   go_ret
   exact ⟨rfl, key _, balloc (Below.refl _ _) _, by simp⟩
  ·rw [if_neg h1]
   go_enter Try.func6, Try.ntmps6
   go_wp2_with fail
   go_ret
   exact ⟨rfl, key _, balloc (Below.refl _ _) _, by simp⟩
end Go.Proofs.Ytkghkpkiodghiaa
