/- Chapter 28's laws: what they call besides Show. -/
import Derived.Test.YtojoeaaodomfnaaGreatDoorShl5
import Derived.Test.YtojoeaaodomfnaaGreatDoorEvW
namespace Go.Proofs.YtojoeaaodomfnaaGreatDoor
set_option linter.unusedVariables false
set_option linter.unusedSimpArgs false
set_option linter.unnecessarySimpa false
open Go.RowKit
set_option maxRecDepth 100000
set_option maxHeartbeats 4000000

theorem Parse_any (s : ByteArray) (hs : s.size < 4294967281) (w : World) (hg : Gl w) :
    Calls Tryz.prog 8 #[.string s] w fun e w' => e = .returned (parseV s (Shl.parseL s.data.toList)) ∧ Below w.heap.size w w' := by
  obtain ⟨x, y, hxy⟩ : ∃ (x : Shl.Ev) (y : Value), parseV s (Shl.parseL s.data.toList) = .tuple #[.agg (evC x).toArray, y] := by
    cases Shl.parseL s.data.toList <;> exact ⟨_, _, rfl⟩
  obtain ⟨Y, hY⟩ : ∃ Y, evC x = Y := ⟨_, rfl⟩
  have HYL : Hid (Y.length = 11) := by rw [← hY]; exact (rfl : (evC x).length = 11)
  have HY1 : Hid (∀ u ∈ Y, u.oneCell' = true) := by rw [← hY]; exact evOne x
  have hp := fun w1 hg1 => parse_any s hs w1 hg1
  rw [hY] at hxy
  rw [hxy] at hp ⊢
  have HP := Lib.hid hp
  have HG := Lib.hid hg
  have Z1 := Lib.hid (Row.new w 28 (evC ev00))
  have Z2 : Hid (Below w.heap.size w (w.alloc (.cells (evC ev00).toArray 28))) := balloc (Below.refl _ _) _
  clear hp hxy hg hY
  go_enter Tryz.func8, Tryz.ntmps8
  go_wp2_with (first
    | (go_at_call 18; refine (HP.out _ (HG.out.keep Z2.out)).mono ?_; rintro e w1 ⟨rfl, hb1⟩; have R1 := Lib.hid (Z1.out.keep hb1); have B1 := Lib.hid (Z2.out.trans (hb1.mono Z2.out.size)); clear hb1)
    | (refine store_box rfl 28 (.tmp 2) (.tmp 6) (by rfl) w.heap.size (by rfl) Y (by rfl) 28 (evC ev00) R1.out (by rw [HYL.out]; rfl) (by rw [HYL.out]; kernel_rfl) HY1.out ?_; intro w2 hr2 hu2; have R2 := Lib.hid hr2; have B2 := Lib.hid (Upd.below' B1.out hu2 (Nat.le_refl _) B1.out.size); clear hr2 hu2))
  refine ret_box rfl rfl w.heap.size rfl Y R2.out Tryz.underlying28 rfl (by rw [HYL.out]; kernel_rfl) ?_
  exact ⟨rfl, B2.out⟩
theorem Begins_nil (a b : Option Addr) (c d : Nat) (w : World) :
    Calls Tryz.prog 51 #[.slice a 0 c, .slice b 0 d] w fun e w' => e = .returned (.bool true) ∧ w = w' := by
  go_enter Tryz.func51, Tryz.ntmps51
  go_upto_region 4 with fail
  go_loopw [5] (fun iv wr => iv = .int .i64 0 ∧ wr = w) (fun _ _ => 0)
  case atStart => exact ⟨rfl, rfl⟩
  case round =>
    obtain ⟨rfl, rfl⟩ := hrel
    go_wp2_with fail
    go_ret
    exact ⟨rfl, rfl⟩
theorem entries_nil (a b : Option Addr) (c d : Nat) (w : World) :
    Calls Tryz.prog 38 #[.slice a 0 c, .slice b 0 d] w fun e w' => e = .returned (.bool true) ∧ w = w' := by
  go_enter Tryz.func38, Tryz.ntmps38
  go_wp2_with (go_at_call 51; refine (Begins_nil a b c d _).mono ?_; rintro e w1 ⟨rfl, rfl⟩)
  go_ret
  exact ⟨rfl, rfl⟩
def cmdW (e : Shl.Ev) (at_ ep : Int) (se : Value) : List Value := [.int .i64 e.ck, .string (bs e.subj), .string (bs e.text), .int .i64 e.n, .int .i64 at_, .int .u64 ep, se]
theorem rows2 (w : World) (t : TypeId) (A B : List Value) : Row ((w.alloc (.cells A.toArray t)).alloc (.cells B.toArray t)) w.heap.size t A ∧ Row ((w.alloc (.cells A.toArray t)).alloc (.cells B.toArray t)) (w.heap.size + 1) t B := by
  refine ⟨(Row.new w t A).alloc _, ?_⟩
  have := Row.new (w.alloc (.cells A.toArray t)) t B
  rwa [World.size_alloc] at this
theorem rsame19 (e : Shl.Ev) (at_ ep : Int) (a b : Option Addr) (c d : Nat) (w : World) :
    Calls Tryz.prog 20 #[.agg (cmdW e at_ ep (.slice a 0 c)).toArray, .agg (cmdW e at_ ep (.slice b 0 d)).toArray] w fun en w' => en = .returned (.bool true) ∧ Below w.heap.size w w' := by
  go_enter Tryz.func20, Tryz.ntmps20
  go_upto_region 1 with fail
  obtain ⟨W, hW⟩ : ∃ W, (w.alloc (.cells (cmdW e at_ ep (.slice a 0 c)).toArray 25)).alloc (.cells (cmdW e at_ ep (.slice b 0 d)).toArray 25) = W := ⟨_, rfl⟩
  obtain ⟨r0, r1⟩ := rows2 w 25 (cmdW e at_ ep (.slice a 0 c)) (cmdW e at_ ep (.slice b 0 d))
  rw [hW] at r0 r1
  have BW : Hid (Below w.heap.size w W) := by rw [← hW]; exact balloc (balloc (Below.refl _ _) _) _
  have HW := Lib.hid hW
  rw [hW]
  clear hW
  have x0 := r0.cell 0
  have x1 := r0.cell 1
  have x2 := r0.cell 2
  have x3 := r0.cell 3
  have x4 := r0.cell 4
  have x5 := r0.cell 5
  have x6 := r0.cell 6
  have y0 := r1.cell 0
  have y1 := r1.cell 1
  have y2 := r1.cell 2
  have y3 := r1.cell 3
  have y4 := r1.cell 4
  have y5 := r1.cell 5
  have y6 := r1.cell 6
  simp only [cmdW, List.getElem?_cons_zero, List.getElem?_cons_succ] at x0 x1 x2 x3 x4 x5 x6 y0 y1 y2 y3 y4 y5 y6
  clear r0 r1
  go_wp2_with (go_at_call 38; refine (entries_nil a b c d _).mono ?_; rintro en w1 ⟨rfl, rfl⟩)
  go_ret
  exact ⟨rfl, BW.out⟩
/-- A slice of no elements, as there may be. -/
def Nil0 (v : Value) : Prop := ∃ (a : Option Addr) (c : Nat), v = .slice a 0 c ∧ c ≤ 9223372036854775807 ∧ (a = none → c = 0)
theorem Nil0.sh {v : Value} (h : Nil0 v) (w : World) : Sh w v [] := by
  obtain ⟨a, c, rfl, h1, h2⟩ := h
  exact ⟨rfl, a, c, rfl, Nat.zero_le _, by simpa [maxLen] using h1, h2, fun x hx j u hu => by cases hu⟩
theorem nil0 : Nil0 (.slice none 0 0) := ⟨none, 0, rfl, by omega, fun _ => rfl⟩
theorem mid7 {w : World} {b : Nat} {t : TypeId} {e : Shl.Ev} {at_ ep : Int} {se st : Value} (h : Row w b t (evW e at_ ep se st)) : w.rangeAt b 3 (cmdW e at_ ep se) := fun j v hv => by
  rw [h.cell]
  have : evW e at_ ep se st = [.int .i64 e.kind, .int .i64 e.a, .int .i64 e.b] ++ (cmdW e at_ ep se ++ [st]) := rfl
  rw [this, List.getElem?_append_right (by simp), show 3 + j - [Value.int .i64 e.kind, .int .i64 e.a, .int .i64 e.b].length = j by simp, List.getElem?_append_left (List.getElem?_eq_some_iff.1 hv).1]
  exact hv
/-- A part of a struct is loaded, under a guard that holds. -/
theorem load_mid_g {P : Program} {w : World} {ops : Array Oper} {rest : List Oper} {o : Oper} {a : Act} {Q : Exit → Act → World → Prop} (hw : Region.wanted o (yielded ops a.tmps) = true) (ty : TypeId) (x : Operand) (ho : o.op = .load ty x)
    (b off : Nat) (hx : a.eval x = .pointer (some ⟨b, off, none⟩)) (cs : List Value) (hr : w.rangeAt b off cs) (d : TypeDesc) (hu : P.underlying ty = some d) (hd : d.isRow = true)
    (hi : (P.info? ty).map (·.size) = some cs.length) (h : wpList P ops Q rest (a.put o.dst (.agg cs.toArray)) w) : wpList P ops Q (o :: rest) a w :=
  BigFrame.wpList_want hw fun K hK => wp_load_mid ty x ho b off hx cs d hr hu hd hi (hK _ _ h)
/-- The law's 'same' of two events that are one. -/
theorem lsame_any (e : Shl.Ev) (at_ ep : Int) (se st se' st' : Value) (h0 : Nil0 se) (h1 : Nil0 st) (h2 : Nil0 se') (h3 : Nil0 st') (w : World) :
    Calls Tryz.prog 9 #[.agg (evW e at_ ep se st).toArray, .agg (evW e at_ ep se' st').toArray] w fun en w' => en = .returned (.bool true) ∧ Below w.heap.size w w' := by
  have hcv := fun W => run_string_of (P := Tryz.prog) (src := 26) (dst := 9) Tryz.underlying26 Tryz.underlying5 Tryz.underlying9 (h1.sh W)
  have hcv2 := fun W => run_string_of (P := Tryz.prog) (src := 26) (dst := 9) Tryz.underlying26 Tryz.underlying5 Tryz.underlying9 (h3.sh W)
  have hs9 : ∀ w, Calls Tryz.prog 20 #[.agg (cmdW e at_ ep se).toArray, .agg (cmdW e at_ ep se').toArray] w fun en w' => en = .returned (.bool true) ∧ Below w.heap.size w w' := fun w => by
    obtain ⟨a, c, rfl, -, -⟩ := h0
    obtain ⟨b, d, rfl, -, -⟩ := h2
    exact rsame19 e at_ ep a b c d w
  have HS9 := Lib.hid hs9
  clear hs9 h0 h1 h2 h3
  go_enter Tryz.func9, Tryz.ntmps9
  go_upto_region 1 with fail
  obtain ⟨W, hW⟩ : ∃ W, (w.alloc (.cells (evW e at_ ep se st).toArray 28)).alloc (.cells (evW e at_ ep se' st').toArray 28) = W := ⟨_, rfl⟩
  obtain ⟨r0, r1⟩ := rows2 w 28 (evW e at_ ep se st) (evW e at_ ep se' st')
  rw [hW] at r0 r1
  have BW : Hid (Below w.heap.size w W) := by rw [← hW]; exact balloc (balloc (Below.refl _ _) _) _
  have HA := Lib.hid (mid7 r0)
  have HB := Lib.hid (mid7 r1)
  rw [hW]
  clear hW
  have x0 := r0.cell 0
  have x1 := r0.cell 1
  have x2 := r0.cell 2
  have x10 := r0.cell 10
  have y0 := r1.cell 0
  have y1 := r1.cell 1
  have y2 := r1.cell 2
  have y10 := r1.cell 10
  simp only [evW, List.getElem?_cons_zero, List.getElem?_cons_succ] at x0 x1 x2 x10 y0 y1 y2 y10
  clear r0 r1
  obtain ⟨A, hA⟩ : ∃ A, cmdW e at_ ep se = A := ⟨_, rfl⟩
  obtain ⟨B, hB⟩ : ∃ A, cmdW e at_ ep se' = A := ⟨_, rfl⟩
  have HAL : Hid (A.length = 7) := by rw [← hA]; exact (rfl : (cmdW e at_ ep se).length = 7)
  have HBL : Hid (B.length = 7) := by rw [← hB]; exact (rfl : (cmdW e at_ ep se').length = 7)
  rw [hA, hB] at HS9
  rw [hA] at HA
  rw [hB] at HB
  clear hA hB
  go_wp2_with (first
    | (refine load_mid_g (by kernel_rfl) 25 (.tmp 34) rfl w.heap.size 3 rfl A HA.out _ Tryz.underlying25 rfl (by rw [HAL.out]; kernel_rfl) ?_)
    | (refine load_mid_g (by kernel_rfl) 25 (.tmp 36) rfl (w.heap.size + 1) 3 rfl B HB.out _ Tryz.underlying25 rfl (by rw [HBL.out]; kernel_rfl) ?_)
    | (go_at_call 20; refine (HS9.out _).mono ?_; rintro en w1 ⟨rfl, hb⟩; have B1 := Lib.hid hb; clear hb))
  go_ret
  exact ⟨rfl, BW.out.trans (B1.out.mono BW.out.size)⟩
/-- The law's 'why' of an error of package api, wrapped. -/
theorem lwhy_F (s : ByteArray) (n : Int) (w : World) (hg : Gl w) :
    Calls Tryz.prog 11 #[Errs.flt s n] w fun e w' => e = .returned (.int .i64 n) ∧ Below w.heap.size w w' := by
  have HG := Lib.hid (hg.keep (balloc (Below.refl _ w) (.cells #[.int .i64 0] 38)))
  have B1 := Lib.hid (balloc (Below.refl _ w) (.cells #[.int .i64 0] 38))
  clear hg
  unfold Errs.flt
  go_enter Tryz.func11, Tryz.ntmps11
  go_wp2_with (go_at_call 24; refine (Errs.as_FE w.heap.size s n [.int .i64 0] _ HG.out.et (Row.new w 38 [.int .i64 0]) rfl).mono ?_; rintro e w2 ⟨rfl, hu, hr⟩; have U2 := Lib.hid hu; have hc := hr.cell 0; simp only [List.getElem?_cons_zero] at hc; clear hu hr)
  go_ret
  exact ⟨rfl, B1.out.trans (U2.out.below (Nat.le_refl _) B1.out.size)⟩
theorem lwhy_nil (w : World) : Calls Tryz.prog 11 #[.nilIface] w fun e w' => e = .returned (.int .i64 0) ∧ Below w.heap.size w w' := by
  go_enter Tryz.func11, Tryz.ntmps11
  go_wp2_with fail
  go_ret
  exact ⟨rfl, balloc (Below.refl _ _) _⟩
end Go.Proofs.YtojoeaaodomfnaaGreatDoor
