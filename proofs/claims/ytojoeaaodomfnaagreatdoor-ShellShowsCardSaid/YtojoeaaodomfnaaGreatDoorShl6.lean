/- Package shell: same. (printed by gen/shl6.py) -/
import Derived.Test.YtojoeaaodomfnaaGreatDoorShl3
import Derived.Test.YtojoeaaodomfnaaGreatDoorDead
import Derived.OrdersHeld
import Derived.Deep.RegionHeld
namespace Go.Proofs.YtojoeaaodomfnaaGreatDoor
set_option linter.unusedVariables false
set_option linter.unusedSimpArgs false
set_option linter.unnecessarySimpa false
open Go.RowKit
set_option maxRecDepth 100000
set_option maxHeartbeats 40000000

/-- A command's cells; an event's, whatever it has. -/
def cmdX (e : Shl.Ev) (at_ ep : Int) (se : Value) : List Value := [.int .i64 e.ck, .string (bs e.subj), .string (bs e.text), .int .i64 e.n, .int .i64 at_, .int .u64 ep, se]
def evX (e : Shl.Ev) (at_ ep : Int) (se st : Value) : List Value := [.int .i64 e.kind, .int .i64 e.a, .int .i64 e.b] ++ cmdX e at_ ep se ++ [st]
theorem cmdSz (e : Shl.Ev) (at_ ep : Int) (se : Value) : (Tryz.prog.info? 25).map (·.size) = some (cmdX e at_ ep se).length := (show (Tryz.prog.info? 25).map (·.size) = some 7 by kernel_rfl)
theorem cmdOne (e : Shl.Ev) (at_ ep : Int) {se : Value} (h : se.oneCell' = true) : ∀ u ∈ cmdX e at_ ep se, u.oneCell' = true := by
  intro u hu
  simp only [cmdX, List.mem_cons, List.not_mem_nil, or_false] at hu
  rcases hu with rfl | rfl | rfl | rfl | rfl | rfl | rfl <;> first | rfl | exact h
theorem row_first (W : World) (t : TypeId) (C : List Value) : Row ((W.alloc (.cells C.toArray t)).alloc (.cells C.toArray t)).drew W.heap.size t C := Row.drew ((Row.new W t C).alloc _)
theorem row_second (W : World) (t : TypeId) (C : List Value) : Row ((W.alloc (.cells C.toArray t)).alloc (.cells C.toArray t)).drew (W.heap.size + 1) t C := by
  have := Row.new (W.alloc (.cells C.toArray t)) t C
  rw [World.size_alloc] at this
  exact Row.drew this
def zcmd : List Value := cmdX ev00 0 0 (.slice none 0 0)
theorem step_store_box {P : Program} {w : World} {ops : Array Oper} {o : Oper} {a : Act} {K : Act → World → Prop} {Q : Exit → Act → World → Prop} {E : Prop} (hgd : o.guard = none) (ty : TypeId) (x y : Operand) (ho : o.op = .store ty x y)
    (b : Nat) (hx : a.eval x = .pointer (some ⟨b, 0, none⟩)) (cs : List Value) (hy : a.eval y = .agg cs.toArray) (t : TypeId) (C : List Value) (hr : Row w b t C) (hl : cs.length = C.length)
    (hi : (P.info? ty).map (·.size) = some cs.length) (h1 : ∀ u ∈ cs, u.oneCell' = true)
    (h : ∀ w', Row w' b t cs → Upd b w w' → K (a.put o.dst undef) w') : if Region.wanted o (yielded ops a.tmps) = true then Oper.wp P o a w K Q else E := by
  rw [if_pos (by simp [Region.wanted, hgd])]
  exact wp_store_mid ty x y ho b 0 cs.toArray hx hy (hr.there' 0 _ (by simp; omega)) (by rw [hi]; simp) (all_oneCell_toArray h1) (h _ (hr.setAll hl) (upd_setCells b cs 0 w))
theorem mid3 {w : World} {b : Nat} {t : TypeId} {e : Shl.Ev} {at_ ep : Int} {se st : Value} (h : Row w b t (evX e at_ ep se st)) : w.rangeAt b 3 (cmdX e at_ ep se) := fun j v hv => by
  rw [h.cell]
  unfold evX
  rw [List.append_assoc, List.getElem?_append_right (by simp), show 3 + j - [Value.int .i64 e.kind, .int .i64 e.a, .int .i64 e.b].length = j by simp, List.getElem?_append_left (List.getElem?_eq_some_iff.1 hv).1]
  exact hv
theorem step_load_mid {P : Program} {w : World} {ops : Array Oper} {o : Oper} {a : Act} {K : Act → World → Prop} {Q : Exit → Act → World → Prop} {E : Prop} (hgd : o.guard = none) (ty : TypeId) (x : Operand) (ho : o.op = .load ty x)
    (b off : Nat) (hx : a.eval x = .pointer (some ⟨b, off, none⟩)) (cs : List Value) (d : TypeDesc) (hc : w.rangeAt b off cs) (hu : P.underlying ty = some d) (hd : d.isRow = true) (hi : (P.info? ty).map (·.size) = some cs.length)
    (h : K (a.put o.dst (.agg cs.toArray)) w) : if Region.wanted o (yielded ops a.tmps) = true then Oper.wp P o a w K Q else E := by
  rw [if_pos (by simp [Region.wanted, hgd])]
  exact wp_load_mid ty x ho b off hx cs d hc hu hd hi h
theorem at_dst {P : Program} {ops : Array Oper} {Q : Exit → Act → World → Prop} {o : Oper} {l : List Oper} {a : Act} {w : World} (n : Nat) (hl : o.dst = some n) (h : wpList P ops Q (o :: l) a w) : wpList P ops Q (o :: l) a w := h
/-- Whether a parsed event is another one, whatever that has. -/
def sameB (e x : Shl.Ev) (at_ ep : Int) (ne nt : Nat) : Bool := decide (e = x ∧ at_ = 0 ∧ ep = 0 ∧ ne = 0 ∧ nt = 0)
theorem ev_eq {e x : Shl.Ev} (h0 : e.kind = x.kind) (h1 : e.a = x.a) (h2 : e.b = x.b) (h3 : e.ck = x.ck) (h4 : e.subj = x.subj) (h5 : e.text = x.text) (h6 : e.n = x.n) : e = x := by
  cases e; cases x; simp_all
theorem same_any (e x : Shl.Ev) (at_ ep : Int) (ae at2 : Option Addr) (ne ce nt ct : Nat) (w : World) (hne : ne ≤ 9223372036854775807) (hnt : nt ≤ 9223372036854775807) :
    Calls Tryz.prog 19 #[.agg (evX e 0 0 (.slice none 0 0) (.slice none 0 0)).toArray, .agg (evX x at_ ep (.slice ae ne ce) (.slice at2 nt ct)).toArray] w fun en w' => en = .returned (.bool (sameB e x at_ ep ne nt)) ∧ Below w.heap.size w w' := by
  have hs0 : (0 : Int) + (ne : Int) = (ne : Int) := Int.zero_add _
  have hs1 : (0 : Int) + (nt : Int) = (nt : Int) := Int.zero_add _
  obtain ⟨se, hse⟩ : ∃ se, Value.slice ae ne ce = se := ⟨_, rfl⟩
  have HSE := Lib.hid hse
  go_enter Tryz.func19, Tryz.ntmps19
  go_upto_region 1 with fail
  obtain ⟨W, hW⟩ : ∃ W, (w.alloc (.cells (evX e 0 0 (.slice none 0 0) (.slice none 0 0)).toArray 28)).alloc (.cells (evX x at_ ep se (.slice at2 nt ct)).toArray 28) = W := ⟨_, rfl⟩
  have RA : Hid (Row W w.heap.size 28 (evX e 0 0 (.slice none 0 0) (.slice none 0 0))) := by rw [← hW]; exact (Row.new w _ _).alloc _
  have RB : Hid (Row W (w.heap.size + 1) 28 (evX x at_ ep se (.slice at2 nt ct))) := by show Row _ _ _ _; rw [← hW]; have := Row.new (w.alloc (.cells (evX e 0 0 (.slice none 0 0) (.slice none 0 0)).toArray 28)) 28 (evX x at_ ep se (.slice at2 nt ct)); simpa using this
  have BW : Hid (Below w.heap.size w W) := by rw [← hW]; exact balloc (balloc (Below.refl _ _) _) _
  have hsw : w.heap.size + 1 < W.heap.size := by rw [← hW]; simp
  rw [hW]
  clear hW hse
  refine wp_region_held_drew (S := fun w' => Below W.heap.size W w') (by kernel_rfl) (by exact (Below.refl _ _).drew) (fun hHeld => ?_)
  refine wpAnyH_take (i := 0) (v := ?_) (by simp only [List.getElem?_toArray, List.getElem?_cons_zero, List.getElem?_cons_succ] <;> rfl) (by kernel_rfl) (by kernel_rfl) (by kernel_rfl) (by intro _ _ _ h; exact h) (Or.inl ⟨by rfl, ?_⟩) (by assumption) ?_
  rotate_left
  · intro w _; go_simp; try with_reducible rfl
  try simp only [Act.put, List.setIfInBounds_toArray, List.set_cons_zero, List.set_cons_succ, Array.replicate]
  refine wpAnyH_take (i := 2) (v := ?_) (by simp only [List.getElem?_toArray, List.getElem?_cons_zero, List.getElem?_cons_succ] <;> rfl) (by kernel_rfl) (by kernel_rfl) (by kernel_rfl) (by intro _ _ _ h; exact h) (Or.inl ⟨by rfl, ?_⟩) (by assumption) ?_
  rotate_left
  · intro w _; go_simp; try with_reducible rfl
  try simp only [Act.put, List.setIfInBounds_toArray, List.set_cons_zero, List.set_cons_succ, Array.replicate]
  refine wpAnyH_take (i := 1) (v := _) (by simp only [List.getElem?_toArray, List.getElem?_cons_zero, List.getElem?_cons_succ] <;> rfl) (by kernel_rfl) (by kernel_rfl) (by kernel_rfl) (by intro _ _ _ h; exact h) (yieldsIf_load_mid (by with_unfolding_all rfl) 25 (.tmp 7) rfl w.heap.size 3 rfl (cmdX e 0 0 (.slice none 0 0)) _ (fun w' hS => mid3 (RA.out.keep hS)) Tryz.underlying25 rfl (cmdSz _ _ _ _)) (by assumption) ?_
  try simp only [Act.put, List.setIfInBounds_toArray, List.set_cons_zero, List.set_cons_succ, Array.replicate]
  refine wpAnyH_take (i := 3) (v := _) (by simp only [List.getElem?_toArray, List.getElem?_cons_zero, List.getElem?_cons_succ] <;> rfl) (by kernel_rfl) (by kernel_rfl) (by kernel_rfl) (by intro _ _ _ h; exact h) (yieldsIf_load_mid (by with_unfolding_all rfl) 25 (.tmp 9) rfl (w.heap.size + 1) 3 rfl (cmdX x at_ ep se) _ (fun w' hS => mid3 (RB.out.keep hS)) Tryz.underlying25 rfl (cmdSz _ _ _ _)) (by assumption) ?_
  try simp only [Act.put, List.setIfInBounds_toArray, List.set_cons_zero, List.set_cons_succ, Array.replicate]
  refine wpAnyH_ready (rs := [4, 5]) (by kernel_rfl) (by simp) ?_
  refine AllReadyH.cons (by simp only [List.getElem?_toArray, List.getElem?_cons_zero, List.getElem?_cons_succ] <;> rfl) (fun K hK => ?_) ?_
  · go_simp
    refine hK.out _ _ (by exact balloc hHeld _) (fun hHeld => ?_)
    clear hK K
    try simp only [Act.put, List.setIfInBounds_toArray, List.set_cons_zero, List.set_cons_succ, Array.replicate]
    refine wpAnyH_ready (rs := [5]) (by kernel_rfl) (by simp) ?_
    refine AllReadyH.cons (by simp only [List.getElem?_toArray, List.getElem?_cons_zero, List.getElem?_cons_succ] <;> rfl) (fun K hK => ?_) ?_
    · go_simp
      refine hK.out _ _ (by exact balloc hHeld _) (fun hHeld => ?_)
      clear hK K
      try simp only [Act.put, List.setIfInBounds_toArray, List.set_cons_zero, List.set_cons_succ, Array.replicate]
      obtain ⟨V, hV⟩ : ∃ V, ((W.alloc (.cells #[.int .i64 0, .string ⟨#[]⟩, .string ⟨#[]⟩, .int .i64 0, .int .i64 0, .int .u64 0, .slice none 0 0] 25)).alloc (.cells #[.int .i64 0, .string ⟨#[]⟩, .string ⟨#[]⟩, .int .i64 0, .int .i64 0, .int .u64 0, .slice none 0 0] 25)).drew = V := ⟨_, rfl⟩
      have ZX : Hid (Row V W.heap.size 25 zcmd) := by show Row _ _ _ _; rw [← hV]; exact row_first W 25 zcmd
      have ZY : Hid (Row V (W.heap.size + 1) 25 zcmd) := by show Row _ _ _ _; rw [← hV]; exact row_second W 25 zcmd
      have hVs : W.heap.size + 1 < V.heap.size := by rw [← hV]; simp
      rw [hV] at hHeld ⊢
      clear hV
      have BV := Lib.hid (show Below W.heap.size W V from hHeld)
      refine wpAnyH_ready (rs := [6]) (by kernel_rfl) (by simp) ?_
      refine AllReadyH.cons (by simp only [List.getElem?_toArray, List.getElem?_cons_zero, List.getElem?_cons_succ] <;> rfl) (fun K hK => ?_) ?_
      · refine step_store_box rfl 25 (.tmp 5) (.tmp 8) (by rfl) W.heap.size (by rfl) (cmdX e 0 0 (.slice none 0 0)) (by rfl) 25 zcmd ZX.out rfl (cmdSz _ _ _ _) (cmdOne _ _ _ (by rfl)) ?_; intro w6 hr6 hu6; have X6 := Lib.hid hr6; have Y6 := Lib.hid (hu6.row ZY.out (by omega)); have U6 := Lib.hid hu6; have B6 := Lib.hid (Upd.below' BV.out hu6 (by omega) (by omega)); have hs6 : V.heap.size ≤ w6.heap.size := hu6.size; clear hr6 hu6
        refine hK.out _ _ (by exact B6.out) (fun hHeld => ?_)
        clear hK K
        try simp only [Act.put, List.setIfInBounds_toArray, List.set_cons_zero, List.set_cons_succ, Array.replicate]
        refine wpAnyH_ready (rs := [7]) (by kernel_rfl) (by simp) ?_
        refine AllReadyH.cons (by simp only [List.getElem?_toArray, List.getElem?_cons_zero, List.getElem?_cons_succ] <;> rfl) (fun K hK => ?_) ?_
        · refine step_store_box rfl 25 (.tmp 6) (.tmp 10) (by rfl) (W.heap.size + 1) (by rfl) (cmdX x at_ ep se) (by rfl) 25 zcmd Y6.out rfl (cmdSz _ _ _ _) (cmdOne _ _ _ (by rw [← HSE.out]; rfl)) ?_; intro w7 hr7 hu7; have Y7 := Lib.hid hr7; have X7 := Lib.hid (hu7.row X6.out (by omega)); have B7 := Lib.hid (Upd.below' B6.out hu7 (by omega) (by omega)); clear hr7 hu7
          refine hK.out _ _ (by exact B7.out) (fun hHeld => ?_)
          clear hK K
          try simp only [Act.put, List.setIfInBounds_toArray, List.set_cons_zero, List.set_cons_succ, Array.replicate]
          refine wpAnyH_done (by kernel_rfl) ?_ _
          have RA7 := Lib.hid (RA.out.keep B7.out)
          have RB7 := Lib.hid (RB.out.keep B7.out)
          have BE := Lib.hid (BW.out.trans (B7.out.mono BW.out.size))
          have x0 := X7.out.cell 0
          have x1 := X7.out.cell 1
          have x2 := X7.out.cell 2
          have x3 := X7.out.cell 3
          have x4 := X7.out.cell 4
          have x5 := X7.out.cell 5
          have x6 := X7.out.cell 6
          have y0 := Y7.out.cell 0
          have y1 := Y7.out.cell 1
          have y2 := Y7.out.cell 2
          have y3 := Y7.out.cell 3
          have y4 := Y7.out.cell 4
          have y5 := Y7.out.cell 5
          have y6 := Y7.out.cell 6
          have a0 := RA7.out.cell 0
          have a1 := RA7.out.cell 1
          have a2 := RA7.out.cell 2
          have a10 := RA7.out.cell 10
          have b0 := RB7.out.cell 0
          have b1 := RB7.out.cell 1
          have b2 := RB7.out.cell 2
          have b10 := RB7.out.cell 10
          simp only [cmdX, evX, List.getElem?_cons_zero, List.getElem?_cons_succ, List.cons_append, List.nil_append] at x0 x1 x2 x3 x4 x5 x6 y0 y1 y2 y3 y4 y5 y6 a0 a1 a2 a10 b0 b1 b2 b10
          rw [← HSE.out] at y6
          clear hHeld X6 Y6 ZX ZY B6 BV U6
          have F0 : Hid ((e.kind == x.kind) = false → sameB e x at_ ep ne nt = false) := fun q => decide_eq_false (fun h => (beq_eq_false_iff_ne.1 q) (by rw [h.1]))
          have T0 : Hid ((e.kind == x.kind) = true → e.kind = x.kind) := fun q => eq_of_beq q
          obtain ⟨bb0, h0⟩ : ∃ b, (e.kind == x.kind) = b := ⟨_, rfl⟩
          have F1 : Hid ((e.a == x.a) = false → sameB e x at_ ep ne nt = false) := fun q => decide_eq_false (fun h => (beq_eq_false_iff_ne.1 q) (by rw [h.1]))
          have T1 : Hid ((e.a == x.a) = true → e.a = x.a) := fun q => eq_of_beq q
          obtain ⟨bb1, h1⟩ : ∃ b, (e.a == x.a) = b := ⟨_, rfl⟩
          have F2 : Hid ((e.b == x.b) = false → sameB e x at_ ep ne nt = false) := fun q => decide_eq_false (fun h => (beq_eq_false_iff_ne.1 q) (by rw [h.1]))
          have T2 : Hid ((e.b == x.b) = true → e.b = x.b) := fun q => eq_of_beq q
          obtain ⟨bb2, h2⟩ : ∃ b, (e.b == x.b) = b := ⟨_, rfl⟩
          have F3 : Hid (((nt : Int) == 0) = false → sameB e x at_ ep ne nt = false) := fun q => decide_eq_false (fun h => (fun hh => (beq_eq_false_iff_ne.1 q) (by omega)) (h.2.2.2.2))
          have T3 : Hid (((nt : Int) == 0) = true → nt = 0) := fun q => by have h := eq_of_beq q; omega
          obtain ⟨bb3, h3⟩ : ∃ b, ((nt : Int) == 0) = b := ⟨_, rfl⟩
          have g3 : (nt == 0) = bb3 := by rw [← h3, Bool.eq_iff_iff, beq_iff_eq, beq_iff_eq]; omega
          have F4 : Hid ((e.ck == x.ck) = false → sameB e x at_ ep ne nt = false) := fun q => decide_eq_false (fun h => (beq_eq_false_iff_ne.1 q) (by rw [h.1]))
          have T4 : Hid ((e.ck == x.ck) = true → e.ck = x.ck) := fun q => eq_of_beq q
          obtain ⟨bb4, h4⟩ : ∃ b, (e.ck == x.ck) = b := ⟨_, rfl⟩
          have F5 : Hid (((bs e.subj).toList == (bs x.subj).toList) = false → sameB e x at_ ep ne nt = false) := fun q => decide_eq_false (fun h => (fun hh => (beq_eq_false_iff_ne.1 q) (by rw [toL, toL]; exact hh)) (by rw [h.1]))
          have T5 : Hid (((bs e.subj).toList == (bs x.subj).toList) = true → e.subj = x.subj) := fun q => by have h := eq_of_beq q; rw [toL, toL] at h; exact h
          obtain ⟨bb5, h5⟩ : ∃ b, ((bs e.subj).toList == (bs x.subj).toList) = b := ⟨_, rfl⟩
          have F6 : Hid (((bs e.text).toList == (bs x.text).toList) = false → sameB e x at_ ep ne nt = false) := fun q => decide_eq_false (fun h => (fun hh => (beq_eq_false_iff_ne.1 q) (by rw [toL, toL]; exact hh)) (by rw [h.1]))
          have T6 : Hid (((bs e.text).toList == (bs x.text).toList) = true → e.text = x.text) := fun q => by have h := eq_of_beq q; rw [toL, toL] at h; exact h
          obtain ⟨bb6, h6⟩ : ∃ b, ((bs e.text).toList == (bs x.text).toList) = b := ⟨_, rfl⟩
          have F7 : Hid ((e.n == x.n) = false → sameB e x at_ ep ne nt = false) := fun q => decide_eq_false (fun h => (beq_eq_false_iff_ne.1 q) (by rw [h.1]))
          have T7 : Hid ((e.n == x.n) = true → e.n = x.n) := fun q => eq_of_beq q
          obtain ⟨bb7, h7⟩ : ∃ b, (e.n == x.n) = b := ⟨_, rfl⟩
          have F8 : Hid (((0 : Int) == at_) = false → sameB e x at_ ep ne nt = false) := fun q => decide_eq_false (fun h => (beq_eq_false_iff_ne.1 q) (h.2.1.symm))
          have T8 : Hid (((0 : Int) == at_) = true → (0 : Int) = at_) := fun q => eq_of_beq q
          obtain ⟨bb8, h8⟩ : ∃ b, ((0 : Int) == at_) = b := ⟨_, rfl⟩
          have F9 : Hid (((0 : Int) == ep) = false → sameB e x at_ ep ne nt = false) := fun q => decide_eq_false (fun h => (beq_eq_false_iff_ne.1 q) (h.2.2.1.symm))
          have T9 : Hid (((0 : Int) == ep) = true → (0 : Int) = ep) := fun q => eq_of_beq q
          obtain ⟨bb9, h9⟩ : ∃ b, ((0 : Int) == ep) = b := ⟨_, rfl⟩
          have F10 : Hid (((ne : Int) == 0) = false → sameB e x at_ ep ne nt = false) := fun q => decide_eq_false (fun h => (fun hh => (beq_eq_false_iff_ne.1 q) (by omega)) (h.2.2.2.1))
          have T10 : Hid (((ne : Int) == 0) = true → ne = 0) := fun q => by have h := eq_of_beq q; omega
          obtain ⟨bb10, h10⟩ : ∃ b, ((ne : Int) == 0) = b := ⟨_, rfl⟩
          have g10 : (ne == 0) = bb10 := by rw [← h10, Bool.eq_iff_iff, beq_iff_eq, beq_iff_eq]; omega
          go_upto_region 2 with fail
          refine wp_region_lit ?_
          simp only [List.append_eq, List.cons_append, List.nil_append]
          go_wp2_with (first
            | (with_reducible refine at_dst 17 rfl ?_; cases bb0; (refine wpList_dead1 92 16 4 (by kernel_rfl) (by kernel_rfl) (by kernel_rfl) ?_; intro a' hd hf; refine dead_ret (by assumption) rfl hd hf ?_; exact ⟨by rw [F0.out h0], BE.out⟩))
            | (with_reducible refine at_dst 24 rfl ?_; cases bb1; (refine wpList_dead1 92 23 4 (by kernel_rfl) (by kernel_rfl) (by kernel_rfl) ?_; intro a' hd hf; refine dead_ret (by assumption) rfl hd hf ?_; exact ⟨by rw [F1.out h1], BE.out⟩))
            | (with_reducible refine at_dst 31 rfl ?_; cases bb2; (refine wpList_dead1 92 30 4 (by kernel_rfl) (by kernel_rfl) (by kernel_rfl) ?_; intro a' hd hf; refine dead_ret (by assumption) rfl hd hf ?_; exact ⟨by rw [F2.out h2], BE.out⟩))
            | (with_reducible refine at_dst 41 rfl ?_; cases bb3; (refine wpList_dead1 92 40 4 (by kernel_rfl) (by kernel_rfl) (by kernel_rfl) ?_; intro a' hd hf; refine dead_ret (by assumption) rfl hd hf ?_; exact ⟨by rw [F3.out h3], BE.out⟩))
            | (with_reducible refine at_dst 48 rfl ?_; cases bb4; (refine wpList_dead1 92 47 4 (by kernel_rfl) (by kernel_rfl) (by kernel_rfl) ?_; intro a' hd hf; refine dead_ret (by assumption) rfl hd hf ?_; exact ⟨by rw [F4.out h4], BE.out⟩))
            | (with_reducible refine at_dst 55 rfl ?_; cases bb5; (refine wpList_dead1 92 54 4 (by kernel_rfl) (by kernel_rfl) (by kernel_rfl) ?_; intro a' hd hf; refine dead_ret (by assumption) rfl hd hf ?_; exact ⟨by rw [F5.out h5], BE.out⟩))
            | (with_reducible refine at_dst 62 rfl ?_; cases bb6; (refine wpList_dead1 92 61 4 (by kernel_rfl) (by kernel_rfl) (by kernel_rfl) ?_; intro a' hd hf; refine dead_ret (by assumption) rfl hd hf ?_; exact ⟨by rw [F6.out h6], BE.out⟩))
            | (with_reducible refine at_dst 69 rfl ?_; cases bb7; (refine wpList_dead1 92 68 4 (by kernel_rfl) (by kernel_rfl) (by kernel_rfl) ?_; intro a' hd hf; refine dead_ret (by assumption) rfl hd hf ?_; exact ⟨by rw [F7.out h7], BE.out⟩))
            | (with_reducible refine at_dst 76 rfl ?_; cases bb8; (refine wpList_dead1 92 75 4 (by kernel_rfl) (by kernel_rfl) (by kernel_rfl) ?_; intro a' hd hf; refine dead_ret (by assumption) rfl hd hf ?_; exact ⟨by rw [F8.out h8], BE.out⟩))
            | (with_reducible refine at_dst 83 rfl ?_; cases bb9; (refine wpList_dead1 92 82 4 (by kernel_rfl) (by kernel_rfl) (by kernel_rfl) ?_; intro a' hd hf; refine dead_ret (by assumption) rfl hd hf ?_; exact ⟨by rw [F9.out h9], BE.out⟩)))
          cases bb10
          · go_ret
            exact ⟨by rw [F10.out h10]; rfl, BE.out⟩
          have HS : Hid (sameB e x at_ ep ne nt = true) := decide_eq_true ⟨ev_eq (T0.out h0) (T1.out h1) (T2.out h2) (T4.out h4) (T5.out h5) (T6.out h6) (T7.out h7), (T8.out h8).symm, (T9.out h9).symm, T10.out h10, T3.out h3⟩
          go_ret
          exact ⟨by rw [HS.out]; rfl, BE.out⟩
        exact AllReadyH.nil
      exact AllReadyH.nil
    exact AllReadyH.nil
  refine AllReadyH.cons (by simp only [List.getElem?_toArray, List.getElem?_cons_zero, List.getElem?_cons_succ] <;> rfl) (fun K hK => ?_) ?_
  · go_simp
    refine hK.out _ _ (by exact balloc hHeld _) (fun hHeld => ?_)
    clear hK K
    try simp only [Act.put, List.setIfInBounds_toArray, List.set_cons_zero, List.set_cons_succ, Array.replicate]
    refine wpAnyH_ready (rs := [4]) (by kernel_rfl) (by simp) ?_
    refine AllReadyH.cons (by simp only [List.getElem?_toArray, List.getElem?_cons_zero, List.getElem?_cons_succ] <;> rfl) (fun K hK => ?_) ?_
    · go_simp
      refine hK.out _ _ (by exact balloc hHeld _) (fun hHeld => ?_)
      clear hK K
      try simp only [Act.put, List.setIfInBounds_toArray, List.set_cons_zero, List.set_cons_succ, Array.replicate]
      obtain ⟨V, hV⟩ : ∃ V, ((W.alloc (.cells #[.int .i64 0, .string ⟨#[]⟩, .string ⟨#[]⟩, .int .i64 0, .int .i64 0, .int .u64 0, .slice none 0 0] 25)).alloc (.cells #[.int .i64 0, .string ⟨#[]⟩, .string ⟨#[]⟩, .int .i64 0, .int .i64 0, .int .u64 0, .slice none 0 0] 25)).drew = V := ⟨_, rfl⟩
      have ZX : Hid (Row V (W.heap.size + 1) 25 zcmd) := by show Row _ _ _ _; rw [← hV]; exact row_second W 25 zcmd
      have ZY : Hid (Row V W.heap.size 25 zcmd) := by show Row _ _ _ _; rw [← hV]; exact row_first W 25 zcmd
      have hVs : W.heap.size + 1 < V.heap.size := by rw [← hV]; simp
      rw [hV] at hHeld ⊢
      clear hV
      have BV := Lib.hid (show Below W.heap.size W V from hHeld)
      refine wpAnyH_ready (rs := [6]) (by kernel_rfl) (by simp) ?_
      refine AllReadyH.cons (by simp only [List.getElem?_toArray, List.getElem?_cons_zero, List.getElem?_cons_succ] <;> rfl) (fun K hK => ?_) ?_
      · refine step_store_box rfl 25 (.tmp 5) (.tmp 8) (by rfl) (W.heap.size + 1) (by rfl) (cmdX e 0 0 (.slice none 0 0)) (by rfl) 25 zcmd ZX.out rfl (cmdSz _ _ _ _) (cmdOne _ _ _ (by rfl)) ?_; intro w6 hr6 hu6; have X6 := Lib.hid hr6; have Y6 := Lib.hid (hu6.row ZY.out (by omega)); have U6 := Lib.hid hu6; have B6 := Lib.hid (Upd.below' BV.out hu6 (by omega) (by omega)); have hs6 : V.heap.size ≤ w6.heap.size := hu6.size; clear hr6 hu6
        refine hK.out _ _ (by exact B6.out) (fun hHeld => ?_)
        clear hK K
        try simp only [Act.put, List.setIfInBounds_toArray, List.set_cons_zero, List.set_cons_succ, Array.replicate]
        refine wpAnyH_ready (rs := [7]) (by kernel_rfl) (by simp) ?_
        refine AllReadyH.cons (by simp only [List.getElem?_toArray, List.getElem?_cons_zero, List.getElem?_cons_succ] <;> rfl) (fun K hK => ?_) ?_
        · refine step_store_box rfl 25 (.tmp 6) (.tmp 10) (by rfl) W.heap.size (by rfl) (cmdX x at_ ep se) (by rfl) 25 zcmd Y6.out rfl (cmdSz _ _ _ _) (cmdOne _ _ _ (by rw [← HSE.out]; rfl)) ?_; intro w7 hr7 hu7; have Y7 := Lib.hid hr7; have X7 := Lib.hid (hu7.row X6.out (by omega)); have B7 := Lib.hid (Upd.below' B6.out hu7 (by omega) (by omega)); clear hr7 hu7
          refine hK.out _ _ (by exact B7.out) (fun hHeld => ?_)
          clear hK K
          try simp only [Act.put, List.setIfInBounds_toArray, List.set_cons_zero, List.set_cons_succ, Array.replicate]
          refine wpAnyH_done (by kernel_rfl) ?_ _
          have RA7 := Lib.hid (RA.out.keep B7.out)
          have RB7 := Lib.hid (RB.out.keep B7.out)
          have BE := Lib.hid (BW.out.trans (B7.out.mono BW.out.size))
          have x0 := X7.out.cell 0
          have x1 := X7.out.cell 1
          have x2 := X7.out.cell 2
          have x3 := X7.out.cell 3
          have x4 := X7.out.cell 4
          have x5 := X7.out.cell 5
          have x6 := X7.out.cell 6
          have y0 := Y7.out.cell 0
          have y1 := Y7.out.cell 1
          have y2 := Y7.out.cell 2
          have y3 := Y7.out.cell 3
          have y4 := Y7.out.cell 4
          have y5 := Y7.out.cell 5
          have y6 := Y7.out.cell 6
          have a0 := RA7.out.cell 0
          have a1 := RA7.out.cell 1
          have a2 := RA7.out.cell 2
          have a10 := RA7.out.cell 10
          have b0 := RB7.out.cell 0
          have b1 := RB7.out.cell 1
          have b2 := RB7.out.cell 2
          have b10 := RB7.out.cell 10
          simp only [cmdX, evX, List.getElem?_cons_zero, List.getElem?_cons_succ, List.cons_append, List.nil_append] at x0 x1 x2 x3 x4 x5 x6 y0 y1 y2 y3 y4 y5 y6 a0 a1 a2 a10 b0 b1 b2 b10
          rw [← HSE.out] at y6
          clear hHeld X6 Y6 ZX ZY B6 BV U6
          have F0 : Hid ((e.kind == x.kind) = false → sameB e x at_ ep ne nt = false) := fun q => decide_eq_false (fun h => (beq_eq_false_iff_ne.1 q) (by rw [h.1]))
          have T0 : Hid ((e.kind == x.kind) = true → e.kind = x.kind) := fun q => eq_of_beq q
          obtain ⟨bb0, h0⟩ : ∃ b, (e.kind == x.kind) = b := ⟨_, rfl⟩
          have F1 : Hid ((e.a == x.a) = false → sameB e x at_ ep ne nt = false) := fun q => decide_eq_false (fun h => (beq_eq_false_iff_ne.1 q) (by rw [h.1]))
          have T1 : Hid ((e.a == x.a) = true → e.a = x.a) := fun q => eq_of_beq q
          obtain ⟨bb1, h1⟩ : ∃ b, (e.a == x.a) = b := ⟨_, rfl⟩
          have F2 : Hid ((e.b == x.b) = false → sameB e x at_ ep ne nt = false) := fun q => decide_eq_false (fun h => (beq_eq_false_iff_ne.1 q) (by rw [h.1]))
          have T2 : Hid ((e.b == x.b) = true → e.b = x.b) := fun q => eq_of_beq q
          obtain ⟨bb2, h2⟩ : ∃ b, (e.b == x.b) = b := ⟨_, rfl⟩
          have F3 : Hid (((nt : Int) == 0) = false → sameB e x at_ ep ne nt = false) := fun q => decide_eq_false (fun h => (fun hh => (beq_eq_false_iff_ne.1 q) (by omega)) (h.2.2.2.2))
          have T3 : Hid (((nt : Int) == 0) = true → nt = 0) := fun q => by have h := eq_of_beq q; omega
          obtain ⟨bb3, h3⟩ : ∃ b, ((nt : Int) == 0) = b := ⟨_, rfl⟩
          have g3 : (nt == 0) = bb3 := by rw [← h3, Bool.eq_iff_iff, beq_iff_eq, beq_iff_eq]; omega
          have F4 : Hid ((e.ck == x.ck) = false → sameB e x at_ ep ne nt = false) := fun q => decide_eq_false (fun h => (beq_eq_false_iff_ne.1 q) (by rw [h.1]))
          have T4 : Hid ((e.ck == x.ck) = true → e.ck = x.ck) := fun q => eq_of_beq q
          obtain ⟨bb4, h4⟩ : ∃ b, (e.ck == x.ck) = b := ⟨_, rfl⟩
          have F5 : Hid (((bs e.subj).toList == (bs x.subj).toList) = false → sameB e x at_ ep ne nt = false) := fun q => decide_eq_false (fun h => (fun hh => (beq_eq_false_iff_ne.1 q) (by rw [toL, toL]; exact hh)) (by rw [h.1]))
          have T5 : Hid (((bs e.subj).toList == (bs x.subj).toList) = true → e.subj = x.subj) := fun q => by have h := eq_of_beq q; rw [toL, toL] at h; exact h
          obtain ⟨bb5, h5⟩ : ∃ b, ((bs e.subj).toList == (bs x.subj).toList) = b := ⟨_, rfl⟩
          have F6 : Hid (((bs e.text).toList == (bs x.text).toList) = false → sameB e x at_ ep ne nt = false) := fun q => decide_eq_false (fun h => (fun hh => (beq_eq_false_iff_ne.1 q) (by rw [toL, toL]; exact hh)) (by rw [h.1]))
          have T6 : Hid (((bs e.text).toList == (bs x.text).toList) = true → e.text = x.text) := fun q => by have h := eq_of_beq q; rw [toL, toL] at h; exact h
          obtain ⟨bb6, h6⟩ : ∃ b, ((bs e.text).toList == (bs x.text).toList) = b := ⟨_, rfl⟩
          have F7 : Hid ((e.n == x.n) = false → sameB e x at_ ep ne nt = false) := fun q => decide_eq_false (fun h => (beq_eq_false_iff_ne.1 q) (by rw [h.1]))
          have T7 : Hid ((e.n == x.n) = true → e.n = x.n) := fun q => eq_of_beq q
          obtain ⟨bb7, h7⟩ : ∃ b, (e.n == x.n) = b := ⟨_, rfl⟩
          have F8 : Hid (((0 : Int) == at_) = false → sameB e x at_ ep ne nt = false) := fun q => decide_eq_false (fun h => (beq_eq_false_iff_ne.1 q) (h.2.1.symm))
          have T8 : Hid (((0 : Int) == at_) = true → (0 : Int) = at_) := fun q => eq_of_beq q
          obtain ⟨bb8, h8⟩ : ∃ b, ((0 : Int) == at_) = b := ⟨_, rfl⟩
          have F9 : Hid (((0 : Int) == ep) = false → sameB e x at_ ep ne nt = false) := fun q => decide_eq_false (fun h => (beq_eq_false_iff_ne.1 q) (h.2.2.1.symm))
          have T9 : Hid (((0 : Int) == ep) = true → (0 : Int) = ep) := fun q => eq_of_beq q
          obtain ⟨bb9, h9⟩ : ∃ b, ((0 : Int) == ep) = b := ⟨_, rfl⟩
          have F10 : Hid (((ne : Int) == 0) = false → sameB e x at_ ep ne nt = false) := fun q => decide_eq_false (fun h => (fun hh => (beq_eq_false_iff_ne.1 q) (by omega)) (h.2.2.2.1))
          have T10 : Hid (((ne : Int) == 0) = true → ne = 0) := fun q => by have h := eq_of_beq q; omega
          obtain ⟨bb10, h10⟩ : ∃ b, ((ne : Int) == 0) = b := ⟨_, rfl⟩
          have g10 : (ne == 0) = bb10 := by rw [← h10, Bool.eq_iff_iff, beq_iff_eq, beq_iff_eq]; omega
          go_upto_region 2 with fail
          refine wp_region_lit ?_
          simp only [List.append_eq, List.cons_append, List.nil_append]
          go_wp2_with (first
            | (with_reducible refine at_dst 17 rfl ?_; cases bb0; (refine wpList_dead1 92 16 4 (by kernel_rfl) (by kernel_rfl) (by kernel_rfl) ?_; intro a' hd hf; refine dead_ret (by assumption) rfl hd hf ?_; exact ⟨by rw [F0.out h0], BE.out⟩))
            | (with_reducible refine at_dst 24 rfl ?_; cases bb1; (refine wpList_dead1 92 23 4 (by kernel_rfl) (by kernel_rfl) (by kernel_rfl) ?_; intro a' hd hf; refine dead_ret (by assumption) rfl hd hf ?_; exact ⟨by rw [F1.out h1], BE.out⟩))
            | (with_reducible refine at_dst 31 rfl ?_; cases bb2; (refine wpList_dead1 92 30 4 (by kernel_rfl) (by kernel_rfl) (by kernel_rfl) ?_; intro a' hd hf; refine dead_ret (by assumption) rfl hd hf ?_; exact ⟨by rw [F2.out h2], BE.out⟩))
            | (with_reducible refine at_dst 41 rfl ?_; cases bb3; (refine wpList_dead1 92 40 4 (by kernel_rfl) (by kernel_rfl) (by kernel_rfl) ?_; intro a' hd hf; refine dead_ret (by assumption) rfl hd hf ?_; exact ⟨by rw [F3.out h3], BE.out⟩))
            | (with_reducible refine at_dst 48 rfl ?_; cases bb4; (refine wpList_dead1 92 47 4 (by kernel_rfl) (by kernel_rfl) (by kernel_rfl) ?_; intro a' hd hf; refine dead_ret (by assumption) rfl hd hf ?_; exact ⟨by rw [F4.out h4], BE.out⟩))
            | (with_reducible refine at_dst 55 rfl ?_; cases bb5; (refine wpList_dead1 92 54 4 (by kernel_rfl) (by kernel_rfl) (by kernel_rfl) ?_; intro a' hd hf; refine dead_ret (by assumption) rfl hd hf ?_; exact ⟨by rw [F5.out h5], BE.out⟩))
            | (with_reducible refine at_dst 62 rfl ?_; cases bb6; (refine wpList_dead1 92 61 4 (by kernel_rfl) (by kernel_rfl) (by kernel_rfl) ?_; intro a' hd hf; refine dead_ret (by assumption) rfl hd hf ?_; exact ⟨by rw [F6.out h6], BE.out⟩))
            | (with_reducible refine at_dst 69 rfl ?_; cases bb7; (refine wpList_dead1 92 68 4 (by kernel_rfl) (by kernel_rfl) (by kernel_rfl) ?_; intro a' hd hf; refine dead_ret (by assumption) rfl hd hf ?_; exact ⟨by rw [F7.out h7], BE.out⟩))
            | (with_reducible refine at_dst 76 rfl ?_; cases bb8; (refine wpList_dead1 92 75 4 (by kernel_rfl) (by kernel_rfl) (by kernel_rfl) ?_; intro a' hd hf; refine dead_ret (by assumption) rfl hd hf ?_; exact ⟨by rw [F8.out h8], BE.out⟩))
            | (with_reducible refine at_dst 83 rfl ?_; cases bb9; (refine wpList_dead1 92 82 4 (by kernel_rfl) (by kernel_rfl) (by kernel_rfl) ?_; intro a' hd hf; refine dead_ret (by assumption) rfl hd hf ?_; exact ⟨by rw [F9.out h9], BE.out⟩)))
          cases bb10
          · go_ret
            exact ⟨by rw [F10.out h10]; rfl, BE.out⟩
          have HS : Hid (sameB e x at_ ep ne nt = true) := decide_eq_true ⟨ev_eq (T0.out h0) (T1.out h1) (T2.out h2) (T4.out h4) (T5.out h5) (T6.out h6) (T7.out h7), (T8.out h8).symm, (T9.out h9).symm, T10.out h10, T3.out h3⟩
          go_ret
          exact ⟨by rw [HS.out]; rfl, BE.out⟩
        exact AllReadyH.nil
      exact AllReadyH.nil
    exact AllReadyH.nil
  exact AllReadyH.nil

end Go.Proofs.YtojoeaaodomfnaaGreatDoor
