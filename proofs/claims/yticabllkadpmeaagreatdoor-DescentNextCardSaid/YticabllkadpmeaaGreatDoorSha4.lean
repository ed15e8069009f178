/- Package sha: (*Hash).Sum. -/
import Derived.Test.YticabllkadpmeaaGreatDoorSha3
import Derived.Test.YticabllkadpmeaaGreatDoorOrdk
namespace Go.Proofs.YticabllkadpmeaaGreatDoor
set_option linter.unusedVariables false
set_option linter.unusedSimpArgs false
set_option linter.unnecessarySimpa false
open Go.RowKit
set_option maxRecDepth 100000
set_option maxHeartbeats 4000000
set_option pp.deepTerms true

def sumV (l : List UInt8) : Value := .agg (bytes l).toArray
theorem size_sum : (Tryz.prog.info? 36).map (·.size) = some 32 := by kernel_rfl
theorem bytes_one' (l : List UInt8) : (bytes l).toArray.all (·.oneCell') = true := Array.all_eq_true_iff_forall_mem.2 (fun v hv => bytes_one l v (by simpa using hv))
theorem load_sum {w : World} {ops : Array Oper} {rest : List Oper} {o : Oper} {a : Act} {Q : Exit → Act → World → Prop} (hgd : o.guard = none) (x : Operand) (ho : o.op = .load 36 x)
    (g : Nat) (hx : a.eval x = .pointer (some ⟨g, 0, none⟩)) (l : List UInt8) (hl : l.length = 32) {t : TypeId} (hr : Row w g t (bytes l))
    (h : wpList Tryz.prog ops Q rest (a.put o.dst (sumV l)) w) : wpList Tryz.prog ops Q (o :: rest) a w :=
  wpList_load_row hgd 36 x ho g hx _ _ _ _ hr Tryz.underlying36 rfl (by rw [size_sum]; simp [hl]) h
theorem store_sum {w : World} {ops : Array Oper} {rest : List Oper} {o : Oper} {a : Act} {Q : Exit → Act → World → Prop} (hgd : o.guard = none) (x y : Operand) (ho : o.op = .store 36 x y)
    (g : Nat) (hx : a.eval x = .pointer (some ⟨g, 0, none⟩)) (l : List UInt8) (hy : a.eval y = sumV l) (hl : l.length = 32) (t : TypeId) (m : List UInt8) (hr : Row w g t (bytes m)) (hm : m.length = 32)
    (h : wpList Tryz.prog ops Q rest (a.put o.dst undef) (w.setRow g (bytes l).toArray)) : wpList Tryz.prog ops Q (o :: rest) a w :=
  wpList_store_row hgd 36 x y ho g _ hx hy t _ hr (by rw [size_sum]; simp [hl]) (by simp [hl, hm]) (bytes_one' _) h
theorem ret_sum {fn : Func} {p : Tmp} (h : fn.results = #[.cell p 36]) {R : Ending → World → Prop} {a : Act} {w : World} (hd : a.defers = []) (g : Nat) (hp : a.tmps.getD p undef = .pointer (some ⟨g, 0, none⟩)) (t : TypeId) (l : List UInt8) (hr : Row w g t (bytes l)) (hl : l.length = 32)
    (hR : R (.returned (sumV l)) w) : bodyPost Tryz.prog fn R .ret a w :=
  bodyPost_ret (results_cell_row h a.tmps w g t _ _ _ hp hr Tryz.underlying36 rfl (by rw [size_sum]; simp [hl])) hd hR
theorem step_app_bytes {P : Program} {t e : TypeId} (ht : P.underlying t = some (.slice e)) (he : (P.info? e).map (fun i => (i.zero, i.size, i.bytes)) = some (some (.int .u8 0), 1, 1))
    {ops : Array Oper} {o : Oper} {a : Act} {w : World} {K : Act → World → Prop} {Q : Exit → Act → World → Prop} {E : Prop} (hgd : o.guard = none) (s x : Operand)
    (ho : o.op = .call { callee := .builtin .append, args := #[s, x], argTypes := #[t, t] })
    {base : Nat} {v sv : Value} {l m : List UInt8} (hs : a.eval s = v) (hown : Own w base e v l) (hx : a.eval x = sv) (hsh : Sh w sv m) (hlen : l.length + m.length ≤ 140737488355328) (hbase : base ≤ w.heap.size)
    (h : ∀ v' w', Own w' base e v' (l ++ m) → Below base w w' → K (a.put o.dst v') w') : if Region.wanted o (yielded ops a.tmps) = true then Oper.wp P o a w K Q else E := by
  refine step_app_one (l := bytes l) (m := bytes m) ht he rfl hgd s x ho hs (by unfold Own1; simpa [Own] using hown) hx (by simpa [Sh] using hsh) (bytes_one _) (by simpa using hlen) (by simpa using hlen) hbase fun v' w' k1 k2 => h v' w' ?_ k2
  unfold Own1 at k1
  unfold Own
  rw [bytes_append]
  simpa using k1
def Tre0 : List UInt8 := List.replicate 32 0
theorem pre32 (w : World) : ∃ W, (w.alloc (.cells #[.int .u8 0, .int .u8 0, .int .u8 0, .int .u8 0, .int .u8 0, .int .u8 0, .int .u8 0, .int .u8 0, .int .u8 0, .int .u8 0, .int .u8 0, .int .u8 0, .int .u8 0, .int .u8 0, .int .u8 0, .int .u8 0, .int .u8 0, .int .u8 0, .int .u8 0, .int .u8 0, .int .u8 0, .int .u8 0, .int .u8 0, .int .u8 0, .int .u8 0, .int .u8 0, .int .u8 0, .int .u8 0, .int .u8 0, .int .u8 0, .int .u8 0, .int .u8 0] 36)) = W ∧ Hid (Row W w.heap.size 36 (bytes Tre0)) ∧ Hid (Below w.heap.size w W) ∧ Hid (W.heap.size = w.heap.size + 1) :=
  ⟨_, rfl, Row.new w _ (bytes Tre0), balloc (Below.refl _ _) _, show _ = _ by simp⟩
theorem preG (s : Sha.St) (n : Nat) (w : World) : ∃ W, (w.alloc (.cells #[.int .u32 (u s.a), .int .u32 (u s.b), .int .u32 (u s.c), .int .u32 (u s.d), .int .u32 (u s.e), .int .u32 (u s.f), .int .u32 (u s.g), .int .u32 (u s.h), .slice none 0 0, .int .u64 (n : Int)] 93)) = W ∧ Hid (Row W w.heap.size 93 (hashC s (.slice none 0 0) n)) ∧ Hid (Below w.heap.size w W) ∧ Hid (W.heap.size = w.heap.size + 1) :=
  ⟨_, rfl, Row.new w _ (hashC s (.slice none 0 0) n), balloc (Below.refl _ _) _, show _ = _ by simp⟩
theorem Sumh_any (p : Nat) (l : List UInt8) (w : World) (hg : Glob w) (hp : 3 ≤ p) (hh : HashIs w p l) (hsz : l.length ≤ 140737488351232) :
    Calls Tryz.prog 31 #[.pointer (some ⟨p, 0, none⟩)] w fun e w' => e = .returned (sumV (Sha.sum l)) ∧ Below w.heap.size w w' := by
  obtain ⟨left, hr, ho⟩ := hh
  have hrest : Sha.pad l = Sha.pad l := rfl
  obtain ⟨S0, hS0⟩ : ∃ S0, Sha.St.first.takes l (l.length / 64) = S0 := ⟨_, rfl⟩
  obtain ⟨L0, hL0⟩ : ∃ L0, l.drop (64 * (l.length / 64)) = L0 := ⟨_, rfl⟩
  have hL0n : L0.length = l.length % 64 := by rw [← hL0, List.length_drop]; omega
  rw [hS0] at hr
  rw [hL0] at ho
  obtain ⟨xl, cl, rfl, -, -, -, -⟩ := ho.sh.open
  have HS0 := Lib.hid hS0
  have HL0 := Lib.hid hL0
  have HR := Lib.hid hr
  have HSL := Lib.hid ho.sh
  have HG := Lib.hid hg
  have HSZ := Lib.hid hsz
  have HL0N := Lib.hid hL0n
  clear hr ho hS0 hL0 hg hsz hL0n hrest
  go_enter Tryz.func31, Tryz.ntmps31
  go_upto_region 1 with fail
  obtain ⟨W1, hW1, HA, HB1, HZ1⟩ := pre32 w
  rw [hW1]
  clear hW1
  have R1 := Lib.hid (Row.keep HR.out HB1.out)
  have q0 := Row.cell R1.out 0
  have q1 := Row.cell R1.out 1
  have q2 := Row.cell R1.out 2
  have q3 := Row.cell R1.out 3
  have q4 := Row.cell R1.out 4
  have q5 := Row.cell R1.out 5
  have q6 := Row.cell R1.out 6
  have q7 := Row.cell R1.out 7
  have q9 := Row.cell R1.out 9
  simp only [hashC_eq, List.getElem?_cons_succ, List.getElem?_cons_zero] at q0 q1 q2 q3 q4 q5 q6 q7 q9
  go_region
  clear q0 q1 q2 q3 q4 q5 q6 q7 q9
  go_upto_region 2 with fail
  obtain ⟨W2, hW2, G2, HB2, HZ2⟩ := preG S0 l.length W1
  rw [hW2]
  clear hW2
  have hwg : w.heap.size < W1.heap.size := by have := HZ1.out; omega
  have hpg : p < W1.heap.size := by have := R1.out.lt; omega
  have R2 := Lib.hid (Row.keep R1.out HB2.out)
  have A2 := Lib.hid (Row.keep HA.out HB2.out)
  have SL2 := Lib.hid (HSL.out.below (HB1.out.trans (HB2.out.mono (by omega))))
  have HG2 := Lib.hid (Glob.below HG.out (HB1.out.trans (HB2.out.mono (by omega))) HG.out.1)
  have HBW := Lib.hid (HB1.out.trans (HB2.out.mono (by omega)))
  have hz2 := HZ2.out
  clear HB1 HB2 HZ1 HZ2 R1 HA HR HSL HG
  generalize W1.heap.size = g at *
  have R3 := Lib.hid R2.out.drew
  have A3 := Lib.hid A2.out.drew
  have G3 := Lib.hid G2.out.drew
  have SL3 := Lib.hid (SL2.out.drewN 1)
  have HG3 := Lib.hid (Glob.below HG2.out (Below.refl _ _).drew HG2.out.1)
  have HBW3 := Lib.hid HBW.out.drew
  have hz3 : W2.drew.heap.size = g + 1 := hz2
  change Hid (Sh W2.drew _ _) at SL3
  clear R2 A2 G2 SL2 HG2 HBW hz2
  generalize W2.drew = W3 at *
  have HZ3 := Lib.hid hz3
  have hgW : g < W3.heap.size := by omega
  clear hz3
  have c8 := Row.cell G3.out 8
  have d8 := Row.cell R3.out 8
  simp only [hashC_eq, List.getElem?_cons_succ, List.getElem?_cons_zero] at c8 d8
  refine wp_region_L (S := Held2 14 (fun w' => Below W3.heap.size W3 w') 9 (fun _ => True)) (by kernel_rfl) ⟨fun _ => (by exact (Below.refl _ _).drew), fun _ => trivial⟩ (fun hHeld => ?_)
  refine wpAnyL_take (i := 0) (ms := []) (Si := fun _ => True) (v := ?_) (by simp only [List.getElem?_toArray, List.getElem?_cons_zero, List.getElem?_cons_succ] <;> rfl) (by kernel_rfl) (by kernel_rfl) (by kernel_rfl) (by intro _ _ _ h; exact h) trivial (by intro m hm; cases hm) (Held2.set (by decide) (by decide)) (fun _ _ _ _ => trivial) (by intro m hm; cases hm) (Or.inl ⟨by rfl, ?_⟩) (by assumption) ?_
  rotate_left
  · intro w _; go_simp; try with_reducible rfl
  try simp only [Act.put, List.setIfInBounds_toArray, List.set_cons_zero, List.set_cons_succ, Array.replicate]
  refine wpAnyL_take (i := 1) (ms := []) (Si := fun _ => True) (v := ?_) (by simp only [List.getElem?_toArray, List.getElem?_cons_zero, List.getElem?_cons_succ] <;> rfl) (by kernel_rfl) (by kernel_rfl) (by kernel_rfl) (by intro _ _ _ h; exact h) trivial (by intro m hm; cases hm) (Held2.set (by decide) (by decide)) (fun _ _ _ _ => trivial) (by intro m hm; cases hm) (Or.inl ⟨by rfl, ?_⟩) (by assumption) ?_
  rotate_left
  · intro w _; go_simp; try with_reducible rfl
  try simp only [Act.put, List.setIfInBounds_toArray, List.set_cons_zero, List.set_cons_succ, Array.replicate]
  refine wpAnyL_take (i := 2) (ms := []) (Si := fun _ => True) (v := ?_) (by simp only [List.getElem?_toArray, List.getElem?_cons_zero, List.getElem?_cons_succ] <;> rfl) (by kernel_rfl) (by kernel_rfl) (by kernel_rfl) (by intro _ _ _ h; exact h) trivial (by intro m hm; cases hm) (Held2.set (by decide) (by decide)) (fun _ _ _ _ => trivial) (by intro m hm; cases hm) (Or.inl ⟨by rfl, ?_⟩) (by assumption) ?_
  rotate_left
  · intro w _; go_simp; try with_reducible rfl
  try simp only [Act.put, List.setIfInBounds_toArray, List.set_cons_zero, List.set_cons_succ, Array.replicate]
  refine wpAnyL_take (i := 3) (ms := []) (Si := fun _ => True) (v := ?_) (by simp only [List.getElem?_toArray, List.getElem?_cons_zero, List.getElem?_cons_succ] <;> rfl) (by kernel_rfl) (by kernel_rfl) (by kernel_rfl) (by intro _ _ _ h; exact h) trivial (by intro m hm; cases hm) (Held2.set (by decide) (by decide)) (fun _ _ _ _ => trivial) (by intro m hm; cases hm) (Or.inl ⟨by rfl, ?_⟩) (by assumption) ?_
  rotate_left
  · intro w _; go_simp; try with_reducible rfl
  try simp only [Act.put, List.setIfInBounds_toArray, List.set_cons_zero, List.set_cons_succ, Array.replicate]
  refine wpAnyL_take (i := 4) (ms := [9, 11, 14]) (Si := (fun w' => Below W3.heap.size W3 w')) (v := ?_) (by simp only [List.getElem?_toArray, List.getElem?_cons_zero, List.getElem?_cons_succ] <;> rfl) (by kernel_rfl) (by kernel_rfl) (by kernel_rfl) (by intro _ _ _ h; exact h) (Chain.of (by kernel_rfl)) (by decide) (Held2.set (by decide) (by decide)) (fun l w hu hS => hS.1 (hu 14 (by simp))) (Un.of (by kernel_rfl)) (Or.inl ⟨by rfl, ?_⟩) (by assumption) ?_
  rotate_left
  · intro w hSS; have e1 := bkeep hSS c8; go_simp; try with_reducible rfl
  try simp only [Act.put, List.setIfInBounds_toArray, List.set_cons_zero, List.set_cons_succ, Array.replicate]
  refine wpAnyL_take (i := 5) (ms := []) (Si := fun _ => True) (v := ?_) (by simp only [List.getElem?_toArray, List.getElem?_cons_zero, List.getElem?_cons_succ] <;> rfl) (by kernel_rfl) (by kernel_rfl) (by kernel_rfl) (by intro _ _ _ h; exact h) trivial (by intro m hm; cases hm) (Held2.set (by decide) (by decide)) (fun _ _ _ _ => trivial) (by intro m hm; cases hm) (Or.inl ⟨by rfl, ?_⟩) (by assumption) ?_
  rotate_left
  · intro w _; go_simp; try with_reducible rfl
  try simp only [Act.put, List.setIfInBounds_toArray, List.set_cons_zero, List.set_cons_succ, Array.replicate]
  refine wpAnyL_take (i := 6) (ms := []) (Si := fun _ => True) (v := ?_) (by simp only [List.getElem?_toArray, List.getElem?_cons_zero, List.getElem?_cons_succ] <;> rfl) (by kernel_rfl) (by kernel_rfl) (by kernel_rfl) (by intro _ _ _ h; exact h) trivial (by intro m hm; cases hm) (Held2.set (by decide) (by decide)) (fun _ _ _ _ => trivial) (by intro m hm; cases hm) (Or.inl ⟨by rfl, ?_⟩) (by assumption) ?_
  rotate_left
  · intro w _; go_simp; try with_reducible rfl
  try simp only [Act.put, List.setIfInBounds_toArray, List.set_cons_zero, List.set_cons_succ, Array.replicate]
  refine wpAnyL_take (i := 7) (ms := []) (Si := fun _ => True) (v := ?_) (by simp only [List.getElem?_toArray, List.getElem?_cons_zero, List.getElem?_cons_succ] <;> rfl) (by kernel_rfl) (by kernel_rfl) (by kernel_rfl) (by intro _ _ _ h; exact h) trivial (by intro m hm; cases hm) (Held2.set (by decide) (by decide)) (fun _ _ _ _ => trivial) (by intro m hm; cases hm) (Or.inl ⟨by rfl, ?_⟩) (by assumption) ?_
  rotate_left
  · intro w _; go_simp; try with_reducible rfl
  try simp only [Act.put, List.setIfInBounds_toArray, List.set_cons_zero, List.set_cons_succ, Array.replicate]
  refine wpAnyL_take (i := 8) (ms := [9, 11, 14]) (Si := (fun w' => Below W3.heap.size W3 w')) (v := ?_) (by simp only [List.getElem?_toArray, List.getElem?_cons_zero, List.getElem?_cons_succ] <;> rfl) (by kernel_rfl) (by kernel_rfl) (by kernel_rfl) (by intro _ _ _ h; exact h) (Chain.of (by kernel_rfl)) (by decide) (Held2.set (by decide) (by decide)) (fun l w hu hS => hS.1 (hu 14 (by simp))) (Un.of (by kernel_rfl)) (Or.inl ⟨by rfl, ?_⟩) (by assumption) ?_
  rotate_left
  · intro w hSS; have e2 := bkeep hSS d8; go_simp; try with_reducible rfl
  try simp only [Act.put, List.setIfInBounds_toArray, List.set_cons_zero, List.set_cons_succ, Array.replicate]
  clear c8 d8
  refine wpAnyL_ready (rs := [9, 10]) (by kernel_rfl) (by simp) ?_
  refine AllReadyL.cons (by simp only [List.getElem?_toArray, List.getElem?_cons_zero, List.getElem?_cons_succ] <;> rfl) (fun K hK => ?_) ?_
  · refine step_app_bytes (base := W3.heap.size) Tryz.underlying64 info_byte rfl (.tmp 23) (.tmp 27) rfl rfl (Own.nil _ _ _) rfl (SL3.out.drewN 1) (by have := HSZ.out; have := HL0N.out; simp; try omega) (by first | exact Nat.le_refl _ | (have := B4.size; simp; omega) | (have := hb4.size; change (World.alloc W3 _).heap.size ≤ _ at this; rw [World.size_alloc] at this; exact this) | simp) ?_; intro v4 w4 ho4 hb4; have B4 : Below W3.heap.size W3 w4 := ((Below.refl _ _).drew.trans hb4); 
    refine hK.out _ _ ⟨(fun _ => B4), (fun h => by cases (show true = false from h))⟩ (fun hHeld => ?_)
    clear hK K
    try simp only [Act.put, List.setIfInBounds_toArray, List.set_cons_zero, List.set_cons_succ, Array.replicate]
    refine wpAnyL_ready (rs := [10]) (by kernel_rfl) (by simp) ?_
    refine AllReadyL.cons (by simp only [List.getElem?_toArray, List.getElem?_cons_zero, List.getElem?_cons_succ] <;> rfl) (fun K hK => ?_) ?_
    · go_simp
      refine hK.out _ _ ⟨(fun _ => (B4.alloc B4.size _)), (fun h => by cases (show true = false from h))⟩ (fun hHeld => ?_)
      clear hK K
      try simp only [Act.put, List.setIfInBounds_toArray, List.set_cons_zero, List.set_cons_succ, Array.replicate]
      refine wpAnyL_ready (rs := [11]) (by kernel_rfl) (by simp) ?_
      refine AllReadyL.cons (by simp only [List.getElem?_toArray, List.getElem?_cons_zero, List.getElem?_cons_succ] <;> rfl) (fun K hK => ?_) ?_
      · refine step_app_bytes (base := W3.heap.size) Tryz.underlying64 info_byte rfl (.tmp 28) (.tmp 29) rfl rfl (ho4.alloc _) rfl (sh1 (e := 5) (a := 128) (by decide)) (by have := HSZ.out; have := HL0N.out; simp; try omega) (by first | exact Nat.le_refl _ | (have := B4.size; simp; omega) | (have := hb4.size; change (World.alloc W3 _).heap.size ≤ _ at this; rw [World.size_alloc] at this; exact this) | simp) ?_; intro v5 w5 ho5 hb5; have B5 : Below W3.heap.size W3 w5 := ((B4.alloc B4.size _).trans hb5); obtain ⟨D1, hD1⟩ : ∃ D1, L0 ++ [ofI 128] = D1 := ⟨_, rfl⟩; rw [List.nil_append, hD1] at ho5; have HD1 := Lib.hid hD1; obtain ⟨x5, k5, rfl, -, -, -, -⟩ := ho5.sh.open; have G5 := Row.below G3.out B5 (by omega); have f85 := Row.frozen G5 8; have c85 := Row.cell G5 8; simp only [hashC_eq, List.getElem?_cons_succ, List.getElem?_cons_zero] at c85; clear hD1
        refine hK.out _ _ ⟨(fun _ => B5), (fun h => by cases (show true = false from h))⟩ (fun hHeld => ?_)
        clear hK K
        try simp only [Act.put, List.setIfInBounds_toArray, List.set_cons_zero, List.set_cons_succ, Array.replicate]
        refine wpAnyL_take (i := 12) (ms := []) (Si := fun _ => True) (v := ?_) (by simp only [List.getElem?_toArray, List.getElem?_cons_zero, List.getElem?_cons_succ] <;> rfl) (by kernel_rfl) (by kernel_rfl) (by kernel_rfl) (by intro _ _ _ h; exact h) trivial (by intro m hm; cases hm) (Held2.set (by decide) (by decide)) (fun _ _ _ _ => trivial) (by intro m hm; cases hm) (Or.inl ⟨by rfl, ?_⟩) (by assumption) ?_
        rotate_left
        · intro w _; go_simp; try with_reducible rfl
        try simp only [Act.put, List.setIfInBounds_toArray, List.set_cons_zero, List.set_cons_succ, Array.replicate]
        refine wpAnyL_take (i := 13) (ms := []) (Si := fun _ => True) (v := ?_) (by simp only [List.getElem?_toArray, List.getElem?_cons_zero, List.getElem?_cons_succ] <;> rfl) (by kernel_rfl) (by kernel_rfl) (by kernel_rfl) (by intro _ _ _ h; exact h) trivial (by intro m hm; cases hm) (Held2.set (by decide) (by decide)) (fun _ _ _ _ => trivial) (by intro m hm; cases hm) (Or.inl ⟨by rfl, ?_⟩) (by assumption) ?_
        rotate_left
        · intro w _; go_simp; try with_reducible rfl
        try simp only [Act.put, List.setIfInBounds_toArray, List.set_cons_zero, List.set_cons_succ, Array.replicate]
        refine wpAnyL_ready (rs := [14]) (by kernel_rfl) (by simp) ?_
        refine AllReadyL.cons (by simp only [List.getElem?_toArray, List.getElem?_cons_zero, List.getElem?_cons_succ] <;> rfl) (fun K hK => ?_) ?_
        · go_simp
          refine hK.out _ _ ⟨(fun h => by cases (show true = false from h)), (fun h => by cases (show true = false from h))⟩ (fun hHeld => ?_)
          clear hK K
          try simp only [Act.put, List.setIfInBounds_toArray, List.set_cons_zero, List.set_cons_succ, Array.replicate]
          refine wpAnyL_done (by kernel_rfl) ?_ _
          clear hHeld
          repeat clear hHeld
          have hz3 := HZ3.out
          have R6 : Row (w5.setCell ⟨g, 8, none⟩ (.slice x5 D1.length k5)) g 93 (hashC S0 (.slice x5 D1.length k5) l.length) := Row.set G5 8 _
          have O6 : Own (w5.setCell ⟨g, 8, none⟩ (.slice x5 D1.length k5)) (g + 1) 5 (.slice x5 D1.length k5) D1 := Upd.own (Upd.set g 8 w5 _) (ho5.mono (by omega)) G5 (by decide)
          have B6 : Below g W3 (w5.setCell ⟨g, 8, none⟩ (.slice x5 D1.length k5)) := (B5.mono (show g ≤ W3.heap.size by omega)).setCell (p := ⟨g, 8, none⟩) (Nat.le_refl _) _
          generalize w5.setCell ⟨g, 8, none⟩ (.slice x5 D1.length k5) = w6 at *
          clear f85 c85 G5 B5 ho5 hb5 B4 ho4 hb4
          have hD1l : D1.length = L0.length + 1 := by rw [← HD1.out]; simp
          have HD1L := Lib.hid hD1l
          clear hD1l hz3
          go_wp2_with fail
          go_loopw [] (fun wr => ∃ (i : Nat) (v : Value), i ≤ Sha.zeros l.length ∧ Row wr g 93 (hashC S0 v l.length) ∧ Own wr (g + 1) 5 v (D1 ++ List.replicate i 0) ∧ Below g W3 wr) (fun wr => (120 - leftLen wr g % 64) % 64)
          case atStart => exact ⟨0, _, Nat.zero_le _, R6, by simpa using O6, B6⟩
          case round =>
            clear R6 O6 B6
            obtain ⟨i, v, hi, r0, o0, b0⟩ := hrel
            have hdn : D1 ++ List.replicate (i + 1) 0 = (D1 ++ List.replicate i 0) ++ [0] := by rw [List.append_assoc, List.replicate_succ']
            have hdl : (D1 ++ List.replicate i (0 : UInt8)).length = L0.length + 1 + i := by rw [List.length_append, HD1L.out]; simp
            obtain ⟨D, hD⟩ : ∃ D, D1 ++ List.replicate i (0 : UInt8) = D := ⟨_, rfl⟩
            rw [hD] at hdn hdl o0
            have HDD := Lib.hid hD
            obtain ⟨x, c, rfl, -, -, -, -⟩ := o0.sh.open
            have c8 := Row.cell r0 8
            have f8 := Row.frozen r0 8
            simp only [hashC_eq, List.getElem?_cons_succ, List.getElem?_cons_zero] at c8
            have hlen0 : leftLen wr g = D.length := by unfold leftLen; rw [c8]
            have R0 := Lib.hid r0
            have O0 := Lib.hid o0
            have B0 := Lib.hid b0
            have HDN := Lib.hid hdn
            have HDL := Lib.hid hdl
            have HL := Lib.hid hlen0
            have HI := Lib.hid hi
            clear r0 o0 b0 hdn hdl hD hlen0 hi
            have hlr : leftLen wr g = D.length := HL.out
            by_cases hlt : i < Sha.zeros l.length
            · have hne : ¬ D.length % 64 = 56 := by have := HDL.out; have := HL0N.out; unfold Sha.zeros at hlt; omega
              have hcnd : ((D.length : Int) % 64 != 56) = true := by rw [bne_iff_ne]; omega
              have hDs : D.length ≤ 1000 := by have := HDL.out; have := HL0N.out; have := HI.out; unfold Sha.zeros at this; omega
              have hgl := R0.out.lt
              clear hne
              go_wp2_with (at_builtin; refine app_bytes (base := g + 1) Tryz.underlying64 info_byte rfl (.tmp 44) (.tmp 45) rfl rfl (O0.out.alloc _) rfl (sh1 (e := 5) (a := 0) (by decide)) (by simp; omega) (by simp; omega) ?_; intro v2 w2 ho2 hb2; rw [show D ++ [ofI 0] = D ++ [0] from rfl, ← HDN.out] at ho2; obtain ⟨D2, hD2⟩ : ∃ D2, D1 ++ List.replicate (i + 1) (0 : UInt8) = D2 := ⟨_, rfl⟩; rw [hD2] at ho2; have HD2 := Lib.hid hD2; clear hD2; obtain ⟨x2, k2, rfl, -, -, -, -⟩ := ho2.sh.open; have R2 := Lib.hid (Row.below (Row.alloc R0.out _) hb2 (Nat.lt_succ_self g)); have g8 := Row.frozen R2.out 8; have d8 := Row.cell R2.out 8; simp only [hashC_eq, List.getElem?_cons_succ, List.getElem?_cons_zero] at d8)
              have hb3 : Below g wr w2 := ((Below.refl g wr).alloc (Nat.le_of_lt hgl) _).trans (hb2.mono (Nat.le_succ g))
              refine ⟨⟨i + 1, .slice x2 D2.length k2, hlt, R2.out.set 8 _, ?_, (B0.out.trans hb3).setCell (p := ⟨g, 8, none⟩) (Nat.le_refl _) _⟩, ?_⟩
              · rw [HD2.out]; exact Upd.own (Upd.set g 8 w2 _) ho2 R2.out (by decide)
              · rw [hlr]
                have h9 : leftLen (w2.setCell ⟨g, 8, none⟩ (.slice x2 D2.length k2)) g = D2.length := by
                  unfold leftLen
                  rw [World.cell?_setCell_same' _ _ _ (by rw [d8]; rfl)]
                have h10 : D2.length = D.length + 1 := by rw [← HD2.out, HDN.out]; simp
                have := HDL.out; have := HL0N.out
                rw [h9, h10]
                unfold Sha.zeros at hlt
                omega
            · have hiz : i = Sha.zeros l.length := by have := HI.out; omega
              have he : D.length % 64 = 56 := by have h1 := HDL.out; have h2 := HL0N.out; rw [hiz] at h1; unfold Sha.zeros at h1; omega
              have hcnd : ((D.length : Int) % 64 != 56) = false := by rw [bne_eq_false_iff_eq]; omega
              clear he hlr
              have d9 := Row.cell (Row.below R3.out B0.out hpg) 9
              simp only [hashC_eq, List.getElem?_cons_succ, List.getElem?_cons_zero] at d9
              obtain ⟨N8, hN8⟩ : ∃ N8, l.length * 8 = N8 := ⟨_, rfl⟩
              have hN8b : N8 ≤ 2000000000000000 := by have := HSZ.out; omega
              have hw8 : IntKind.u64.wrap ((l.length : Int) * 8) = (N8 : Int) := by rw [IntWalk.u64_in _ ⟨by omega, by omega⟩]; omega
              have HN8 := Lib.hid hN8
              have hDs : D.length ≤ 1000 := by have := HDL.out; have := HL0N.out; have := HI.out; unfold Sha.zeros at this; omega
              clear hN8
              go_wp2_with fail
              clear d9 hw8 hcnd
              go_loopw [5] (fun b wr => ∃ (j : Nat) (v : Value), j ≤ 8 ∧ b = .int .i64 (56 - 8 * (j : Int)) ∧ Row wr g 93 (hashC S0 v l.length) ∧ Own wr (g + 1) 5 v (D ++ (Sha.be64 N8).take j) ∧ Below g W3 wr) (fun b _ => (intOf b + 8).toNat)
              case atStart => exact ⟨0, _, Nat.zero_le _, rfl, R0.out, by simpa using O0.out, B0.out⟩
              case round =>
                clear R0 O0 B0 c8 f8
                obtain ⟨j, v, hj, rfl, r0, o0, b0⟩ := hrel
                obtain ⟨x2, k2, hv, -, -, -, -⟩ := o0.sh.open
                have hel : (D ++ (Sha.be64 N8).take j).length = D.length + j := by rw [List.length_append, List.length_take, Sha.be64_length]; omega
                obtain ⟨E, hE⟩ : ∃ E, D ++ (Sha.be64 N8).take j = E := ⟨_, rfl⟩
                rw [hE] at o0 hv hel
                subst hv
                have HE := Lib.hid hE
                have HEL := Lib.hid hel
                have R0 := Lib.hid r0
                have O0 := Lib.hid o0
                have B0 := Lib.hid b0
                clear r0 o0 b0 hE hel
                have c8 := Row.cell R0.out 8
                have f8 := Row.frozen R0.out 8
                simp only [hashC_eq, List.getElem?_cons_succ, List.getElem?_cons_zero] at c8
                by_cases hlt : j < 8
                · obtain ⟨k, hk⟩ : ∃ k : Nat, (56 - 8 * (j : Int)) = (k : Int) := ⟨56 - 8 * j, by omega⟩
                  rw [hk]
                  have hkb : k ≤ 56 := by omega
                  have hkj : k = 8 * (7 - j) := by omega
                  have hwr8 : IntKind.u8.wrap ((N8 : Int) / 2 ^ k) = ((N8 / 2 ^ k % 256 : Nat) : Int) := by
                    rw [IntKind.wrap_u8, Int.natCast_emod, Int.natCast_ediv, Int.natCast_pow]; rfl
                  have HB := Lib.hid (show 0 ≤ IntKind.u8.wrap ((N8 : Int) / 2 ^ k) ∧ IntKind.u8.wrap ((N8 : Int) / 2 ^ k) < 256 by rw [hwr8]; omega)
                  have hbyte : ofI (IntKind.u8.wrap ((N8 : Int) / 2 ^ k)) = (Sha.be64 N8).getD j 0 := by
                    rw [hwr8]
                    have : (Sha.be64 N8).getD j 0 = UInt8.ofNat (N8 / 256 ^ (7 - j)) := by
                      simp only [Sha.be64, List.getD, List.getElem?_map, List.getElem?_range hlt, Option.map_some, Option.getD_some]
                    rw [this, hkj, Nat.pow_mul]
                    show UInt8.ofNat ((((N8 / (2 ^ 8) ^ (7 - j)) % 256 : Nat) : Int).toNat) = _
                    rw [Int.toNat_natCast]
                    apply UInt8.toNat_inj.1
                    simp
                  have HBE : Hid (E ++ [ofI (IntKind.u8.wrap ((N8 : Int) / 2 ^ k))] = D ++ (Sha.be64 N8).take (j + 1)) := by
                    show _ = _
                    rw [hbyte, ← HE.out, List.append_assoc]
                    congr 1
                    rw [List.take_add_one]
                    congr 1
                    have h8 : j < (Sha.be64 N8).length := by rw [Sha.be64_length]; exact hlt
                    simp [List.getD, List.getElem?_eq_getElem h8]
                  have HKJ := Lib.hid hkj
                  clear hwr8 hbyte hkj
                  have hgl := R0.out.lt
                  go_upto_region 9 with fail
                  refine wp_region_L (S := Held2 13 (fun w' => Below (g + 1) wr w') 10 (fun _ => True)) (by kernel_rfl) ⟨fun _ => (by exact (Below.refl _ _).drew), fun _ => trivial⟩ (fun hHeld => ?_)
                  refine wpAnyL_take (i := 0) (ms := []) (Si := fun _ => True) (v := ?_) (by simp only [List.getElem?_toArray, List.getElem?_cons_zero, List.getElem?_cons_succ] <;> rfl) (by kernel_rfl) (by kernel_rfl) (by kernel_rfl) (by intro _ _ _ h; exact h) trivial (by intro m hm; cases hm) (Held2.set (by decide) (by decide)) (fun _ _ _ _ => trivial) (by intro m hm; cases hm) (Or.inl ⟨by rfl, ?_⟩) (by assumption) ?_
                  rotate_left
                  · intro w _; go_simp; try with_reducible rfl
                  try simp only [Act.put, List.setIfInBounds_toArray, List.set_cons_zero, List.set_cons_succ, Array.replicate]
                  refine wpAnyL_take (i := 1) (ms := []) (Si := fun _ => True) (v := ?_) (by simp only [List.getElem?_toArray, List.getElem?_cons_zero, List.getElem?_cons_succ] <;> rfl) (by kernel_rfl) (by kernel_rfl) (by kernel_rfl) (by intro _ _ _ h; exact h) trivial (by intro m hm; cases hm) (Held2.set (by decide) (by decide)) (fun _ _ _ _ => trivial) (by intro m hm; cases hm) (Or.inl ⟨by rfl, ?_⟩) (by assumption) ?_
                  rotate_left
                  · intro w _; go_simp; try with_reducible rfl
                  try simp only [Act.put, List.setIfInBounds_toArray, List.set_cons_zero, List.set_cons_succ, Array.replicate]
                  refine wpAnyL_take (i := 2) (ms := []) (Si := fun _ => True) (v := ?_) (by simp only [List.getElem?_toArray, List.getElem?_cons_zero, List.getElem?_cons_succ] <;> rfl) (by kernel_rfl) (by kernel_rfl) (by kernel_rfl) (by intro _ _ _ h; exact h) trivial (by intro m hm; cases hm) (Held2.set (by decide) (by decide)) (fun _ _ _ _ => trivial) (by intro m hm; cases hm) (Or.inl ⟨by rfl, ?_⟩) (by assumption) ?_
                  rotate_left
                  · intro w _; go_simp; try with_reducible rfl
                  try simp only [Act.put, List.setIfInBounds_toArray, List.set_cons_zero, List.set_cons_succ, Array.replicate]
                  refine wpAnyL_take (i := 3) (ms := []) (Si := fun _ => True) (v := ?_) (by simp only [List.getElem?_toArray, List.getElem?_cons_zero, List.getElem?_cons_succ] <;> rfl) (by kernel_rfl) (by kernel_rfl) (by kernel_rfl) (by intro _ _ _ h; exact h) trivial (by intro m hm; cases hm) (Held2.set (by decide) (by decide)) (fun _ _ _ _ => trivial) (by intro m hm; cases hm) (Or.inl ⟨by rfl, ?_⟩) (by assumption) ?_
                  rotate_left
                  · intro w _; go_simp; try with_reducible rfl
                  try simp only [Act.put, List.setIfInBounds_toArray, List.set_cons_zero, List.set_cons_succ, Array.replicate]
                  refine wpAnyL_take (i := 4) (ms := [10, 13]) (Si := (fun w' => Below (g + 1) wr w')) (v := ?_) (by simp only [List.getElem?_toArray, List.getElem?_cons_zero, List.getElem?_cons_succ] <;> rfl) (by kernel_rfl) (by kernel_rfl) (by kernel_rfl) (by intro _ _ _ h; exact h) (Chain.of (by kernel_rfl)) (by decide) (Held2.set (by decide) (by decide)) (fun l w hu hS => hS.1 (hu 13 (by simp))) (Un.of (by kernel_rfl)) (Or.inl ⟨by rfl, ?_⟩) (by assumption) ?_
                  rotate_left
                  · intro w hSS; have e1 := bcell hSS c8 (Nat.lt_succ_self g); go_simp; try with_reducible rfl
                  try simp only [Act.put, List.setIfInBounds_toArray, List.set_cons_zero, List.set_cons_succ, Array.replicate]
                  refine wpAnyL_take (i := 5) (ms := []) (Si := fun _ => True) (v := ?_) (by simp only [List.getElem?_toArray, List.getElem?_cons_zero, List.getElem?_cons_succ] <;> rfl) (by kernel_rfl) (by kernel_rfl) (by kernel_rfl) (by intro _ _ _ h; exact h) trivial (by intro m hm; cases hm) (Held2.set (by decide) (by decide)) (fun _ _ _ _ => trivial) (by intro m hm; cases hm) (Or.inl ⟨by rfl, ?_⟩) (by assumption) ?_
                  rotate_left
                  · intro w _; go_simp; try with_reducible rfl
                  try simp only [Act.put, List.setIfInBounds_toArray, List.set_cons_zero, List.set_cons_succ, Array.replicate]
                  refine wpAnyL_take (i := 6) (ms := []) (Si := fun _ => True) (v := ?_) (by simp only [List.getElem?_toArray, List.getElem?_cons_zero, List.getElem?_cons_succ] <;> rfl) (by kernel_rfl) (by kernel_rfl) (by kernel_rfl) (by intro _ _ _ h; exact h) trivial (by intro m hm; cases hm) (Held2.set (by decide) (by decide)) (fun _ _ _ _ => trivial) (by intro m hm; cases hm) (Or.inl ⟨by rfl, ?_⟩) (by assumption) ?_
                  rotate_left
                  · intro w _; go_simp; try with_reducible rfl
                  try simp only [Act.put, List.setIfInBounds_toArray, List.set_cons_zero, List.set_cons_succ, Array.replicate]
                  refine wpAnyL_take (i := 7) (ms := []) (Si := fun _ => True) (v := ?_) (by simp only [List.getElem?_toArray, List.getElem?_cons_zero, List.getElem?_cons_succ] <;> rfl) (by kernel_rfl) (by kernel_rfl) (by kernel_rfl) (by intro _ _ _ h; exact h) trivial (by intro m hm; cases hm) (Held2.set (by decide) (by decide)) (fun _ _ _ _ => trivial) (by intro m hm; cases hm) (Or.inl ⟨by rfl, ?_⟩) (by assumption) ?_
                  rotate_left
                  · intro w _; go_simp; try with_reducible rfl
                  try simp only [Act.put, List.setIfInBounds_toArray, List.set_cons_zero, List.set_cons_succ, Array.replicate]
                  refine wpAnyL_take (i := 8) (ms := []) (Si := fun _ => True) (v := ?_) (by simp only [List.getElem?_toArray, List.getElem?_cons_zero, List.getElem?_cons_succ] <;> rfl) (by kernel_rfl) (by kernel_rfl) (by kernel_rfl) (by intro _ _ _ h; exact h) trivial (by intro m hm; cases hm) (Held2.set (by decide) (by decide)) (fun _ _ _ _ => trivial) (by intro m hm; cases hm) (Or.inl ⟨by rfl, ?_⟩) (by assumption) ?_
                  rotate_left
                  · intro w _; go_simp; try with_reducible rfl
                  try simp only [Act.put, List.setIfInBounds_toArray, List.set_cons_zero, List.set_cons_succ, Array.replicate]
                  refine wpAnyL_ready (rs := [9]) (by kernel_rfl) (by simp) ?_
                  refine AllReadyL.cons (by simp only [List.getElem?_toArray, List.getElem?_cons_zero, List.getElem?_cons_succ] <;> rfl) (fun K hK => ?_) ?_
                  · go_simp
                    refine hK.out _ _ ⟨(fun _ => ((Below.refl _ _).drew.alloc (by exact hgl) _)), (fun _ => trivial)⟩ (fun hHeld => ?_)
                    clear hK K
                    try simp only [Act.put, List.setIfInBounds_toArray, List.set_cons_zero, List.set_cons_succ, Array.replicate]
                    refine wpAnyL_ready (rs := [10]) (by kernel_rfl) (by simp) ?_
                    refine AllReadyL.cons (by simp only [List.getElem?_toArray, List.getElem?_cons_zero, List.getElem?_cons_succ] <;> rfl) (fun K hK => ?_) ?_
                    · refine step_app_bytes (base := g + 1) Tryz.underlying64 info_byte rfl (.tmp 62) (.tmp 67) rfl rfl ((O0.out.below ((Below.refl _ _).drew)).alloc _) rfl (sh1 (e := 5) HB.out) (by have := HEL.out; simp; omega) (by simp; omega) ?_; intro v4 w4 ho4 hb4; have B4 : Below g wr w4 := (((Below.refl g wr).drew).alloc (Nat.le_of_lt hgl) _).trans (hb4.mono (Nat.le_succ g)); rw [HBE.out] at ho4; obtain ⟨E2, hE2⟩ : ∃ E2, D ++ (Sha.be64 N8).take (j + 1) = E2 := ⟨_, rfl⟩; rw [hE2] at ho4; have HE2 := Lib.hid hE2; clear hE2; obtain ⟨x4, k4, rfl, -, -, -, -⟩ := ho4.sh.open; have R4 := Row.below (Row.alloc (R0.out.drew) _) hb4 (Nat.lt_succ_self g); have f84 := Row.frozen R4 8; have c84 := Row.cell R4 8; simp only [hashC_eq, List.getElem?_cons_succ, List.getElem?_cons_zero] at c84
                      refine hK.out _ _ ⟨(fun _ => ((((Below.refl _ _).drew).alloc (by exact hgl) _).trans hb4)), (fun h => by cases (show true = false from h))⟩ (fun hHeld => ?_)
                      clear hK K
                      try simp only [Act.put, List.setIfInBounds_toArray, List.set_cons_zero, List.set_cons_succ, Array.replicate]
                      refine wpAnyL_take (i := 11) (ms := []) (Si := fun _ => True) (v := ?_) (by simp only [List.getElem?_toArray, List.getElem?_cons_zero, List.getElem?_cons_succ] <;> rfl) (by kernel_rfl) (by kernel_rfl) (by kernel_rfl) (by intro _ _ _ h; exact h) trivial (by intro m hm; cases hm) (Held2.set (by decide) (by decide)) (fun _ _ _ _ => trivial) (by intro m hm; cases hm) (Or.inl ⟨by rfl, ?_⟩) (by assumption) ?_
                      rotate_left
                      · intro w _; go_simp; try with_reducible rfl
                      try simp only [Act.put, List.setIfInBounds_toArray, List.set_cons_zero, List.set_cons_succ, Array.replicate]
                      refine wpAnyL_take (i := 12) (ms := []) (Si := fun _ => True) (v := ?_) (by simp only [List.getElem?_toArray, List.getElem?_cons_zero, List.getElem?_cons_succ] <;> rfl) (by kernel_rfl) (by kernel_rfl) (by kernel_rfl) (by intro _ _ _ h; exact h) trivial (by intro m hm; cases hm) (Held2.set (by decide) (by decide)) (fun _ _ _ _ => trivial) (by intro m hm; cases hm) (Or.inl ⟨by rfl, ?_⟩) (by assumption) ?_
                      rotate_left
                      · intro w _; go_simp; try with_reducible rfl
                      try simp only [Act.put, List.setIfInBounds_toArray, List.set_cons_zero, List.set_cons_succ, Array.replicate]
                      refine wpAnyL_ready (rs := [13]) (by kernel_rfl) (by simp) ?_
                      refine AllReadyL.cons (by simp only [List.getElem?_toArray, List.getElem?_cons_zero, List.getElem?_cons_succ] <;> rfl) (fun K hK => ?_) ?_
                      · go_simp
                        refine hK.out _ _ ⟨(fun h => by cases (show true = false from h)), (fun h => by cases (show true = false from h))⟩ (fun hHeld => ?_)
                        clear hK K
                        try simp only [Act.put, List.setIfInBounds_toArray, List.set_cons_zero, List.set_cons_succ, Array.replicate]
                        refine wpAnyL_done (by kernel_rfl) ?_ _
                        repeat clear hHeld
                        have R5 : Row (w4.setCell ⟨g, 8, none⟩ (.slice x4 E2.length k4)) g 93 (hashC S0 (.slice x4 E2.length k4) l.length) := Row.set R4 8 _
                        have O5 : Own (w4.setCell ⟨g, 8, none⟩ (.slice x4 E2.length k4)) (g + 1) 5 (.slice x4 E2.length k4) E2 := Upd.own (Upd.set g 8 w4 _) ho4 R4 (by decide)
                        have B5 : Below g W3 (w4.setCell ⟨g, 8, none⟩ (.slice x4 E2.length k4)) := (B0.out.trans B4).setCell (p := ⟨g, 8, none⟩) (Nat.le_refl _) _
                        generalize w4.setCell ⟨g, 8, none⟩ (.slice x4 E2.length k4) = w5 at *
                        go_wp2_with fail
                        exact ⟨⟨j + 1, _, by omega, by have := HKJ.out; congr 1; omega, R5, by rw [HE2.out]; exact O5, B5⟩, by have := HKJ.out; simp [intOf]; omega⟩
                      exact AllReadyL.nil
                    exact AllReadyL.nil
                  exact AllReadyL.nil
                · have hj8 : j = 8 := by omega
                  have hnI : ¬ 8 * (j : Int) ≤ 56 := by omega
                  have HT : Hid (D ++ Sha.be64 N8 = E) := by rw [← HE.out, hj8, List.take_of_length_le (by rw [Sha.be64_length]; omega)]; rfl
                  clear hj8 hlt hj
                  have hpd : (Sha.pad l).drop (64 * (l.length / 64)) = E := by
                    have hk0 : 64 * (l.length / 64) ≤ l.length := Nat.mul_div_le _ _
                    unfold Sha.pad
                    rw [List.append_assoc, List.append_assoc, List.drop_append_of_le_length hk0, HL0.out, ← HT.out, ← HDD.out, ← HD1.out, show i = Sha.zeros l.length by have := HI.out; omega, show l.length * 8 % 18446744073709551616 = N8 by have := HN8.out; have := HSZ.out; omega]
                    rw [List.append_assoc, List.append_assoc]; rfl
                  have hS0p : Sha.St.first.takes (Sha.pad l) (l.length / 64) = S0 := by
                    rw [← HS0.out]
                    have : Sha.pad l = l ++ ([128] ++ List.replicate (Sha.zeros l.length) 0 ++ Sha.be64 (l.length * 8 % 18446744073709551616)) := by simp [Sha.pad]
                    rw [this]
                    exact takes_more _ l _ _ (Nat.mul_div_le _ _)
                  have hpl : (Sha.pad l).length = 64 * (l.length / 64) + E.length := by
                    have := congrArg List.length hpd
                    rw [List.length_drop] at this
                    have h2 : 64 * (l.length / 64) ≤ (Sha.pad l).length := by
                      have := Nat.mul_div_le l.length 64
                      unfold Sha.pad
                      simp only [List.length_append]
                      omega
                    omega
                  have hpm := Sha.pad_length l
                  have hsum : Sha.sum l = Sha.out (Sha.St.first.takes (Sha.pad l) ((Sha.pad l).length / 64)) := rfl
                  have HSUM := Lib.hid hsum
                  clear hsum
                  generalize Sha.pad l = PD at *
                  have HPD := Lib.hid hpd
                  have HPL := Lib.hid hpl
                  have HPM := Lib.hid hpm
                  obtain ⟨m0, hm0⟩ : ∃ m0, l.length / 64 = m0 := ⟨_, rfl⟩
                  rw [hm0] at hS0p
                  have HM0 := Lib.hid hm0
                  have RR : Row wr g 93 (hashC (Sha.St.first.takes PD (m0 + 0)) (.slice x2 E.length k2) l.length) := by rw [Nat.add_zero, hS0p]; exact R0.out
                  have OO : OwnA wr (g + 1) 5 (.slice x2 E.length k2) (E.drop (64 * 0)) := OwnA.of_own O0.out
                  have BB := B0.out
                  clear hpd hpl hpm hm0 hS0p
                  go_wp2_with fail
                  clear c8 f8 R0 O0 B0 hnI
                  go_loopw [6] (fun lv wr => ∃ (k : Nat) (v : Value), 64 * k ≤ E.length ∧ Row wr g 93 (hashC (Sha.St.first.takes PD (m0 + k)) v l.length) ∧ OwnA wr (g + 1) 5 lv (E.drop (64 * k)) ∧ Below g W3 wr) (fun lv _ => match lv with | .slice _ n _ => n | _ => 0)
                  case atStart => exact ⟨0, _, Nat.zero_le _, RR, OO, BB⟩
                  case round =>
                    clear RR OO BB
                    obtain ⟨k, v, hk, r0, o0, b0⟩ := hrel
                    obtain ⟨x, c, rfl, hDc, -, -, -⟩ := o0.sh.open
                    have hdn : E.drop (64 * (k + 1)) = (E.drop (64 * k)).drop 64 := by rw [List.drop_drop]; congr 1
                    have hdt : Sha.St.first.takes PD (m0 + (k + 1)) = (Sha.St.first.takes PD (m0 + k)).take ((E.drop (64 * k)).take 64) := by
                      rw [← HPD.out, HM0.out, List.drop_drop, ← Nat.mul_add]; rfl
                    have hdl : (E.drop (64 * k)).length = E.length - 64 * k := List.length_drop
                    obtain ⟨F, hF⟩ : ∃ F, E.drop (64 * k) = F := ⟨_, rfl⟩
                    rw [hF] at hdn hdt hdl o0 hDc
                    rw [hF]
                    obtain ⟨S, hS⟩ : ∃ S, Sha.St.first.takes PD (m0 + k) = S := ⟨_, rfl⟩
                    rw [hS] at r0 hdt
                    have HSS := Lib.hid hS
                    have R0 := Lib.hid r0
                    have O0 := Lib.hid o0
                    have B0 := Lib.hid b0
                    have HDN2 := Lib.hid hdn
                    have HDT := Lib.hid hdt
                    have HDL2 := Lib.hid hdl
                    have HKK := Lib.hid hk
                    clear hF hS r0 o0 b0 hdn hdt hdl hk
                    by_cases hlt : 0 < F.length
                    · have h64 : 64 ≤ F.length := by have := HDL2.out; have := HPL.out; have := HPM.out; have := HKK.out; omega
                      have hI : (0 : Int) < (F.length : Int) := by omega
                      have hI1 : (64 : Int) ≤ (F.length : Int) := by omega
                      have hI2 : (64 : Int) ≤ (c : Int) := by omega
                      have hI3 : 64 ≤ c := by omega
                      obtain ⟨z, hz⟩ : ∃ z, (if c = 64 then x else x.map (fun x => (⟨x.block, x.off + 64, none⟩ : Addr))) = z := ⟨_, rfl⟩
                      have hgl := R0.out.lt
                      have hg3 : 3 ≤ g := by omega
                      clear hlt
                      go_wp2_with (go_at_call 54; refine (takes_any g S v _ _ (F.take 64) _ (Glob.below HG3.out B0.out hg3) R0.out (Sh.head O0.out.sh h64) (by simp; omega) hg3).mono ?_; rintro e w4 ⟨rfl, r4, u4⟩; have R4 := Lib.hid r4; have U4 := Lib.hid u4; clear r4 u4)
                      have hO5 := (O0.out.grown U4.out R0.out (by decide)).cut (by omega) hz (by decide)
                      exact ⟨⟨k + 1, v, by have := HDL2.out; have := HKK.out; omega, by rw [HDT.out]; exact R4.out, by rw [HDN2.out]; exact hO5, B0.out.trans (Upd.below U4.out (Nat.le_refl _) (Nat.le_of_lt hgl))⟩, by simp; omega⟩
                    · have hF0 : F.length = 0 := by omega
                      have hI : ¬ (0 : Int) < (F.length : Int) := by omega
                      have hfin : Hid (Sha.sum l = Sha.out S) := by
                        show _ = _
                        rw [HSUM.out, ← HSS.out]
                        congr 2
                        have := HDL2.out; have := HPL.out; have := HKK.out; have := HM0.out; omega
                      clear hF0 hlt
                      go_upto_region 15 with fail
                      obtain ⟨W6, hW6, Q6, B6, Z6⟩ := pre32 wr
                      rw [hW6]
                      clear hW6 hI
                      have R6 := Lib.hid (Row.keep R0.out B6.out)
                      have A6 := Lib.hid (Row.keep (Row.below A3.out B0.out hwg) B6.out)
                      have hgq := R0.out.lt
                      have HBF := Lib.hid (HBW3.out.trans ((B0.out.mono (by omega)).trans (B6.out.mono (by omega))))
                      have hwW : w.heap.size < wr.heap.size := by omega
                      clear B6 Z6 R0 O0 B0
                      generalize wr.heap.size = q at *
                      go_wp2_with fail
                      go_loopw [84] (fun iv w' => ∃ j : Nat, j ≤ 32 ∧ iv = .int .i64 j ∧ Row w' q 36 (bytes ((Sha.out S).take j ++ List.replicate (32 - j) 0)) ∧ Below q W6 w') (fun iv _ => 32 - (intOf iv).toNat)
                      case atStart => exact ⟨0, Nat.zero_le _, rfl, Q6.out, Below.refl _ _⟩
                      case round =>
                        clear Q6
                        obtain ⟨j, hj, rfl, r0, b0⟩ := hrel
                        have Q7 := Lib.hid r0
                        have B7 := Lib.hid b0
                        clear r0 b0
                        by_cases hlt : j < 32
                        · have hltI : (j : Int) < 32 := by omega
                          obtain ⟨a, ha⟩ : ∃ a, j / 4 = a := ⟨_, rfl⟩
                          obtain ⟨b, hb⟩ : ∃ b, j % 4 = b := ⟨_, rfl⟩
                          obtain ⟨k, hk⟩ : ∃ k, 24 - 8 * b = k := ⟨_, rfl⟩
                          have ha8 : a < 8 := by omega
                          have hb4 : b < 4 := by omega
                          have hq : (j : Int) / 4 = (a : Int) := by omega
                          have hr : (j : Int) % 4 = (b : Int) := by omega
                          have hs : 24 - 8 * (b : Int) = (k : Int) := by omega
                          have hk32 : k < 32 := by omega
                          have haI : (a : Int) < 8 := by omega
                          have cw := Row.cell (Row.below R6.out B7.out hgq) a
                          rw [show hashC S v l.length = hashL S.list v l.length from rfl, hashL_get _ _ _ _ (by simpa [Sha.St.list] using ha8)] at cw
                          have hoj : (Sha.out S).getD j 0 = UInt8.ofNat ((S.list.getD a 0).toNat / 2 ^ k) := by
                            simp only [Sha.out, List.getD, List.getElem?_map, List.getElem?_range hlt, Option.map_some, Option.getD_some, ha, hb, hk]
                          have hset : (bytes ((Sha.out S).take j ++ List.replicate (32 - j) 0)).set j (.int .u8 (((Sha.out S).getD j 0).toNat : Int)) = bytes ((Sha.out S).take (j + 1) ++ List.replicate (32 - (j + 1)) 0) := by
                            have h32 : (Sha.out S).length = 32 := by simp [Sha.out]
                            have hjl : j < (Sha.out S).length := by omega
                            rw [bytes_append, bytes_append, List.set_append_right _ _ (by simp; omega)]
                            rw [show 32 - j = (32 - (j + 1)) + 1 by omega, List.replicate_succ]
                            simp only [bytes_length, List.length_take, Nat.min_eq_left (Nat.le_of_lt hjl), Nat.sub_self]
                            rw [List.take_add_one, bytes_append, List.append_assoc]
                            simp [bytes, List.getD, List.getElem?_eq_getElem hjl]
                          have cq := Row.cell Q7.out j
                          have fq := Row.frozen Q7.out j
                          have h32 : (Sha.out S).length = 32 := by simp [Sha.out]
                          have hcq : ∃ y, (bytes ((Sha.out S).take j ++ List.replicate (32 - j) 0))[j]? = some y := ⟨_, List.getElem?_eq_getElem (by simp [h32]; omega)⟩
                          obtain ⟨y, hy⟩ := hcq
                          rw [hy] at cq
                          have HV : Hid (IntKind.u8.wrap (u (S.list.getD a 0) / 2 ^ k) = (((Sha.out S).getD j 0).toNat : Int)) := by
                            show _ = _
                            rw [hoj, IntKind.wrap_u8]
                            unfold u
                            rw [UInt8.toNat_ofNat', Int.natCast_emod, Int.natCast_ediv, Int.natCast_pow]
                            rfl
                          have HSET := Lib.hid hset
                          generalize S.list.getD a 0 = xw at *
                          clear hoj hset hy ha hb hk
                          go_wp2_with fail
                          exact ⟨⟨j + 1, by omega, by go_num, by rw [← HSET.out, ← HV.out]; exact Q7.out.set j _, B7.out.setCell (p := ⟨q, j, none⟩) (Nat.le_refl _) _⟩, by simp [intOf]; omega⟩
                        · have hj32 : j = 32 := by omega
                          have hnI : ¬ (j : Int) < 32 := by omega
                          have Q8 : Hid (Row wr q 36 (bytes (Sha.sum l))) := by
                            have h32 : (Sha.out S).length = 32 := by simp [Sha.out]
                            have := Q7.out
                            rw [hj32, List.take_of_length_le (by omega), Nat.sub_self, List.replicate_zero, List.append_nil, ← hfin.out] at this
                            exact this
                          have hA8 : Row wr w.heap.size 36 (bytes Tre0) := Row.below A6.out B7.out (by omega)
                          have A8 := Lib.hid hA8
                          have hBx := Lib.hid ((HBF.out.trans (B7.out.mono (by omega))))
                          clear hj32 hlt hj hA8 Q7
                          go_wp2_with (first
                            | (with_reducible refine load_sum rfl (.tmp 7) rfl q rfl (Sha.sum l) (Sha.sum_length l) Q8.out ?_)
                            | (with_reducible refine store_sum rfl (.tmp 2) (.tmp 103) rfl w.heap.size rfl (Sha.sum l) rfl (Sha.sum_length l) _ Tre0 A8.out rfl ?_))
                          refine ret_sum rfl rfl w.heap.size rfl 36 (Sha.sum l) (setRow_heap wr w.heap.size _ _ _ _ A8.out) (Sha.sum_length l) ?_
                          exact ⟨rfl, below_setRow hBx.out (Nat.le_refl _) _⟩
        exact AllReadyL.nil
      exact AllReadyL.nil
    exact AllReadyL.nil
  refine AllReadyL.cons (by simp only [List.getElem?_toArray, List.getElem?_cons_zero, List.getElem?_cons_succ] <;> rfl) (fun K hK => ?_) ?_
  · go_simp
    refine hK.out _ _ ⟨(fun _ => ((Below.refl _ _).drew.alloc (by exact Nat.le_refl _) _)), (fun _ => trivial)⟩ (fun hHeld => ?_)
    clear hK K
    try simp only [Act.put, List.setIfInBounds_toArray, List.set_cons_zero, List.set_cons_succ, Array.replicate]
    refine wpAnyL_ready (rs := [9]) (by kernel_rfl) (by simp) ?_
    refine AllReadyL.cons (by simp only [List.getElem?_toArray, List.getElem?_cons_zero, List.getElem?_cons_succ] <;> rfl) (fun K hK => ?_) ?_
    · refine step_app_bytes (base := (W3.heap.size + 1)) Tryz.underlying64 info_byte rfl (.tmp 23) (.tmp 27) rfl rfl (Own.nil _ _ _) rfl ((SL3.out.drewN 1).alloc _) (by have := HSZ.out; have := HL0N.out; simp; try omega) (by first | exact Nat.le_refl _ | (have := B4.size; simp; omega) | (have := hb4.size; change (World.alloc W3 _).heap.size ≤ _ at this; rw [World.size_alloc] at this; exact this) | simp) ?_; intro v4 w4 ho4 hb4; have B4 : Below W3.heap.size W3 w4 := (((((Below.refl _ _).drew.alloc (by exact Nat.le_refl _) _).trans (hb4.mono (Nat.le_succ _))))); 
      refine hK.out _ _ ⟨(fun _ => B4), (fun h => by cases (show true = false from h))⟩ (fun hHeld => ?_)
      clear hK K
      try simp only [Act.put, List.setIfInBounds_toArray, List.set_cons_zero, List.set_cons_succ, Array.replicate]
      refine wpAnyL_ready (rs := [11]) (by kernel_rfl) (by simp) ?_
      refine AllReadyL.cons (by simp only [List.getElem?_toArray, List.getElem?_cons_zero, List.getElem?_cons_succ] <;> rfl) (fun K hK => ?_) ?_
      · refine step_app_bytes (base := (W3.heap.size + 1)) Tryz.underlying64 info_byte rfl (.tmp 28) (.tmp 29) rfl rfl ho4 rfl (show Sh w4 (.slice (some ⟨W3.heap.size, 0, none⟩) 1 1) [ofI 128] from (sh1 (w := W3.drew) (e := 5) (a := 128) (by decide)).at' hb4 (Nat.le_of_eq (by rw [World.size_alloc]; rfl))) (by have := HSZ.out; have := HL0N.out; simp; try omega) (by first | exact Nat.le_refl _ | (have := B4.size; simp; omega) | (have := hb4.size; change (World.alloc W3 _).heap.size ≤ _ at this; rw [World.size_alloc] at this; exact this) | simp) ?_; intro v5 w5 ho5 hb5; have B5 : Below W3.heap.size W3 w5 := (B4.trans (hb5.mono (Nat.le_succ _))); obtain ⟨D1, hD1⟩ : ∃ D1, L0 ++ [ofI 128] = D1 := ⟨_, rfl⟩; rw [List.nil_append, hD1] at ho5; have HD1 := Lib.hid hD1; obtain ⟨x5, k5, rfl, -, -, -, -⟩ := ho5.sh.open; have G5 := Row.below G3.out B5 (by omega); have f85 := Row.frozen G5 8; have c85 := Row.cell G5 8; simp only [hashC_eq, List.getElem?_cons_succ, List.getElem?_cons_zero] at c85; clear hD1
        refine hK.out _ _ ⟨(fun _ => B5), (fun h => by cases (show true = false from h))⟩ (fun hHeld => ?_)
        clear hK K
        try simp only [Act.put, List.setIfInBounds_toArray, List.set_cons_zero, List.set_cons_succ, Array.replicate]
        refine wpAnyL_take (i := 12) (ms := []) (Si := fun _ => True) (v := ?_) (by simp only [List.getElem?_toArray, List.getElem?_cons_zero, List.getElem?_cons_succ] <;> rfl) (by kernel_rfl) (by kernel_rfl) (by kernel_rfl) (by intro _ _ _ h; exact h) trivial (by intro m hm; cases hm) (Held2.set (by decide) (by decide)) (fun _ _ _ _ => trivial) (by intro m hm; cases hm) (Or.inl ⟨by rfl, ?_⟩) (by assumption) ?_
        rotate_left
        · intro w _; go_simp; try with_reducible rfl
        try simp only [Act.put, List.setIfInBounds_toArray, List.set_cons_zero, List.set_cons_succ, Array.replicate]
        refine wpAnyL_take (i := 13) (ms := []) (Si := fun _ => True) (v := ?_) (by simp only [List.getElem?_toArray, List.getElem?_cons_zero, List.getElem?_cons_succ] <;> rfl) (by kernel_rfl) (by kernel_rfl) (by kernel_rfl) (by intro _ _ _ h; exact h) trivial (by intro m hm; cases hm) (Held2.set (by decide) (by decide)) (fun _ _ _ _ => trivial) (by intro m hm; cases hm) (Or.inl ⟨by rfl, ?_⟩) (by assumption) ?_
        rotate_left
        · intro w _; go_simp; try with_reducible rfl
        try simp only [Act.put, List.setIfInBounds_toArray, List.set_cons_zero, List.set_cons_succ, Array.replicate]
        refine wpAnyL_ready (rs := [14]) (by kernel_rfl) (by simp) ?_
        refine AllReadyL.cons (by simp only [List.getElem?_toArray, List.getElem?_cons_zero, List.getElem?_cons_succ] <;> rfl) (fun K hK => ?_) ?_
        · go_simp
          refine hK.out _ _ ⟨(fun h => by cases (show true = false from h)), (fun h => by cases (show true = false from h))⟩ (fun hHeld => ?_)
          clear hK K
          try simp only [Act.put, List.setIfInBounds_toArray, List.set_cons_zero, List.set_cons_succ, Array.replicate]
          refine wpAnyL_done (by kernel_rfl) ?_ _
          clear hHeld
          repeat clear hHeld
          have hz3 := HZ3.out
          have R6 : Row (w5.setCell ⟨g, 8, none⟩ (.slice x5 D1.length k5)) g 93 (hashC S0 (.slice x5 D1.length k5) l.length) := Row.set G5 8 _
          have O6 : Own (w5.setCell ⟨g, 8, none⟩ (.slice x5 D1.length k5)) (g + 1) 5 (.slice x5 D1.length k5) D1 := Upd.own (Upd.set g 8 w5 _) (ho5.mono (by omega)) G5 (by decide)
          have B6 : Below g W3 (w5.setCell ⟨g, 8, none⟩ (.slice x5 D1.length k5)) := (B5.mono (show g ≤ W3.heap.size by omega)).setCell (p := ⟨g, 8, none⟩) (Nat.le_refl _) _
          generalize w5.setCell ⟨g, 8, none⟩ (.slice x5 D1.length k5) = w6 at *
          clear f85 c85 G5 B5 ho5 hb5 B4 ho4 hb4
          have hD1l : D1.length = L0.length + 1 := by rw [← HD1.out]; simp
          have HD1L := Lib.hid hD1l
          clear hD1l hz3
          go_wp2_with fail
          go_loopw [] (fun wr => ∃ (i : Nat) (v : Value), i ≤ Sha.zeros l.length ∧ Row wr g 93 (hashC S0 v l.length) ∧ Own wr (g + 1) 5 v (D1 ++ List.replicate i 0) ∧ Below g W3 wr) (fun wr => (120 - leftLen wr g % 64) % 64)
          case atStart => exact ⟨0, _, Nat.zero_le _, R6, by simpa using O6, B6⟩
          case round =>
            clear R6 O6 B6
            obtain ⟨i, v, hi, r0, o0, b0⟩ := hrel
            have hdn : D1 ++ List.replicate (i + 1) 0 = (D1 ++ List.replicate i 0) ++ [0] := by rw [List.append_assoc, List.replicate_succ']
            have hdl : (D1 ++ List.replicate i (0 : UInt8)).length = L0.length + 1 + i := by rw [List.length_append, HD1L.out]; simp
            obtain ⟨D, hD⟩ : ∃ D, D1 ++ List.replicate i (0 : UInt8) = D := ⟨_, rfl⟩
            rw [hD] at hdn hdl o0
            have HDD := Lib.hid hD
            obtain ⟨x, c, rfl, -, -, -, -⟩ := o0.sh.open
            have c8 := Row.cell r0 8
            have f8 := Row.frozen r0 8
            simp only [hashC_eq, List.getElem?_cons_succ, List.getElem?_cons_zero] at c8
            have hlen0 : leftLen wr g = D.length := by unfold leftLen; rw [c8]
            have R0 := Lib.hid r0
            have O0 := Lib.hid o0
            have B0 := Lib.hid b0
            have HDN := Lib.hid hdn
            have HDL := Lib.hid hdl
            have HL := Lib.hid hlen0
            have HI := Lib.hid hi
            clear r0 o0 b0 hdn hdl hD hlen0 hi
            have hlr : leftLen wr g = D.length := HL.out
            by_cases hlt : i < Sha.zeros l.length
            · have hne : ¬ D.length % 64 = 56 := by have := HDL.out; have := HL0N.out; unfold Sha.zeros at hlt; omega
              have hcnd : ((D.length : Int) % 64 != 56) = true := by rw [bne_iff_ne]; omega
              have hDs : D.length ≤ 1000 := by have := HDL.out; have := HL0N.out; have := HI.out; unfold Sha.zeros at this; omega
              have hgl := R0.out.lt
              clear hne
              go_wp2_with (at_builtin; refine app_bytes (base := g + 1) Tryz.underlying64 info_byte rfl (.tmp 44) (.tmp 45) rfl rfl (O0.out.alloc _) rfl (sh1 (e := 5) (a := 0) (by decide)) (by simp; omega) (by simp; omega) ?_; intro v2 w2 ho2 hb2; rw [show D ++ [ofI 0] = D ++ [0] from rfl, ← HDN.out] at ho2; obtain ⟨D2, hD2⟩ : ∃ D2, D1 ++ List.replicate (i + 1) (0 : UInt8) = D2 := ⟨_, rfl⟩; rw [hD2] at ho2; have HD2 := Lib.hid hD2; clear hD2; obtain ⟨x2, k2, rfl, -, -, -, -⟩ := ho2.sh.open; have R2 := Lib.hid (Row.below (Row.alloc R0.out _) hb2 (Nat.lt_succ_self g)); have g8 := Row.frozen R2.out 8; have d8 := Row.cell R2.out 8; simp only [hashC_eq, List.getElem?_cons_succ, List.getElem?_cons_zero] at d8)
              have hb3 : Below g wr w2 := ((Below.refl g wr).alloc (Nat.le_of_lt hgl) _).trans (hb2.mono (Nat.le_succ g))
              refine ⟨⟨i + 1, .slice x2 D2.length k2, hlt, R2.out.set 8 _, ?_, (B0.out.trans hb3).setCell (p := ⟨g, 8, none⟩) (Nat.le_refl _) _⟩, ?_⟩
              · rw [HD2.out]; exact Upd.own (Upd.set g 8 w2 _) ho2 R2.out (by decide)
              · rw [hlr]
                have h9 : leftLen (w2.setCell ⟨g, 8, none⟩ (.slice x2 D2.length k2)) g = D2.length := by
                  unfold leftLen
                  rw [World.cell?_setCell_same' _ _ _ (by rw [d8]; rfl)]
                have h10 : D2.length = D.length + 1 := by rw [← HD2.out, HDN.out]; simp
                have := HDL.out; have := HL0N.out
                rw [h9, h10]
                unfold Sha.zeros at hlt
                omega
            · have hiz : i = Sha.zeros l.length := by have := HI.out; omega
              have he : D.length % 64 = 56 := by have h1 := HDL.out; have h2 := HL0N.out; rw [hiz] at h1; unfold Sha.zeros at h1; omega
              have hcnd : ((D.length : Int) % 64 != 56) = false := by rw [bne_eq_false_iff_eq]; omega
              clear he hlr
              have d9 := Row.cell (Row.below R3.out B0.out hpg) 9
              simp only [hashC_eq, List.getElem?_cons_succ, List.getElem?_cons_zero] at d9
              obtain ⟨N8, hN8⟩ : ∃ N8, l.length * 8 = N8 := ⟨_, rfl⟩
              have hN8b : N8 ≤ 2000000000000000 := by have := HSZ.out; omega
              have hw8 : IntKind.u64.wrap ((l.length : Int) * 8) = (N8 : Int) := by rw [IntWalk.u64_in _ ⟨by omega, by omega⟩]; omega
              have HN8 := Lib.hid hN8
              have hDs : D.length ≤ 1000 := by have := HDL.out; have := HL0N.out; have := HI.out; unfold Sha.zeros at this; omega
              clear hN8
              go_wp2_with fail
              clear d9 hw8 hcnd
              go_loopw [5] (fun b wr => ∃ (j : Nat) (v : Value), j ≤ 8 ∧ b = .int .i64 (56 - 8 * (j : Int)) ∧ Row wr g 93 (hashC S0 v l.length) ∧ Own wr (g + 1) 5 v (D ++ (Sha.be64 N8).take j) ∧ Below g W3 wr) (fun b _ => (intOf b + 8).toNat)
              case atStart => exact ⟨0, _, Nat.zero_le _, rfl, R0.out, by simpa using O0.out, B0.out⟩
              case round =>
                clear R0 O0 B0 c8 f8
                obtain ⟨j, v, hj, rfl, r0, o0, b0⟩ := hrel
                obtain ⟨x2, k2, hv, -, -, -, -⟩ := o0.sh.open
                have hel : (D ++ (Sha.be64 N8).take j).length = D.length + j := by rw [List.length_append, List.length_take, Sha.be64_length]; omega
                obtain ⟨E, hE⟩ : ∃ E, D ++ (Sha.be64 N8).take j = E := ⟨_, rfl⟩
                rw [hE] at o0 hv hel
                subst hv
                have HE := Lib.hid hE
                have HEL := Lib.hid hel
                have R0 := Lib.hid r0
                have O0 := Lib.hid o0
                have B0 := Lib.hid b0
                clear r0 o0 b0 hE hel
                have c8 := Row.cell R0.out 8
                have f8 := Row.frozen R0.out 8
                simp only [hashC_eq, List.getElem?_cons_succ, List.getElem?_cons_zero] at c8
                by_cases hlt : j < 8
                · obtain ⟨k, hk⟩ : ∃ k : Nat, (56 - 8 * (j : Int)) = (k : Int) := ⟨56 - 8 * j, by omega⟩
                  rw [hk]
                  have hkb : k ≤ 56 := by omega
                  have hkj : k = 8 * (7 - j) := by omega
                  have hwr8 : IntKind.u8.wrap ((N8 : Int) / 2 ^ k) = ((N8 / 2 ^ k % 256 : Nat) : Int) := by
                    rw [IntKind.wrap_u8, Int.natCast_emod, Int.natCast_ediv, Int.natCast_pow]; rfl
                  have HB := Lib.hid (show 0 ≤ IntKind.u8.wrap ((N8 : Int) / 2 ^ k) ∧ IntKind.u8.wrap ((N8 : Int) / 2 ^ k) < 256 by rw [hwr8]; omega)
                  have hbyte : ofI (IntKind.u8.wrap ((N8 : Int) / 2 ^ k)) = (Sha.be64 N8).getD j 0 := by
                    rw [hwr8]
                    have : (Sha.be64 N8).getD j 0 = UInt8.ofNat (N8 / 256 ^ (7 - j)) := by
                      simp only [Sha.be64, List.getD, List.getElem?_map, List.getElem?_range hlt, Option.map_some, Option.getD_some]
                    rw [this, hkj, Nat.pow_mul]
                    show UInt8.ofNat ((((N8 / (2 ^ 8) ^ (7 - j)) % 256 : Nat) : Int).toNat) = _
                    rw [Int.toNat_natCast]
                    apply UInt8.toNat_inj.1
                    simp
                  have HBE : Hid (E ++ [ofI (IntKind.u8.wrap ((N8 : Int) / 2 ^ k))] = D ++ (Sha.be64 N8).take (j + 1)) := by
                    show _ = _
                    rw [hbyte, ← HE.out, List.append_assoc]
                    congr 1
                    rw [List.take_add_one]
                    congr 1
                    have h8 : j < (Sha.be64 N8).length := by rw [Sha.be64_length]; exact hlt
                    simp [List.getD, List.getElem?_eq_getElem h8]
                  have HKJ := Lib.hid hkj
                  clear hwr8 hbyte hkj
                  have hgl := R0.out.lt
                  go_upto_region 9 with fail
                  refine wp_region_L (S := Held2 13 (fun w' => Below (g + 1) wr w') 10 (fun _ => True)) (by kernel_rfl) ⟨fun _ => (by exact (Below.refl _ _).drew), fun _ => trivial⟩ (fun hHeld => ?_)
                  refine wpAnyL_take (i := 0) (ms := []) (Si := fun _ => True) (v := ?_) (by simp only [List.getElem?_toArray, List.getElem?_cons_zero, List.getElem?_cons_succ] <;> rfl) (by kernel_rfl) (by kernel_rfl) (by kernel_rfl) (by intro _ _ _ h; exact h) trivial (by intro m hm; cases hm) (Held2.set (by decide) (by decide)) (fun _ _ _ _ => trivial) (by intro m hm; cases hm) (Or.inl ⟨by rfl, ?_⟩) (by assumption) ?_
                  rotate_left
                  · intro w _; go_simp; try with_reducible rfl
                  try simp only [Act.put, List.setIfInBounds_toArray, List.set_cons_zero, List.set_cons_succ, Array.replicate]
                  refine wpAnyL_take (i := 1) (ms := []) (Si := fun _ => True) (v := ?_) (by simp only [List.getElem?_toArray, List.getElem?_cons_zero, List.getElem?_cons_succ] <;> rfl) (by kernel_rfl) (by kernel_rfl) (by kernel_rfl) (by intro _ _ _ h; exact h) trivial (by intro m hm; cases hm) (Held2.set (by decide) (by decide)) (fun _ _ _ _ => trivial) (by intro m hm; cases hm) (Or.inl ⟨by rfl, ?_⟩) (by assumption) ?_
                  rotate_left
                  · intro w _; go_simp; try with_reducible rfl
                  try simp only [Act.put, List.setIfInBounds_toArray, List.set_cons_zero, List.set_cons_succ, Array.replicate]
                  refine wpAnyL_take (i := 2) (ms := []) (Si := fun _ => True) (v := ?_) (by simp only [List.getElem?_toArray, List.getElem?_cons_zero, List.getElem?_cons_succ] <;> rfl) (by kernel_rfl) (by kernel_rfl) (by kernel_rfl) (by intro _ _ _ h; exact h) trivial (by intro m hm; cases hm) (Held2.set (by decide) (by decide)) (fun _ _ _ _ => trivial) (by intro m hm; cases hm) (Or.inl ⟨by rfl, ?_⟩) (by assumption) ?_
                  rotate_left
                  · intro w _; go_simp; try with_reducible rfl
                  try simp only [Act.put, List.setIfInBounds_toArray, List.set_cons_zero, List.set_cons_succ, Array.replicate]
                  refine wpAnyL_take (i := 3) (ms := []) (Si := fun _ => True) (v := ?_) (by simp only [List.getElem?_toArray, List.getElem?_cons_zero, List.getElem?_cons_succ] <;> rfl) (by kernel_rfl) (by kernel_rfl) (by kernel_rfl) (by intro _ _ _ h; exact h) trivial (by intro m hm; cases hm) (Held2.set (by decide) (by decide)) (fun _ _ _ _ => trivial) (by intro m hm; cases hm) (Or.inl ⟨by rfl, ?_⟩) (by assumption) ?_
                  rotate_left
                  · intro w _; go_simp; try with_reducible rfl
                  try simp only [Act.put, List.setIfInBounds_toArray, List.set_cons_zero, List.set_cons_succ, Array.replicate]
                  refine wpAnyL_take (i := 4) (ms := [10, 13]) (Si := (fun w' => Below (g + 1) wr w')) (v := ?_) (by simp only [List.getElem?_toArray, List.getElem?_cons_zero, List.getElem?_cons_succ] <;> rfl) (by kernel_rfl) (by kernel_rfl) (by kernel_rfl) (by intro _ _ _ h; exact h) (Chain.of (by kernel_rfl)) (by decide) (Held2.set (by decide) (by decide)) (fun l w hu hS => hS.1 (hu 13 (by simp))) (Un.of (by kernel_rfl)) (Or.inl ⟨by rfl, ?_⟩) (by assumption) ?_
                  rotate_left
                  · intro w hSS; have e1 := bcell hSS c8 (Nat.lt_succ_self g); go_simp; try with_reducible rfl
                  try simp only [Act.put, List.setIfInBounds_toArray, List.set_cons_zero, List.set_cons_succ, Array.replicate]
                  refine wpAnyL_take (i := 5) (ms := []) (Si := fun _ => True) (v := ?_) (by simp only [List.getElem?_toArray, List.getElem?_cons_zero, List.getElem?_cons_succ] <;> rfl) (by kernel_rfl) (by kernel_rfl) (by kernel_rfl) (by intro _ _ _ h; exact h) trivial (by intro m hm; cases hm) (Held2.set (by decide) (by decide)) (fun _ _ _ _ => trivial) (by intro m hm; cases hm) (Or.inl ⟨by rfl, ?_⟩) (by assumption) ?_
                  rotate_left
                  · intro w _; go_simp; try with_reducible rfl
                  try simp only [Act.put, List.setIfInBounds_toArray, List.set_cons_zero, List.set_cons_succ, Array.replicate]
                  refine wpAnyL_take (i := 6) (ms := []) (Si := fun _ => True) (v := ?_) (by simp only [List.getElem?_toArray, List.getElem?_cons_zero, List.getElem?_cons_succ] <;> rfl) (by kernel_rfl) (by kernel_rfl) (by kernel_rfl) (by intro _ _ _ h; exact h) trivial (by intro m hm; cases hm) (Held2.set (by decide) (by decide)) (fun _ _ _ _ => trivial) (by intro m hm; cases hm) (Or.inl ⟨by rfl, ?_⟩) (by assumption) ?_
                  rotate_left
                  · intro w _; go_simp; try with_reducible rfl
                  try simp only [Act.put, List.setIfInBounds_toArray, List.set_cons_zero, List.set_cons_succ, Array.replicate]
                  refine wpAnyL_take (i := 7) (ms := []) (Si := fun _ => True) (v := ?_) (by simp only [List.getElem?_toArray, List.getElem?_cons_zero, List.getElem?_cons_succ] <;> rfl) (by kernel_rfl) (by kernel_rfl) (by kernel_rfl) (by intro _ _ _ h; exact h) trivial (by intro m hm; cases hm) (Held2.set (by decide) (by decide)) (fun _ _ _ _ => trivial) (by intro m hm; cases hm) (Or.inl ⟨by rfl, ?_⟩) (by assumption) ?_
                  rotate_left
                  · intro w _; go_simp; try with_reducible rfl
                  try simp only [Act.put, List.setIfInBounds_toArray, List.set_cons_zero, List.set_cons_succ, Array.replicate]
                  refine wpAnyL_take (i := 8) (ms := []) (Si := fun _ => True) (v := ?_) (by simp only [List.getElem?_toArray, List.getElem?_cons_zero, List.getElem?_cons_succ] <;> rfl) (by kernel_rfl) (by kernel_rfl) (by kernel_rfl) (by intro _ _ _ h; exact h) trivial (by intro m hm; cases hm) (Held2.set (by decide) (by decide)) (fun _ _ _ _ => trivial) (by intro m hm; cases hm) (Or.inl ⟨by rfl, ?_⟩) (by assumption) ?_
                  rotate_left
                  · intro w _; go_simp; try with_reducible rfl
                  try simp only [Act.put, List.setIfInBounds_toArray, List.set_cons_zero, List.set_cons_succ, Array.replicate]
                  refine wpAnyL_ready (rs := [9]) (by kernel_rfl) (by simp) ?_
                  refine AllReadyL.cons (by simp only [List.getElem?_toArray, List.getElem?_cons_zero, List.getElem?_cons_succ] <;> rfl) (fun K hK => ?_) ?_
                  · go_simp
                    refine hK.out _ _ ⟨(fun _ => ((Below.refl _ _).drew.alloc (by exact hgl) _)), (fun _ => trivial)⟩ (fun hHeld => ?_)
                    clear hK K
                    try simp only [Act.put, List.setIfInBounds_toArray, List.set_cons_zero, List.set_cons_succ, Array.replicate]
                    refine wpAnyL_ready (rs := [10]) (by kernel_rfl) (by simp) ?_
                    refine AllReadyL.cons (by simp only [List.getElem?_toArray, List.getElem?_cons_zero, List.getElem?_cons_succ] <;> rfl) (fun K hK => ?_) ?_
                    · refine step_app_bytes (base := g + 1) Tryz.underlying64 info_byte rfl (.tmp 62) (.tmp 67) rfl rfl ((O0.out.below ((Below.refl _ _).drew)).alloc _) rfl (sh1 (e := 5) HB.out) (by have := HEL.out; simp; omega) (by simp; omega) ?_; intro v4 w4 ho4 hb4; have B4 : Below g wr w4 := (((Below.refl g wr).drew).alloc (Nat.le_of_lt hgl) _).trans (hb4.mono (Nat.le_succ g)); rw [HBE.out] at ho4; obtain ⟨E2, hE2⟩ : ∃ E2, D ++ (Sha.be64 N8).take (j + 1) = E2 := ⟨_, rfl⟩; rw [hE2] at ho4; have HE2 := Lib.hid hE2; clear hE2; obtain ⟨x4, k4, rfl, -, -, -, -⟩ := ho4.sh.open; have R4 := Row.below (Row.alloc (R0.out.drew) _) hb4 (Nat.lt_succ_self g); have f84 := Row.frozen R4 8; have c84 := Row.cell R4 8; simp only [hashC_eq, List.getElem?_cons_succ, List.getElem?_cons_zero] at c84
                      refine hK.out _ _ ⟨(fun _ => ((((Below.refl _ _).drew).alloc (by exact hgl) _).trans hb4)), (fun h => by cases (show true = false from h))⟩ (fun hHeld => ?_)
                      clear hK K
                      try simp only [Act.put, List.setIfInBounds_toArray, List.set_cons_zero, List.set_cons_succ, Array.replicate]
                      refine wpAnyL_take (i := 11) (ms := []) (Si := fun _ => True) (v := ?_) (by simp only [List.getElem?_toArray, List.getElem?_cons_zero, List.getElem?_cons_succ] <;> rfl) (by kernel_rfl) (by kernel_rfl) (by kernel_rfl) (by intro _ _ _ h; exact h) trivial (by intro m hm; cases hm) (Held2.set (by decide) (by decide)) (fun _ _ _ _ => trivial) (by intro m hm; cases hm) (Or.inl ⟨by rfl, ?_⟩) (by assumption) ?_
                      rotate_left
                      · intro w _; go_simp; try with_reducible rfl
                      try simp only [Act.put, List.setIfInBounds_toArray, List.set_cons_zero, List.set_cons_succ, Array.replicate]
                      refine wpAnyL_take (i := 12) (ms := []) (Si := fun _ => True) (v := ?_) (by simp only [List.getElem?_toArray, List.getElem?_cons_zero, List.getElem?_cons_succ] <;> rfl) (by kernel_rfl) (by kernel_rfl) (by kernel_rfl) (by intro _ _ _ h; exact h) trivial (by intro m hm; cases hm) (Held2.set (by decide) (by decide)) (fun _ _ _ _ => trivial) (by intro m hm; cases hm) (Or.inl ⟨by rfl, ?_⟩) (by assumption) ?_
                      rotate_left
                      · intro w _; go_simp; try with_reducible rfl
                      try simp only [Act.put, List.setIfInBounds_toArray, List.set_cons_zero, List.set_cons_succ, Array.replicate]
                      refine wpAnyL_ready (rs := [13]) (by kernel_rfl) (by simp) ?_
                      refine AllReadyL.cons (by simp only [List.getElem?_toArray, List.getElem?_cons_zero, List.getElem?_cons_succ] <;> rfl) (fun K hK => ?_) ?_
                      · go_simp
                        refine hK.out _ _ ⟨(fun h => by cases (show true = false from h)), (fun h => by cases (show true = false from h))⟩ (fun hHeld => ?_)
                        clear hK K
                        try simp only [Act.put, List.setIfInBounds_toArray, List.set_cons_zero, List.set_cons_succ, Array.replicate]
                        refine wpAnyL_done (by kernel_rfl) ?_ _
                        repeat clear hHeld
                        have R5 : Row (w4.setCell ⟨g, 8, none⟩ (.slice x4 E2.length k4)) g 93 (hashC S0 (.slice x4 E2.length k4) l.length) := Row.set R4 8 _
                        have O5 : Own (w4.setCell ⟨g, 8, none⟩ (.slice x4 E2.length k4)) (g + 1) 5 (.slice x4 E2.length k4) E2 := Upd.own (Upd.set g 8 w4 _) ho4 R4 (by decide)
                        have B5 : Below g W3 (w4.setCell ⟨g, 8, none⟩ (.slice x4 E2.length k4)) := (B0.out.trans B4).setCell (p := ⟨g, 8, none⟩) (Nat.le_refl _) _
                        generalize w4.setCell ⟨g, 8, none⟩ (.slice x4 E2.length k4) = w5 at *
                        go_wp2_with fail
                        exact ⟨⟨j + 1, _, by omega, by have := HKJ.out; congr 1; omega, R5, by rw [HE2.out]; exact O5, B5⟩, by have := HKJ.out; simp [intOf]; omega⟩
                      exact AllReadyL.nil
                    exact AllReadyL.nil
                  exact AllReadyL.nil
                · have hj8 : j = 8 := by omega
                  have hnI : ¬ 8 * (j : Int) ≤ 56 := by omega
                  have HT : Hid (D ++ Sha.be64 N8 = E) := by rw [← HE.out, hj8, List.take_of_length_le (by rw [Sha.be64_length]; omega)]; rfl
                  clear hj8 hlt hj
                  have hpd : (Sha.pad l).drop (64 * (l.length / 64)) = E := by
                    have hk0 : 64 * (l.length / 64) ≤ l.length := Nat.mul_div_le _ _
                    unfold Sha.pad
                    rw [List.append_assoc, List.append_assoc, List.drop_append_of_le_length hk0, HL0.out, ← HT.out, ← HDD.out, ← HD1.out, show i = Sha.zeros l.length by have := HI.out; omega, show l.length * 8 % 18446744073709551616 = N8 by have := HN8.out; have := HSZ.out; omega]
                    rw [List.append_assoc, List.append_assoc]; rfl
                  have hS0p : Sha.St.first.takes (Sha.pad l) (l.length / 64) = S0 := by
                    rw [← HS0.out]
                    have : Sha.pad l = l ++ ([128] ++ List.replicate (Sha.zeros l.length) 0 ++ Sha.be64 (l.length * 8 % 18446744073709551616)) := by simp [Sha.pad]
                    rw [this]
                    exact takes_more _ l _ _ (Nat.mul_div_le _ _)
                  have hpl : (Sha.pad l).length = 64 * (l.length / 64) + E.length := by
                    have := congrArg List.length hpd
                    rw [List.length_drop] at this
                    have h2 : 64 * (l.length / 64) ≤ (Sha.pad l).length := by
                      have := Nat.mul_div_le l.length 64
                      unfold Sha.pad
                      simp only [List.length_append]
                      omega
                    omega
                  have hpm := Sha.pad_length l
                  have hsum : Sha.sum l = Sha.out (Sha.St.first.takes (Sha.pad l) ((Sha.pad l).length / 64)) := rfl
                  have HSUM := Lib.hid hsum
                  clear hsum
                  generalize Sha.pad l = PD at *
                  have HPD := Lib.hid hpd
                  have HPL := Lib.hid hpl
                  have HPM := Lib.hid hpm
                  obtain ⟨m0, hm0⟩ : ∃ m0, l.length / 64 = m0 := ⟨_, rfl⟩
                  rw [hm0] at hS0p
                  have HM0 := Lib.hid hm0
                  have RR : Row wr g 93 (hashC (Sha.St.first.takes PD (m0 + 0)) (.slice x2 E.length k2) l.length) := by rw [Nat.add_zero, hS0p]; exact R0.out
                  have OO : OwnA wr (g + 1) 5 (.slice x2 E.length k2) (E.drop (64 * 0)) := OwnA.of_own O0.out
                  have BB := B0.out
                  clear hpd hpl hpm hm0 hS0p
                  go_wp2_with fail
                  clear c8 f8 R0 O0 B0 hnI
                  go_loopw [6] (fun lv wr => ∃ (k : Nat) (v : Value), 64 * k ≤ E.length ∧ Row wr g 93 (hashC (Sha.St.first.takes PD (m0 + k)) v l.length) ∧ OwnA wr (g + 1) 5 lv (E.drop (64 * k)) ∧ Below g W3 wr) (fun lv _ => match lv with | .slice _ n _ => n | _ => 0)
                  case atStart => exact ⟨0, _, Nat.zero_le _, RR, OO, BB⟩
                  case round =>
                    clear RR OO BB
                    obtain ⟨k, v, hk, r0, o0, b0⟩ := hrel
                    obtain ⟨x, c, rfl, hDc, -, -, -⟩ := o0.sh.open
                    have hdn : E.drop (64 * (k + 1)) = (E.drop (64 * k)).drop 64 := by rw [List.drop_drop]; congr 1
                    have hdt : Sha.St.first.takes PD (m0 + (k + 1)) = (Sha.St.first.takes PD (m0 + k)).take ((E.drop (64 * k)).take 64) := by
                      rw [← HPD.out, HM0.out, List.drop_drop, ← Nat.mul_add]; rfl
                    have hdl : (E.drop (64 * k)).length = E.length - 64 * k := List.length_drop
                    obtain ⟨F, hF⟩ : ∃ F, E.drop (64 * k) = F := ⟨_, rfl⟩
                    rw [hF] at hdn hdt hdl o0 hDc
                    rw [hF]
                    obtain ⟨S, hS⟩ : ∃ S, Sha.St.first.takes PD (m0 + k) = S := ⟨_, rfl⟩
                    rw [hS] at r0 hdt
                    have HSS := Lib.hid hS
                    have R0 := Lib.hid r0
                    have O0 := Lib.hid o0
                    have B0 := Lib.hid b0
                    have HDN2 := Lib.hid hdn
                    have HDT := Lib.hid hdt
                    have HDL2 := Lib.hid hdl
                    have HKK := Lib.hid hk
                    clear hF hS r0 o0 b0 hdn hdt hdl hk
                    by_cases hlt : 0 < F.length
                    · have h64 : 64 ≤ F.length := by have := HDL2.out; have := HPL.out; have := HPM.out; have := HKK.out; omega
                      have hI : (0 : Int) < (F.length : Int) := by omega
                      have hI1 : (64 : Int) ≤ (F.length : Int) := by omega
                      have hI2 : (64 : Int) ≤ (c : Int) := by omega
                      have hI3 : 64 ≤ c := by omega
                      obtain ⟨z, hz⟩ : ∃ z, (if c = 64 then x else x.map (fun x => (⟨x.block, x.off + 64, none⟩ : Addr))) = z := ⟨_, rfl⟩
                      have hgl := R0.out.lt
                      have hg3 : 3 ≤ g := by omega
                      clear hlt
                      go_wp2_with (go_at_call 54; refine (takes_any g S v _ _ (F.take 64) _ (Glob.below HG3.out B0.out hg3) R0.out (Sh.head O0.out.sh h64) (by simp; omega) hg3).mono ?_; rintro e w4 ⟨rfl, r4, u4⟩; have R4 := Lib.hid r4; have U4 := Lib.hid u4; clear r4 u4)
                      have hO5 := (O0.out.grown U4.out R0.out (by decide)).cut (by omega) hz (by decide)
                      exact ⟨⟨k + 1, v, by have := HDL2.out; have := HKK.out; omega, by rw [HDT.out]; exact R4.out, by rw [HDN2.out]; exact hO5, B0.out.trans (Upd.below U4.out (Nat.le_refl _) (Nat.le_of_lt hgl))⟩, by simp; omega⟩
                    · have hF0 : F.length = 0 := by omega
                      have hI : ¬ (0 : Int) < (F.length : Int) := by omega
                      have hfin : Hid (Sha.sum l = Sha.out S) := by
                        show _ = _
                        rw [HSUM.out, ← HSS.out]
                        congr 2
                        have := HDL2.out; have := HPL.out; have := HKK.out; have := HM0.out; omega
                      clear hF0 hlt
                      go_upto_region 15 with fail
                      obtain ⟨W6, hW6, Q6, B6, Z6⟩ := pre32 wr
                      rw [hW6]
                      clear hW6 hI
                      have R6 := Lib.hid (Row.keep R0.out B6.out)
                      have A6 := Lib.hid (Row.keep (Row.below A3.out B0.out hwg) B6.out)
                      have hgq := R0.out.lt
                      have HBF := Lib.hid (HBW3.out.trans ((B0.out.mono (by omega)).trans (B6.out.mono (by omega))))
                      have hwW : w.heap.size < wr.heap.size := by omega
                      clear B6 Z6 R0 O0 B0
                      generalize wr.heap.size = q at *
                      go_wp2_with fail
                      go_loopw [84] (fun iv w' => ∃ j : Nat, j ≤ 32 ∧ iv = .int .i64 j ∧ Row w' q 36 (bytes ((Sha.out S).take j ++ List.replicate (32 - j) 0)) ∧ Below q W6 w') (fun iv _ => 32 - (intOf iv).toNat)
                      case atStart => exact ⟨0, Nat.zero_le _, rfl, Q6.out, Below.refl _ _⟩
                      case round =>
                        clear Q6
                        obtain ⟨j, hj, rfl, r0, b0⟩ := hrel
                        have Q7 := Lib.hid r0
                        have B7 := Lib.hid b0
                        clear r0 b0
                        by_cases hlt : j < 32
                        · have hltI : (j : Int) < 32 := by omega
                          obtain ⟨a, ha⟩ : ∃ a, j / 4 = a := ⟨_, rfl⟩
                          obtain ⟨b, hb⟩ : ∃ b, j % 4 = b := ⟨_, rfl⟩
                          obtain ⟨k, hk⟩ : ∃ k, 24 - 8 * b = k := ⟨_, rfl⟩
                          have ha8 : a < 8 := by omega
                          have hb4 : b < 4 := by omega
                          have hq : (j : Int) / 4 = (a : Int) := by omega
                          have hr : (j : Int) % 4 = (b : Int) := by omega
                          have hs : 24 - 8 * (b : Int) = (k : Int) := by omega
                          have hk32 : k < 32 := by omega
                          have haI : (a : Int) < 8 := by omega
                          have cw := Row.cell (Row.below R6.out B7.out hgq) a
                          rw [show hashC S v l.length = hashL S.list v l.length from rfl, hashL_get _ _ _ _ (by simpa [Sha.St.list] using ha8)] at cw
                          have hoj : (Sha.out S).getD j 0 = UInt8.ofNat ((S.list.getD a 0).toNat / 2 ^ k) := by
                            simp only [Sha.out, List.getD, List.getElem?_map, List.getElem?_range hlt, Option.map_some, Option.getD_some, ha, hb, hk]
                          have hset : (bytes ((Sha.out S).take j ++ List.replicate (32 - j) 0)).set j (.int .u8 (((Sha.out S).getD j 0).toNat : Int)) = bytes ((Sha.out S).take (j + 1) ++ List.replicate (32 - (j + 1)) 0) := by
                            have h32 : (Sha.out S).length = 32 := by simp [Sha.out]
                            have hjl : j < (Sha.out S).length := by omega
                            rw [bytes_append, bytes_append, List.set_append_right _ _ (by simp; omega)]
                            rw [show 32 - j = (32 - (j + 1)) + 1 by omega, List.replicate_succ]
                            simp only [bytes_length, List.length_take, Nat.min_eq_left (Nat.le_of_lt hjl), Nat.sub_self]
                            rw [List.take_add_one, bytes_append, List.append_assoc]
                            simp [bytes, List.getD, List.getElem?_eq_getElem hjl]
                          have cq := Row.cell Q7.out j
                          have fq := Row.frozen Q7.out j
                          have h32 : (Sha.out S).length = 32 := by simp [Sha.out]
                          have hcq : ∃ y, (bytes ((Sha.out S).take j ++ List.replicate (32 - j) 0))[j]? = some y := ⟨_, List.getElem?_eq_getElem (by simp [h32]; omega)⟩
                          obtain ⟨y, hy⟩ := hcq
                          rw [hy] at cq
                          have HV : Hid (IntKind.u8.wrap (u (S.list.getD a 0) / 2 ^ k) = (((Sha.out S).getD j 0).toNat : Int)) := by
                            show _ = _
                            rw [hoj, IntKind.wrap_u8]
                            unfold u
                            rw [UInt8.toNat_ofNat', Int.natCast_emod, Int.natCast_ediv, Int.natCast_pow]
                            rfl
                          have HSET := Lib.hid hset
                          generalize S.list.getD a 0 = xw at *
                          clear hoj hset hy ha hb hk
                          go_wp2_with fail
                          exact ⟨⟨j + 1, by omega, by go_num, by rw [← HSET.out, ← HV.out]; exact Q7.out.set j _, B7.out.setCell (p := ⟨q, j, none⟩) (Nat.le_refl _) _⟩, by simp [intOf]; omega⟩
                        · have hj32 : j = 32 := by omega
                          have hnI : ¬ (j : Int) < 32 := by omega
                          have Q8 : Hid (Row wr q 36 (bytes (Sha.sum l))) := by
                            have h32 : (Sha.out S).length = 32 := by simp [Sha.out]
                            have := Q7.out
                            rw [hj32, List.take_of_length_le (by omega), Nat.sub_self, List.replicate_zero, List.append_nil, ← hfin.out] at this
                            exact this
                          have hA8 : Row wr w.heap.size 36 (bytes Tre0) := Row.below A6.out B7.out (by omega)
                          have A8 := Lib.hid hA8
                          have hBx := Lib.hid ((HBF.out.trans (B7.out.mono (by omega))))
                          clear hj32 hlt hj hA8 Q7
                          go_wp2_with (first
                            | (with_reducible refine load_sum rfl (.tmp 7) rfl q rfl (Sha.sum l) (Sha.sum_length l) Q8.out ?_)
                            | (with_reducible refine store_sum rfl (.tmp 2) (.tmp 103) rfl w.heap.size rfl (Sha.sum l) rfl (Sha.sum_length l) _ Tre0 A8.out rfl ?_))
                          refine ret_sum rfl rfl w.heap.size rfl 36 (Sha.sum l) (setRow_heap wr w.heap.size _ _ _ _ A8.out) (Sha.sum_length l) ?_
                          exact ⟨rfl, below_setRow hBx.out (Nat.le_refl _) _⟩
        exact AllReadyL.nil
      exact AllReadyL.nil
    exact AllReadyL.nil
  exact AllReadyL.nil
end Go.Proofs.YticabllkadpmeaaGreatDoor
