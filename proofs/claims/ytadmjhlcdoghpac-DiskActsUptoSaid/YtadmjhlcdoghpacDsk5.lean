/- The disk: the law DiskWhole. (printed by gen/dsk5.py) -/
import Derived.Test.YtadmjhlcdoghpacDsk4
namespace Go.Proofs.Ytadmjhlcdoghpac
set_option linter.unusedVariables false
set_option linter.unusedSimpArgs false
set_option linter.unnecessarySimpa false
open Go.RowKit
set_option maxRecDepth 100000
set_option maxHeartbeats 4000000

theorem and_one (x : Int) : bits .and .i64 x 1 = 0 ∨ bits .and .i64 x 1 = 1 := by
  have h : (BitVec.ofInt 64 x &&& BitVec.ofInt 64 1).toNat = (BitVec.ofInt 64 x).toNat % 2 := by
    rw [BitVec.toNat_and]
    have : (BitVec.ofInt 64 1).toNat = 1 := by decide
    rw [this, Nat.and_one_is_mod]
  show IntKind.i64.wrap ((BitVec.ofInt 64 x &&& BitVec.ofInt 64 1).toNat : Int) = 0 ∨ IntKind.i64.wrap ((BitVec.ofInt 64 x &&& BitVec.ofInt 64 1).toNat : Int) = 1
  rw [h, IntWalk.i64_in _ ⟨by omega, by omega⟩]
  omega
/-- 'append([]byte{}, l...)' as a step of a region that draws. -/
theorem step_app_own {P : Program} {t e : TypeId} (ht : P.underlying t = some (.slice e)) (he : (P.info? e).map (fun i => (i.zero, i.size, i.bytes)) = some (some (.int .u8 0), 1, 1))
    {ops : Array Oper} {o : Oper} {a : Act} {w : World} {K : Act → World → Prop} {Q : Exit → Act → World → Prop} {E : Prop} (hw : Region.wanted o (yielded ops a.tmps) = true) (s x : Operand)
    (ho : o.op = .call { callee := .builtin .append, args := #[s, x], argTypes := #[t, t] })
    {g : Nat} {sv : Value} {m : List UInt8} (hs : a.eval s = .slice (some ⟨g, 0, none⟩) 0 0) (hg : Row w g e []) (hx : a.eval x = sv) (hsh : Sh w sv m) (hlen : m.length ≤ 140737488355328)
    (h : ∀ v' w', Own w' g e v' m → Below w.heap.size w w' → K (a.put o.dst v') w') : if Region.wanted o (yielded ops a.tmps) = true then Oper.wp P o a w K Q else E := by
  rw [if_pos hw]
  obtain ⟨i, hi, hz0, hz1, hz2⟩ := info_parts he
  obtain ⟨v', w', hr, g1, g2⟩ := run_app_fresh (P := P) w t o.type e i (.int .u8 0) 1 1 ht hi hz0 hz1 hz2 rfl (by decide) g hg sv _ _ hsh (bytes_one _) (by simp only [maxLen]; omega) (by omega)
  unfold Oper.wp
  simp [execOp, ho, resolve, invoke, builtin, hs, hx, hr, Result.andThen]
  exact h v' w' g1 g2
theorem app_own_w {P : Program} {t e : TypeId} (ht : P.underlying t = some (.slice e)) (he : (P.info? e).map (fun i => (i.zero, i.size, i.bytes)) = some (some (.int .u8 0), 1, 1))
    {ops : Array Oper} {rest : List Oper} {o : Oper} {a : Act} {w : World} {Q : Exit → Act → World → Prop} (hw : Region.wanted o (yielded ops a.tmps) = true) (s x : Operand)
    (ho : o.op = .call { callee := .builtin .append, args := #[s, x], argTypes := #[t, t] })
    {g : Nat} {sv : Value} {m : List UInt8} (hs : a.eval s = .slice (some ⟨g, 0, none⟩) 0 0) (hg : Row w g e []) (hx : a.eval x = sv) (hsh : Sh w sv m) (hlen : m.length ≤ 140737488355328)
    (h : ∀ v' w', Own w' g e v' m → Below w.heap.size w w' → wpList P ops Q rest (a.put o.dst v') w') : wpList P ops Q (o :: rest) a w :=
  wpList_step fun K hK => step_app_own ht he hw s x ho hs hg hx hsh hlen (fun v' w' h1 h2 => hK _ _ (h v' w' h1 h2))
theorem write_ok (S : PD) (n : Int) (b : List UInt8) (h1 : S.dead = false) (h2 : S.left ≠ 0) (h3 : n = 0 ∨ n = 1) (h4 : ¬ S.lim - S.tot < (b.length : Int)) : S.write n b = (if n = 0 then { S.tick with n0 := S.n0 ++ b } else { S.tick with n1 := S.n1 ++ b }, 0) := by
  unfold PD.write
  rw [if_neg (by rw [h1]; simpa using h2), if_neg (by omega), if_neg h4]
  split <;> rfl
theorem replace_ok (S : PD) (n : Int) (b : List UInt8) (h1 : S.dead = false) (h2 : S.left ≠ 0) (h3 : n = 0 ∨ n = 1) (h4 : ¬ S.lim - (S.tot - ((if n = 0 then S.n0 else S.n1).length : Int)) < (b.length : Int)) : S.replace n b = (if n = 0 then { S.tick with n0 := b, r0 := true } else { S.tick with n1 := b, r1 := true }, 0) := by
  unfold PD.replace
  rw [if_neg (by rw [h1]; simpa using h2), if_neg (by omega), if_neg h4]
  split <;> rfl
theorem sync_ok (S : PD) (n : Int) (h1 : S.dead = false) (h2 : S.left ≠ 0) (h3 : n = 0 ∨ n = 1) : S.sync n = (if n = 0 then { S.tick with f0 := S.n0, r0 := false } else { S.tick with f1 := S.n1, r1 := false }, 0) := by
  unfold PD.sync
  rw [if_neg (by rw [h1]; simpa using h2), if_neg (by omega)]
  split <;> rfl
theorem DiskWhole_0 (av bv : Value) (a b : List UInt8) (K F N : Int) (ov : Value) (l : List UInt8) (w : World) (h1 : Sh w av a) (h2 : Sh w bv b) (h3 : Sh w ov l) (hsm : a.length + b.length ≤ 500000) (hl : l.length ≤ 140737488355328) (hF : bits .and .i64 F 1 = 0) :
    Calls Try.prog 4 #[av, bv, .agg #[.int .i64 K, .int .i64 F, .int .i64 N, ov]] w fun e w' => e = .returned (.bool true) ∧ Below w.heap.size w w' := by
  obtain ⟨xa, ka, rfl, -, -, -, h1⟩ := h1.open
  obtain ⟨xb, kb, rfl, -, -, -, h2⟩ := h2.open
  obtain ⟨xo, ko, rfl, -, -, -, h3⟩ := h3.open
  have H1 := Lib.hid h1
  have H2 := Lib.hid h2
  have H3 := Lib.hid h3
  clear h1 h2 h3
  obtain ⟨c, hc⟩ : ∃ c, c = if 0 < N then b else a := ⟨_, rfl⟩
  have hcr : PD.crash ⟨a, b, true, [], [], false, 1048576, -1, false⟩ N l = ⟨c, c, false, [], [], false, 1048576, -1, false⟩ := by
    have e1 : crashF a b true N l = c := by
      rw [hc]; unfold crashF
      by_cases hN : 0 < N
      · rw [if_pos hN, if_neg (by omega), if_neg (by simp)]
      · rw [if_neg hN, if_pos ⟨rfl, by omega⟩]
    have e2 : crashF [] [] false N l = [] := by unfold crashF; rw [if_neg (by simp), if_neg (by simp)]
    unfold PD.crash
    simp only [e1, e2]
  have hcl : c.length ≤ 500000 := by rw [hc]; split <;> omega
  have hsmI : ¬ (500000 : Int) < (a.length : Int) + (b.length : Int) := by omega
  go_enter Try.func4, Try.ntmps4
  go_upto_region 1 with fail
  have hR := Row.new w 25 [.int .i64 K, .int .i64 F, .int .i64 N, .slice xo l.length ko]
  have hbA : Below w.heap.size w (w.alloc (.cells [.int .i64 K, .int .i64 F, .int .i64 N, .slice xo l.length ko].toArray 25)) := balloc (Below.refl _ _) _
  rw [show ([.int .i64 K, .int .i64 F, .int .i64 N, .slice xo l.length ko] : List Value).toArray = #[.int .i64 K, .int .i64 F, .int .i64 N, .slice xo l.length ko] from rfl] at hR hbA
  generalize w.alloc (.cells #[.int .i64 K, .int .i64 F, .int .i64 N, .slice xo l.length ko] 25) = wA at *
  generalize hg : w.heap.size = g at *
  go_wp2_with fail
  refine (New_any 1048576 _).mono ?_; rintro e w1 ⟨rfl, hd1, hb1, hs1⟩
  have hd1 : Dsk w1 wA.heap.size ⟨[], [], false, [], [], false, 1048576, -1, false⟩ := hd1
  have hR1 := hR.keep hb1
  have hpg : g < wA.heap.size := hR.lt
  have hb01 := bthen hbA hb1 (by omega)
  generalize hp : wA.heap.size = p at *
  have hF1 := Row.cell hR1 1
  simp only [List.getElem?_cons_succ, List.getElem?_cons_zero] at hF1
  go_wp2_with (at_builtin; go_loud (refine app_own_w Try.underlying23 info_byte (by with_unfolding_all rfl) (.tmp 30) (.tmp 31) rfl rfl (Row.new w1 _ []) rfl ((H1.out.at' hb01 (by omega)).below (balloc (Below.refl _ _) _)) (by omega) ?_; intro v2 w2 ho2 hb2))
  have hb2 := bstep (balloc (Below.refl w1.heap.size w1) _) hb2
  have hd2 := hd1.below hb2
  have hR2 := hR1.keep hb2
  have hb02 := bthen hb01 hb2 (by omega)
  refine (Write_of p 0 _ a _ ⟨[], a, false, [], [], false, 1048576, -1, false⟩ 0 (write_ok _ _ _ rfl (by simp) (by simp) (by show ¬ (1048576 : Int) - ((0 + 0 : Nat) : Int) < (a.length : Int); omega)) _ hd2 (dsk_sb hd2 ho2) (by simp) (by simp) (by omega) (by simp)).mono ?_; rintro e w3 ⟨rfl, hd3, hu3⟩
  have hR3 := hu3.row hR2 (by omega)
  have hb03 := ub hb02 hu3 (by omega) (by omega)
  go_wp2_with fail
  refine (Sync_of p 0 _ ⟨a, a, false, [], [], false, 1048576, -1, false⟩ 0 (sync_ok _ _ rfl (by simp) (by simp)) _ hd3 (by simp) (by simp; omega) (by simp)).mono ?_; rintro e w4 ⟨rfl, hd4, hu4⟩
  have hR4 := hu4.row hR3 (by omega)
  have hb04 := ub hb03 hu4 (by omega) (by omega)
  go_wp2_with (at_builtin; go_loud (refine app_own_w Try.underlying23 info_byte (by with_unfolding_all rfl) (.tmp 44) (.tmp 45) rfl rfl (Row.new w4 _ []) rfl ((H2.out.at' hb04 (by omega)).below (balloc (Below.refl _ _) _)) (by omega) ?_; intro v5 w5 ho5 hb5))
  have hb5 := bstep (balloc (Below.refl w4.heap.size w4) _) hb5
  have hd5 := hd4.below hb5
  have hR5 := hR4.keep hb5
  have hb05 := bthen hb04 hb5 (by omega)
  refine (Replace_of p 0 _ b _ ⟨a, b, true, [], [], false, 1048576, -1, false⟩ 0 (replace_ok _ _ _ rfl (by simp) (by simp) (by simp [PD.tot]; omega)) _ hd5 (dsk_sb hd5 ho5) (by simp) (by simp; omega) (by omega) (by simp)).mono ?_; rintro e w6 ⟨rfl, hd6, hu6⟩
  have hR6 := hu6.row hR5 (by omega)
  have hb06 := ub hb05 hu6 (by omega) (by omega)
  clear hd1 hd2 hd3 hd4 hd5 hu3 hu4 hu6 hR hR1 hR2 hR3 hR4 hR5 hb01 hb02 hb03 hb04 hb05 hF1 ho2 ho5 hb1 hb2 hb5
  have HD6 := Lib.hid hd6
  have HB6 := Lib.hid hb06
  have HR6 := Lib.hid hR6
  clear hd6 hb06 hR6
  go_wp2_with fail
  refine wp_region_held_drew (S := fun w' => Row w' g 25 [.int .i64 K, .int .i64 F, .int .i64 N, .slice xo l.length ko]) (by kernel_rfl) (by exact Row.drew HR6.out) (fun hHeld => ?_)
  refine wpAnyH_take (i := 0) (v := ?_) (by simp only [List.getElem?_toArray, List.getElem?_cons_zero, List.getElem?_cons_succ] <;> rfl) (by kernel_rfl) (by kernel_rfl) (by kernel_rfl) (by intro _ _ _ h; exact h) (Or.inl ⟨by rfl, ?_⟩) (by assumption) ?_
  rotate_left
  · intro w _; go_simp; try with_reducible rfl
  try simp only [Act.put, List.setIfInBounds_toArray, List.set_cons_zero, List.set_cons_succ, Array.replicate]
  refine wpAnyH_take (i := 1) (v := ?_) (by simp only [List.getElem?_toArray, List.getElem?_cons_zero, List.getElem?_cons_succ] <;> rfl) (by kernel_rfl) (by kernel_rfl) (by kernel_rfl) (by intro _ _ _ h; exact h) (Or.inl ⟨by rfl, ?_⟩) (by assumption) ?_
  rotate_left
  · intro w _; go_simp; try with_reducible rfl
  try simp only [Act.put, List.setIfInBounds_toArray, List.set_cons_zero, List.set_cons_succ, Array.replicate]
  refine wpAnyH_take (i := 2) (v := ?_) (by simp only [List.getElem?_toArray, List.getElem?_cons_zero, List.getElem?_cons_succ] <;> rfl) (by kernel_rfl) (by kernel_rfl) (by kernel_rfl) (by intro _ _ _ h; exact h) (Or.inl ⟨by rfl, ?_⟩) (by assumption) ?_
  rotate_left
  · intro w hSS; have hcc := Row.cell (show Row _ g 25 [.int .i64 K, .int .i64 F, .int .i64 N, .slice xo l.length ko] from hSS) 2; simp only [List.getElem?_cons_succ, List.getElem?_cons_zero] at hcc; go_simp; try with_reducible rfl
  try simp only [Act.put, List.setIfInBounds_toArray, List.set_cons_zero, List.set_cons_succ, Array.replicate]
  refine wpAnyH_take (i := 4) (v := ?_) (by simp only [List.getElem?_toArray, List.getElem?_cons_zero, List.getElem?_cons_succ] <;> rfl) (by kernel_rfl) (by kernel_rfl) (by kernel_rfl) (by intro _ _ _ h; exact h) (Or.inl ⟨by rfl, ?_⟩) (by assumption) ?_
  rotate_left
  · intro w _; go_simp; try with_reducible rfl
  try simp only [Act.put, List.setIfInBounds_toArray, List.set_cons_zero, List.set_cons_succ, Array.replicate]
  refine wpAnyH_take (i := 5) (v := ?_) (by simp only [List.getElem?_toArray, List.getElem?_cons_zero, List.getElem?_cons_succ] <;> rfl) (by kernel_rfl) (by kernel_rfl) (by kernel_rfl) (by intro _ _ _ h; exact h) (Or.inl ⟨by rfl, ?_⟩) (by assumption) ?_
  rotate_left
  · intro w hSS; have hcc := Row.cell (show Row _ g 25 [.int .i64 K, .int .i64 F, .int .i64 N, .slice xo l.length ko] from hSS) 3; simp only [List.getElem?_cons_succ, List.getElem?_cons_zero] at hcc; go_simp; try with_reducible rfl
  try simp only [Act.put, List.setIfInBounds_toArray, List.set_cons_zero, List.set_cons_succ, Array.replicate]
  refine wpAnyH_ready (rs := [3]) (by kernel_rfl) (by simp) ?_
  refine AllReadyH.cons (by simp only [List.getElem?_toArray, List.getElem?_cons_zero, List.getElem?_cons_succ] <;> rfl) (fun K hK => ?_) ?_
  · go_simp
    refine hK.out _ _ (by exact Row.alloc hHeld _) (fun hHeld => ?_)
    clear hK K
    try simp only [Act.put, List.setIfInBounds_toArray, List.set_cons_zero, List.set_cons_succ, Array.replicate]
    refine wpAnyH_ready (rs := [6]) (by kernel_rfl) (by simp) ?_
    refine AllReadyH.cons (by simp only [List.getElem?_toArray, List.getElem?_cons_zero, List.getElem?_cons_succ] <;> rfl) (fun K hK => ?_) ?_
    · refine step_app_own Try.underlying23 info_byte (by with_unfolding_all rfl) (.tmp 53) (.tmp 55) rfl rfl (Row.new _ _ []) rfl ((H3.out.at' HB6.out (by omega)).below (balloc (Below.refl _ _).drew _)) (by omega) ?_; intro v7 w7 ho7 hb7
      refine hK.out _ _ (by exact Row.keep hHeld hb7) (fun hHeld => ?_)
      clear hK K
      try simp only [Act.put, List.setIfInBounds_toArray, List.set_cons_zero, List.set_cons_succ, Array.replicate]
      refine wpAnyH_ready (rs := [7]) (by kernel_rfl) (by simp) ?_
      refine AllReadyH.cons (by simp only [List.getElem?_toArray, List.getElem?_cons_zero, List.getElem?_cons_succ] <;> rfl) (fun K hK => ?_) ?_
      · go_simp; go_at_call 11; have hd7 := HD6.out.below (bstep (balloc (Below.refl _ _).drew _) hb7); refine (Crash_of p N _ l _ ⟨c, c, false, [], [], false, 1048576, -1, false⟩ hcr _ hd7 (dsk_sb hd7 ho7) (by simp; omega) (by simp)).mono ?_; rintro e w8 ⟨rfl, hd8, hu8⟩; try go_simp
        refine hK.out _ _ (by exact Upd.row hu8 hHeld (by omega)) (fun hHeld => ?_)
        clear hK K
        try simp only [Act.put, List.setIfInBounds_toArray, List.set_cons_zero, List.set_cons_succ, Array.replicate]
        refine wpAnyH_done (by kernel_rfl) ?_ _
        have hb08 := ub (bthen HB6.out (bstep (balloc (Below.refl _ _).drew _) hb7) (by have := HB6.out.size; omega)) hu8 (by omega) (by omega)
        go_wp2_with fail
        refine (Read_of p 0 _ c 0 rfl _ hd8 (by simp; omega)).mono ?_; rintro e w9 ⟨v9, rfl, ho9, hb9⟩
        have hb09 := bthen hb08 hb9 (by have := hb08.size; omega)
        have hN9 := Row.cell (Row.keep hHeld hb9) 2
        simp only [List.getElem?_cons_succ, List.getElem?_cons_zero] at hN9
        have hc9 := conv_run ho9.sh
        have hca := conv_run (H1.out.at' hb09 (by omega))
        have hcb := conv_run (H2.out.at' hb09 (by omega))
        clear hd8 hu8 hb08 ho9
        by_cases hN : 0 < N
        · rw [if_pos hN] at hc
          subst hc
          go_wp2_with (go_at_call 14; refine (lives14 _).mono ?_; rintro e w10 ⟨rfl, hb10⟩)
          go_ret
          rw [← hg] at hb09
          exact ⟨rfl, bthen hb09 hb10 (Nat.le_refl _)⟩
        · rw [if_neg hN] at hc
          subst hc
          go_wp2_with (go_at_call 14; refine (lives14 _).mono ?_; rintro e w10 ⟨rfl, hb10⟩)
          go_ret
          rw [← hg] at hb09
          exact ⟨rfl, bthen hb09 hb10 (Nat.le_refl _)⟩
      exact AllReadyH.nil
    exact AllReadyH.nil
  exact AllReadyH.nil
theorem DiskWhole_1 (av bv : Value) (a b : List UInt8) (K F N : Int) (ov : Value) (l : List UInt8) (w : World) (h1 : Sh w av a) (h2 : Sh w bv b) (h3 : Sh w ov l) (hsm : a.length + b.length ≤ 500000) (hl : l.length ≤ 140737488355328) (hF : bits .and .i64 F 1 = 1) :
    Calls Try.prog 4 #[av, bv, .agg #[.int .i64 K, .int .i64 F, .int .i64 N, ov]] w fun e w' => e = .returned (.bool true) ∧ Below w.heap.size w w' := by
  obtain ⟨xa, ka, rfl, -, -, -, h1⟩ := h1.open
  obtain ⟨xb, kb, rfl, -, -, -, h2⟩ := h2.open
  obtain ⟨xo, ko, rfl, -, -, -, h3⟩ := h3.open
  have H1 := Lib.hid h1
  have H2 := Lib.hid h2
  have H3 := Lib.hid h3
  clear h1 h2 h3
  obtain ⟨c, hc⟩ : ∃ c, c = if 0 < N then b else a := ⟨_, rfl⟩
  have hcr : PD.crash ⟨[], [], false, a, b, true, 1048576, -1, false⟩ N l = ⟨[], [], false, c, c, false, 1048576, -1, false⟩ := by
    have e1 : crashF a b true N l = c := by
      rw [hc]; unfold crashF
      by_cases hN : 0 < N
      · rw [if_pos hN, if_neg (by omega), if_neg (by simp)]
      · rw [if_neg hN, if_pos ⟨rfl, by omega⟩]
    have e2 : crashF [] [] false N l = [] := by unfold crashF; rw [if_neg (by simp), if_neg (by simp)]
    unfold PD.crash
    simp only [e1, e2]
  have hcl : c.length ≤ 500000 := by rw [hc]; split <;> omega
  have hsmI : ¬ (500000 : Int) < (a.length : Int) + (b.length : Int) := by omega
  go_enter Try.func4, Try.ntmps4
  go_upto_region 1 with fail
  have hR := Row.new w 25 [.int .i64 K, .int .i64 F, .int .i64 N, .slice xo l.length ko]
  have hbA : Below w.heap.size w (w.alloc (.cells [.int .i64 K, .int .i64 F, .int .i64 N, .slice xo l.length ko].toArray 25)) := balloc (Below.refl _ _) _
  rw [show ([.int .i64 K, .int .i64 F, .int .i64 N, .slice xo l.length ko] : List Value).toArray = #[.int .i64 K, .int .i64 F, .int .i64 N, .slice xo l.length ko] from rfl] at hR hbA
  generalize w.alloc (.cells #[.int .i64 K, .int .i64 F, .int .i64 N, .slice xo l.length ko] 25) = wA at *
  generalize hg : w.heap.size = g at *
  go_wp2_with fail
  refine (New_any 1048576 _).mono ?_; rintro e w1 ⟨rfl, hd1, hb1, hs1⟩
  have hd1 : Dsk w1 wA.heap.size ⟨[], [], false, [], [], false, 1048576, -1, false⟩ := hd1
  have hR1 := hR.keep hb1
  have hpg : g < wA.heap.size := hR.lt
  have hb01 := bthen hbA hb1 (by omega)
  generalize hp : wA.heap.size = p at *
  have hF1 := Row.cell hR1 1
  simp only [List.getElem?_cons_succ, List.getElem?_cons_zero] at hF1
  go_wp2_with (at_builtin; go_loud (refine app_own_w Try.underlying23 info_byte (by with_unfolding_all rfl) (.tmp 30) (.tmp 31) rfl rfl (Row.new w1 _ []) rfl ((H1.out.at' hb01 (by omega)).below (balloc (Below.refl _ _) _)) (by omega) ?_; intro v2 w2 ho2 hb2))
  have hb2 := bstep (balloc (Below.refl w1.heap.size w1) _) hb2
  have hd2 := hd1.below hb2
  have hR2 := hR1.keep hb2
  have hb02 := bthen hb01 hb2 (by omega)
  refine (Write_of p 1 _ a _ ⟨[], [], false, [], a, false, 1048576, -1, false⟩ 0 (write_ok _ _ _ rfl (by simp) (by simp) (by show ¬ (1048576 : Int) - ((0 + 0 : Nat) : Int) < (a.length : Int); omega)) _ hd2 (dsk_sb hd2 ho2) (by simp) (by simp) (by omega) (by simp)).mono ?_; rintro e w3 ⟨rfl, hd3, hu3⟩
  have hR3 := hu3.row hR2 (by omega)
  have hb03 := ub hb02 hu3 (by omega) (by omega)
  go_wp2_with fail
  refine (Sync_of p 1 _ ⟨[], [], false, a, a, false, 1048576, -1, false⟩ 0 (sync_ok _ _ rfl (by simp) (by simp)) _ hd3 (by simp) (by simp; omega) (by simp)).mono ?_; rintro e w4 ⟨rfl, hd4, hu4⟩
  have hR4 := hu4.row hR3 (by omega)
  have hb04 := ub hb03 hu4 (by omega) (by omega)
  go_wp2_with (at_builtin; go_loud (refine app_own_w Try.underlying23 info_byte (by with_unfolding_all rfl) (.tmp 44) (.tmp 45) rfl rfl (Row.new w4 _ []) rfl ((H2.out.at' hb04 (by omega)).below (balloc (Below.refl _ _) _)) (by omega) ?_; intro v5 w5 ho5 hb5))
  have hb5 := bstep (balloc (Below.refl w4.heap.size w4) _) hb5
  have hd5 := hd4.below hb5
  have hR5 := hR4.keep hb5
  have hb05 := bthen hb04 hb5 (by omega)
  refine (Replace_of p 1 _ b _ ⟨[], [], false, a, b, true, 1048576, -1, false⟩ 0 (replace_ok _ _ _ rfl (by simp) (by simp) (by simp [PD.tot]; omega)) _ hd5 (dsk_sb hd5 ho5) (by simp) (by simp; omega) (by omega) (by simp)).mono ?_; rintro e w6 ⟨rfl, hd6, hu6⟩
  have hR6 := hu6.row hR5 (by omega)
  have hb06 := ub hb05 hu6 (by omega) (by omega)
  clear hd1 hd2 hd3 hd4 hd5 hu3 hu4 hu6 hR hR1 hR2 hR3 hR4 hR5 hb01 hb02 hb03 hb04 hb05 hF1 ho2 ho5 hb1 hb2 hb5
  have HD6 := Lib.hid hd6
  have HB6 := Lib.hid hb06
  have HR6 := Lib.hid hR6
  clear hd6 hb06 hR6
  go_wp2_with fail
  refine wp_region_held_drew (S := fun w' => Row w' g 25 [.int .i64 K, .int .i64 F, .int .i64 N, .slice xo l.length ko]) (by kernel_rfl) (by exact Row.drew HR6.out) (fun hHeld => ?_)
  refine wpAnyH_take (i := 0) (v := ?_) (by simp only [List.getElem?_toArray, List.getElem?_cons_zero, List.getElem?_cons_succ] <;> rfl) (by kernel_rfl) (by kernel_rfl) (by kernel_rfl) (by intro _ _ _ h; exact h) (Or.inl ⟨by rfl, ?_⟩) (by assumption) ?_
  rotate_left
  · intro w _; go_simp; try with_reducible rfl
  try simp only [Act.put, List.setIfInBounds_toArray, List.set_cons_zero, List.set_cons_succ, Array.replicate]
  refine wpAnyH_take (i := 1) (v := ?_) (by simp only [List.getElem?_toArray, List.getElem?_cons_zero, List.getElem?_cons_succ] <;> rfl) (by kernel_rfl) (by kernel_rfl) (by kernel_rfl) (by intro _ _ _ h; exact h) (Or.inl ⟨by rfl, ?_⟩) (by assumption) ?_
  rotate_left
  · intro w _; go_simp; try with_reducible rfl
  try simp only [Act.put, List.setIfInBounds_toArray, List.set_cons_zero, List.set_cons_succ, Array.replicate]
  refine wpAnyH_take (i := 2) (v := ?_) (by simp only [List.getElem?_toArray, List.getElem?_cons_zero, List.getElem?_cons_succ] <;> rfl) (by kernel_rfl) (by kernel_rfl) (by kernel_rfl) (by intro _ _ _ h; exact h) (Or.inl ⟨by rfl, ?_⟩) (by assumption) ?_
  rotate_left
  · intro w hSS; have hcc := Row.cell (show Row _ g 25 [.int .i64 K, .int .i64 F, .int .i64 N, .slice xo l.length ko] from hSS) 2; simp only [List.getElem?_cons_succ, List.getElem?_cons_zero] at hcc; go_simp; try with_reducible rfl
  try simp only [Act.put, List.setIfInBounds_toArray, List.set_cons_zero, List.set_cons_succ, Array.replicate]
  refine wpAnyH_take (i := 4) (v := ?_) (by simp only [List.getElem?_toArray, List.getElem?_cons_zero, List.getElem?_cons_succ] <;> rfl) (by kernel_rfl) (by kernel_rfl) (by kernel_rfl) (by intro _ _ _ h; exact h) (Or.inl ⟨by rfl, ?_⟩) (by assumption) ?_
  rotate_left
  · intro w _; go_simp; try with_reducible rfl
  try simp only [Act.put, List.setIfInBounds_toArray, List.set_cons_zero, List.set_cons_succ, Array.replicate]
  refine wpAnyH_take (i := 5) (v := ?_) (by simp only [List.getElem?_toArray, List.getElem?_cons_zero, List.getElem?_cons_succ] <;> rfl) (by kernel_rfl) (by kernel_rfl) (by kernel_rfl) (by intro _ _ _ h; exact h) (Or.inl ⟨by rfl, ?_⟩) (by assumption) ?_
  rotate_left
  · intro w hSS; have hcc := Row.cell (show Row _ g 25 [.int .i64 K, .int .i64 F, .int .i64 N, .slice xo l.length ko] from hSS) 3; simp only [List.getElem?_cons_succ, List.getElem?_cons_zero] at hcc; go_simp; try with_reducible rfl
  try simp only [Act.put, List.setIfInBounds_toArray, List.set_cons_zero, List.set_cons_succ, Array.replicate]
  refine wpAnyH_ready (rs := [3]) (by kernel_rfl) (by simp) ?_
  refine AllReadyH.cons (by simp only [List.getElem?_toArray, List.getElem?_cons_zero, List.getElem?_cons_succ] <;> rfl) (fun K hK => ?_) ?_
  · go_simp
    refine hK.out _ _ (by exact Row.alloc hHeld _) (fun hHeld => ?_)
    clear hK K
    try simp only [Act.put, List.setIfInBounds_toArray, List.set_cons_zero, List.set_cons_succ, Array.replicate]
    refine wpAnyH_ready (rs := [6]) (by kernel_rfl) (by simp) ?_
    refine AllReadyH.cons (by simp only [List.getElem?_toArray, List.getElem?_cons_zero, List.getElem?_cons_succ] <;> rfl) (fun K hK => ?_) ?_
    · refine step_app_own Try.underlying23 info_byte (by with_unfolding_all rfl) (.tmp 53) (.tmp 55) rfl rfl (Row.new _ _ []) rfl ((H3.out.at' HB6.out (by omega)).below (balloc (Below.refl _ _).drew _)) (by omega) ?_; intro v7 w7 ho7 hb7
      refine hK.out _ _ (by exact Row.keep hHeld hb7) (fun hHeld => ?_)
      clear hK K
      try simp only [Act.put, List.setIfInBounds_toArray, List.set_cons_zero, List.set_cons_succ, Array.replicate]
      refine wpAnyH_ready (rs := [7]) (by kernel_rfl) (by simp) ?_
      refine AllReadyH.cons (by simp only [List.getElem?_toArray, List.getElem?_cons_zero, List.getElem?_cons_succ] <;> rfl) (fun K hK => ?_) ?_
      · go_simp; go_at_call 11; have hd7 := HD6.out.below (bstep (balloc (Below.refl _ _).drew _) hb7); refine (Crash_of p N _ l _ ⟨[], [], false, c, c, false, 1048576, -1, false⟩ hcr _ hd7 (dsk_sb hd7 ho7) (by simp; omega) (by simp)).mono ?_; rintro e w8 ⟨rfl, hd8, hu8⟩; try go_simp
        refine hK.out _ _ (by exact Upd.row hu8 hHeld (by omega)) (fun hHeld => ?_)
        clear hK K
        try simp only [Act.put, List.setIfInBounds_toArray, List.set_cons_zero, List.set_cons_succ, Array.replicate]
        refine wpAnyH_done (by kernel_rfl) ?_ _
        have hb08 := ub (bthen HB6.out (bstep (balloc (Below.refl _ _).drew _) hb7) (by have := HB6.out.size; omega)) hu8 (by omega) (by omega)
        go_wp2_with fail
        refine (Read_of p 1 _ c 0 rfl _ hd8 (by simp; omega)).mono ?_; rintro e w9 ⟨v9, rfl, ho9, hb9⟩
        have hb09 := bthen hb08 hb9 (by have := hb08.size; omega)
        have hN9 := Row.cell (Row.keep hHeld hb9) 2
        simp only [List.getElem?_cons_succ, List.getElem?_cons_zero] at hN9
        have hc9 := conv_run ho9.sh
        have hca := conv_run (H1.out.at' hb09 (by omega))
        have hcb := conv_run (H2.out.at' hb09 (by omega))
        clear hd8 hu8 hb08 ho9
        by_cases hN : 0 < N
        · rw [if_pos hN] at hc
          subst hc
          go_wp2_with (go_at_call 14; refine (lives14 _).mono ?_; rintro e w10 ⟨rfl, hb10⟩)
          go_ret
          rw [← hg] at hb09
          exact ⟨rfl, bthen hb09 hb10 (Nat.le_refl _)⟩
        · rw [if_neg hN] at hc
          subst hc
          go_wp2_with (go_at_call 14; refine (lives14 _).mono ?_; rintro e w10 ⟨rfl, hb10⟩)
          go_ret
          rw [← hg] at hb09
          exact ⟨rfl, bthen hb09 hb10 (Nat.le_refl _)⟩
      exact AllReadyH.nil
    exact AllReadyH.nil
  exact AllReadyH.nil
theorem DiskWhole_big (av bv : Value) (a b : List UInt8) (K F N : Int) (ov : Value) (l : List UInt8) (w : World) (h1 : Sh w av a) (h2 : Sh w bv b) (ha : a.length ≤ 140737488355328) (hb : b.length ≤ 140737488355328) (hsm : 500000 < a.length + b.length) :
    Calls Try.prog 4 #[av, bv, .agg #[.int .i64 K, .int .i64 F, .int .i64 N, ov]] w fun e w' => e = .returned (.bool true) ∧ Below w.heap.size w w' := by
  obtain ⟨xa, ka, rfl, -, -, -, h1⟩ := h1.open
  obtain ⟨xb, kb, rfl, -, -, -, h2⟩ := h2.open
  clear h1 h2
  have hsmI : (500000 : Int) < (a.length : Int) + (b.length : Int) := by omega
  go_enter Try.func4, Try.ntmps4
  go_upto_region 1 with fail
  have hbA : Below w.heap.size w (w.alloc (.cells #[.int .i64 K, .int .i64 F, .int .i64 N, ov] 25)) := balloc (Below.refl _ _) _
  first | (generalize w.alloc (.cells #[.int .i64 K, .int .i64 F, .int .i64 N, ov] 25) = wA at *) | skip
  go_wp2_with fail
  refine (New_any 1048576 _).mono ?_; rintro e w1 ⟨rfl, hd1, hb1, hs1⟩
  go_wp2_with fail
  go_ret
  exact ⟨rfl, bthen hbA hb1 (Nat.le_refl _)⟩
theorem DiskWhole_walk (av : Value) (a : List UInt8) (bv : Value) (b : List UInt8) (K F N : Int) (ov : Value) (l : List UInt8) (w : World) (h1 : Sh w av a) (ha : a.length ≤ 140737488355328) (h2 : Sh w bv b) (hb : b.length ≤ 140737488355328) (h3 : Sh w ov l) (hl : l.length ≤ 140737488355328) :
    Calls Try.prog 4 #[av, bv, .agg #[.int .i64 K, .int .i64 F, .int .i64 N, ov]] w fun e w' => e = .returned (.bool true) ∧ Below w.heap.size w w' := by
  by_cases hsm : a.length + b.length ≤ 500000
  · rcases and_one F with hF | hF
    · exact DiskWhole_0 av bv a b K F N ov l w h1 h2 h3 hsm hl hF
    · exact DiskWhole_1 av bv a b K F N ov l w h1 h2 h3 hsm hl hF
  · obtain ⟨xo, ko, rfl, -⟩ := h3.open
    exact DiskWhole_big av bv a b K F N _ l w h1 h2 ha hb (by omega)
end Go.Proofs.Ytadmjhlcdoghpac
