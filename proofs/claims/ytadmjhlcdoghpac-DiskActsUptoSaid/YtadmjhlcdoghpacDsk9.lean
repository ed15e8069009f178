/- The disk's laws: 'does'. (printed by gen/dsk9.py) -/
import Derived.Test.YtadmjhlcdoghpacDskS
namespace Go.Proofs.Ytadmjhlcdoghpac
set_option linter.unusedVariables false
set_option linter.unusedSimpArgs false
set_option linter.unnecessarySimpa false
open Go.RowKit
set_option maxRecDepth 100000
set_option maxHeartbeats 4000000

theorem refWrite_of (q : Nat) (n : Int) (vb : Value) (b : List UInt8) (R R' : RD) (e : Nat) (he : R.write n b = (R', e)) (w : World) (hR0 : Rdk w q R) (hsb : ∀ w', Upd q w w' → Sh w' vb b) (hbl : b.length ≤ 140737488355328) (hm : -9223372036854775808 < R.left ∧ R.left ≤ 9223372036854775807) (hs : R.sz ≤ 100000000000) (hlim : -1000000000000 ≤ R.lim ∧ R.lim ≤ 1000000000000) :
    Calls Try.prog 27 #[.pointer (some ⟨q, 0, none⟩), .int .i64 n, vb] w fun r w' => r = .returned (.int .i64 (e : Int)) ∧ Rdk w' q R' ∧ Upd q w w' := by
  have := refWrite_any q n vb b R w hR0 hsb hbl hm hs hlim
  rw [he] at this; exact this
theorem refReplace_of (q : Nat) (n : Int) (vb : Value) (b : List UInt8) (R R' : RD) (e : Nat) (he : R.replace n b = (R', e)) (w : World) (hR0 : Rdk w q R) (hsb : ∀ w', Upd q w w' → Sh w' vb b) (hbl : b.length ≤ 140737488355328) (hm : -9223372036854775808 < R.left ∧ R.left ≤ 9223372036854775807) (hs : R.sz ≤ 100000000000) (hlim : -1000000000000 ≤ R.lim ∧ R.lim ≤ 1000000000000) :
    Calls Try.prog 28 #[.pointer (some ⟨q, 0, none⟩), .int .i64 n, vb] w fun r w' => r = .returned (.int .i64 (e : Int)) ∧ Rdk w' q R' ∧ Upd q w w' := by
  have := refReplace_any q n vb b R w hR0 hsb hbl hm hs hlim
  rw [he] at this; exact this
theorem refSync_of (q : Nat) (n : Int) (R R' : RD) (e : Nat) (he : R.sync n = (R', e)) (w : World) (hR0 : Rdk w q R) (hm : -9223372036854775808 < R.left ∧ R.left ≤ 9223372036854775807) (hs : R.sz ≤ 100000000000) (hlim : -1000000000000 ≤ R.lim ∧ R.lim ≤ 1000000000000) :
    Calls Try.prog 29 #[.pointer (some ⟨q, 0, none⟩), .int .i64 n] w fun r w' => r = .returned (.int .i64 (e : Int)) ∧ Rdk w' q R' ∧ Upd q w w' := by
  have := refSync_any q n R w hR0 hm hs hlim
  rw [he] at this; exact this
theorem refRead_of (q : Nat) (n : Int) (R : RD) (l : List UInt8) (e : Nat) (he : R.read n = (l, e)) (w : World) (hR0 : Rdk w q R) (hs : R.sz ≤ 140737488355328) :
    Calls Try.prog 30 #[.pointer (some ⟨q, 0, none⟩), .int .i64 n] w fun r w' => ∃ v', r = .returned (.tuple #[v', .int .i64 (e : Int)]) ∧ Own w' w.heap.size 5 v' l ∧ Below w.heap.size w w' := by
  have := refRead_any q n R w hR0 hs
  rw [he] at this; exact this
theorem bytes_set (l : List UInt8) (j : Nat) (y : UInt8) : (bytes l).set j (.int .u8 y.toNat) = bytes (l.set j y) := by
  unfold bytes; rw [List.map_set]
theorem ownStored {w : World} {base e g cap : Nat} {l : List UInt8} (h : Own w base e (.slice (some ⟨g, 0, none⟩) l.length cap) l) (j : Nat) (y : UInt8) : Own (w.setCell ⟨g, j, none⟩ (.int .u8 y.toNat)) base e (.slice (some ⟨g, 0, none⟩) l.length cap) (l.set j y) := by
  have := (World.ownsRow.stored h j (.int .u8 y.toNat)).1
  rw [bytes_set] at this
  unfold Own
  rw [List.length_set]
  exact this
theorem ownByte {w : World} {base e g cap : Nat} {l : List UInt8} (h : Own w base e (.slice (some ⟨g, 0, none⟩) l.length cap) l) (j : Nat) (hj : j < l.length) : w.cell? ⟨g, j, none⟩ = some (.int .u8 ((l.getD j 0).toNat : Int)) := by
  rw [World.ownsRow.cellAt h j (by omega)]
  simp [bytes, List.getD, List.getElem?_eq_getElem hj]
theorem ownNotFrozen {w : World} {base e g cap : Nat} {l : List UInt8} (h : Own w base e (.slice (some ⟨g, 0, none⟩) l.length cap) l) (j : Nat) : w.frozen? ⟨g, j, none⟩ = false := World.ownsRow.frozenAt h j
theorem ownRowOf {w : World} {base e : Nat} {v : Value} {l : List UInt8} (h : Own w base e v l) (hl : 0 < l.length) : ∃ g cap, v = .slice (some ⟨g, 0, none⟩) l.length cap ∧ base ≤ g ∧ l.length ≤ cap ∧ cap ≤ maxLen := by
  rcases h.2 with ⟨h', h2⟩ | ⟨g, cap, cur, h', hb, hg, hnc, hcm, _⟩
  · omega
  · exact ⟨g, cap, h', hb, hnc, hcm⟩
theorem does_0 (p q : Nat) (S : PD) (R : RD) (K F N : Int) (B : List UInt8) (ov : Value) (B0 TT : Nat) (w : World) (hS : Dsk w p S) (hR : Rdk w q R) (hpq : p ≠ q) (hsim : Sim S R) (hp : B0 ≤ p) (hq : B0 ≤ q) (hB0 : B0 ≤ w.heap.size) (hsh : ∀ w', Below B0 w w' → Sh w' ov B) (hbl : B.length ≤ 140737488355328) (hbd : Bd R TT) (hTT : TT ≤ 1000000000) (hlim : 0 ≤ R.lim ∧ R.lim ≤ 1000000000000) (hleft : -1000000000000 ≤ R.left ∧ R.left ≤ 9223372036854775807) (hK : K = 0) :
    Calls Try.prog 17 #[.pointer (some ⟨p, 0, none⟩), .pointer (some ⟨q, 0, none⟩), .agg #[.int .i64 K, .int .i64 F, .int .i64 N, ov]] w fun e w' => e = .returned (.bool true) ∧ Dsk w' p (S.act ⟨K, F, N, B⟩) ∧ Rdk w' q (R.act ⟨K, F, N, B⟩) ∧ Below B0 w w' := by
  subst hK
  obtain ⟨xo, ko, rfl, -⟩ := (hsh w (Below.refl _ _)).open
  have hsz := hbd.sz
  have hSlim := hsim.lim
  have hSleft : S.left ≤ 9223372036854775807 := by rcases hsim.left with ⟨_, h, _⟩ | ⟨_, h⟩ <;> omega
  have hStot : S.n0.length + S.n1.length ≤ 100000000000 := by rw [hsim.n0, hsim.n1]; have := hbd.a0; have := hbd.a1; omega
  have hltp := hS.lt
  have hltq := hR.lt
  have HS := Lib.hid hS
  have HR := Lib.hid hR
  have HSH := Lib.hid hsh
  clear hS hR hsh
  obtain ⟨S1, e1, hS1⟩ : ∃ S1 e1, S.write F B = (S1, e1) := ⟨_, _, rfl⟩
  obtain ⟨R1, e2, hR1⟩ : ∃ R1 e2, R.write F B = (R1, e2) := ⟨_, _, rfl⟩
  have hee : e1 = e2 := by have := (hsim.write F B).1; rw [hS1, hR1] at this; exact this
  subst hee
  have eS : S.act ⟨0, F, N, B⟩ = S1 := by show (S.write F B).1 = S1; rw [hS1]
  have eR : R.act ⟨0, F, N, B⟩ = R1 := by show (R.write F B).1 = R1; rw [hR1]
  rw [eS, eR]
  clear eS eR hsim
  go_enter Try.func17, Try.ntmps17
  go_upto_region 1 with fail
  have hRA := Row.new w 25 [.int .i64 0, .int .i64 F, .int .i64 N, .slice xo B.length ko]
  have hbA : Below w.heap.size w (w.alloc (.cells [.int .i64 0, .int .i64 F, .int .i64 N, .slice xo B.length ko].toArray 25)) := balloc (Below.refl _ _) _
  rw [show ([.int .i64 0, .int .i64 F, .int .i64 N, .slice xo B.length ko] : List Value).toArray = #[.int .i64 0, .int .i64 F, .int .i64 N, .slice xo B.length ko] from rfl] at hRA hbA
  have hSA := HS.out.below hbA
  have hRdA := HR.out.below hbA
  generalize w.alloc (.cells #[.int .i64 0, .int .i64 F, .int .i64 N, .slice xo B.length ko] 25) = wA at *
  generalize hg : w.heap.size = g at *
  have hA1 := Row.cell hRA 1
  have hA2 := Row.cell hRA 2
  have hA3 := Row.cell hRA 3
  have hA0 := Row.cell hRA 0
  simp only [List.getElem?_cons_zero, List.getElem?_cons_succ] at hA0 hA1 hA2 hA3
  have hgA : g < wA.heap.size := hRA.lt
  have hbB : Below B0 w wA := hbA.mono hB0
  have hka := bkeep (balloc (Below.refl wA.heap.size wA) (.cells #[] 5)) hA3
  go_wp2_with (at_builtin; refine app_own_w Try.underlying23 info_byte (by with_unfolding_all rfl) (.tmp 12) (.tmp 14) rfl rfl (Row.new wA _ []) rfl (HSH.out _ (hbB.trans ((balloc (Below.refl _ _) _).mono (by omega)))) (by omega) ?_; intro v1 w1 ho1 hb1; have hb1' : Below wA.heap.size wA w1 := bstep (balloc (Below.refl _ _) _) hb1; have hK0 := bkeep hb1' hA0; have hK1 := bkeep hb1' hA1; have hK2 := bkeep hb1' hA2)
  have HS1 := Lib.hid (hSA.below hb1')
  have HR1 := Lib.hid (hRdA.below hb1')
  have HA1 := Lib.hid (hRA.keep hb1')
  have HB1 := Lib.hid (hbB.trans (hb1'.mono (by omega)))
  have HO1 := Lib.hid ho1
  have hg1 : g < w1.heap.size := HA1.out.lt
  clear hSA hRdA hRA hbA hbB hb1 hb1' ho1 hA0 hA1 hA2 hA3 hka
  refine wp_region_held_drew (S := fun w' => Row w' g 25 [.int .i64 0, .int .i64 F, .int .i64 N, .slice xo B.length ko]) (by kernel_rfl) (by exact Row.drew HA1.out) (fun hHeld => ?_)
  refine wpAnyH_take (i := 0) (v := ?_) (by simp only [List.getElem?_toArray, List.getElem?_cons_zero, List.getElem?_cons_succ] <;> rfl) (by kernel_rfl) (by kernel_rfl) (by kernel_rfl) (by intro _ _ _ h; exact h) (Or.inl ⟨by rfl, ?_⟩) (by assumption) ?_
  rotate_left
  · intro w _; go_simp; try with_reducible rfl
  try simp only [Act.put, List.setIfInBounds_toArray, List.set_cons_zero, List.set_cons_succ, Array.replicate]
  refine wpAnyH_take (i := 1) (v := ?_) (by simp only [List.getElem?_toArray, List.getElem?_cons_zero, List.getElem?_cons_succ] <;> rfl) (by kernel_rfl) (by kernel_rfl) (by kernel_rfl) (by intro _ _ _ h; exact h) (Or.inl ⟨by rfl, ?_⟩) (by assumption) ?_
  rotate_left
  · intro w _; go_simp; try with_reducible rfl
  try simp only [Act.put, List.setIfInBounds_toArray, List.set_cons_zero, List.set_cons_succ, Array.replicate]
  refine wpAnyH_take (i := 2) (v := ?_) (by simp only [List.getElem?_toArray, List.getElem?_cons_zero, List.getElem?_cons_succ] <;> rfl) (by kernel_rfl) (by kernel_rfl) (by kernel_rfl) (by intro _ _ _ h; exact h) (Or.inl ⟨by rfl, ?_⟩) (by assumption) ?_
  rotate_left
  · intro w hSS; have hcc := Row.cell (show Row _ g 25 [.int .i64 0, .int .i64 F, .int .i64 N, .slice xo B.length ko] from hSS) 1; simp only [List.getElem?_cons_succ, List.getElem?_cons_zero] at hcc; go_simp; try with_reducible rfl
  try simp only [Act.put, List.setIfInBounds_toArray, List.set_cons_zero, List.set_cons_succ, Array.replicate]
  refine wpAnyH_take (i := 3) (v := ?_) (by simp only [List.getElem?_toArray, List.getElem?_cons_zero, List.getElem?_cons_succ] <;> rfl) (by kernel_rfl) (by kernel_rfl) (by kernel_rfl) (by intro _ _ _ h; exact h) (Or.inl ⟨by rfl, ?_⟩) (by assumption) ?_
  rotate_left
  · intro w _; go_simp; try with_reducible rfl
  try simp only [Act.put, List.setIfInBounds_toArray, List.set_cons_zero, List.set_cons_succ, Array.replicate]
  refine wpAnyH_take (i := 5) (v := ?_) (by simp only [List.getElem?_toArray, List.getElem?_cons_zero, List.getElem?_cons_succ] <;> rfl) (by kernel_rfl) (by kernel_rfl) (by kernel_rfl) (by intro _ _ _ h; exact h) (Or.inl ⟨by rfl, ?_⟩) (by assumption) ?_
  rotate_left
  · intro w _; go_simp; try with_reducible rfl
  try simp only [Act.put, List.setIfInBounds_toArray, List.set_cons_zero, List.set_cons_succ, Array.replicate]
  refine wpAnyH_take (i := 6) (v := ?_) (by simp only [List.getElem?_toArray, List.getElem?_cons_zero, List.getElem?_cons_succ] <;> rfl) (by kernel_rfl) (by kernel_rfl) (by kernel_rfl) (by intro _ _ _ h; exact h) (Or.inl ⟨by rfl, ?_⟩) (by assumption) ?_
  rotate_left
  · intro w _; go_simp; try with_reducible rfl
  try simp only [Act.put, List.setIfInBounds_toArray, List.set_cons_zero, List.set_cons_succ, Array.replicate]
  refine wpAnyH_take (i := 7) (v := ?_) (by simp only [List.getElem?_toArray, List.getElem?_cons_zero, List.getElem?_cons_succ] <;> rfl) (by kernel_rfl) (by kernel_rfl) (by kernel_rfl) (by intro _ _ _ h; exact h) (Or.inl ⟨by rfl, ?_⟩) (by assumption) ?_
  rotate_left
  · intro w hSS; have hcc := Row.cell (show Row _ g 25 [.int .i64 0, .int .i64 F, .int .i64 N, .slice xo B.length ko] from hSS) 1; simp only [List.getElem?_cons_succ, List.getElem?_cons_zero] at hcc; go_simp; try with_reducible rfl
  try simp only [Act.put, List.setIfInBounds_toArray, List.set_cons_zero, List.set_cons_succ, Array.replicate]
  refine wpAnyH_take (i := 8) (v := ?_) (by simp only [List.getElem?_toArray, List.getElem?_cons_zero, List.getElem?_cons_succ] <;> rfl) (by kernel_rfl) (by kernel_rfl) (by kernel_rfl) (by intro _ _ _ h; exact h) (Or.inl ⟨by rfl, ?_⟩) (by assumption) ?_
  rotate_left
  · intro w _; go_simp; try with_reducible rfl
  try simp only [Act.put, List.setIfInBounds_toArray, List.set_cons_zero, List.set_cons_succ, Array.replicate]
  refine wpAnyH_take (i := 9) (v := ?_) (by simp only [List.getElem?_toArray, List.getElem?_cons_zero, List.getElem?_cons_succ] <;> rfl) (by kernel_rfl) (by kernel_rfl) (by kernel_rfl) (by intro _ _ _ h; exact h) (Or.inl ⟨by rfl, ?_⟩) (by assumption) ?_
  rotate_left
  · intro w hSS; have hcc := Row.cell (show Row _ g 25 [.int .i64 0, .int .i64 F, .int .i64 N, .slice xo B.length ko] from hSS) 3; simp only [List.getElem?_cons_succ, List.getElem?_cons_zero] at hcc; go_simp; try with_reducible rfl
  try simp only [Act.put, List.setIfInBounds_toArray, List.set_cons_zero, List.set_cons_succ, Array.replicate]
  refine wpAnyH_ready (rs := [4]) (by kernel_rfl) (by simp) ?_
  refine AllReadyH.cons (by simp only [List.getElem?_toArray, List.getElem?_cons_zero, List.getElem?_cons_succ] <;> rfl) (fun K hK => ?_) ?_
  · go_simp; go_at_call 9; have hdW := HS1.out.below (Below.refl w1.heap.size w1).drew; refine (Write_of p F _ B S S1 e1 hS1 _ hdW (dsk_sb hdW (HO1.out.below (Below.refl _ _).drew)) (by omega) (by omega) (by omega) (by omega)).mono ?_; rintro e w4 ⟨rfl, hd4, hu4⟩; try go_simp
    refine hK.out _ _ (by exact Upd.row hu4 hHeld (by omega)) (fun hHeld => ?_)
    clear hK K
    try simp only [Act.put, List.setIfInBounds_toArray, List.set_cons_zero, List.set_cons_succ, Array.replicate]
    refine wpAnyH_ready (rs := [10]) (by kernel_rfl) (by simp) ?_
    refine AllReadyH.cons (by simp only [List.getElem?_toArray, List.getElem?_cons_zero, List.getElem?_cons_succ] <;> rfl) (fun K hK => ?_) ?_
    · go_simp; go_at_call 27; have hb4 := ub (HB1.out.drew) hu4 hp (by omega); have hr4 := (HR1.out.below (Below.refl w1.heap.size w1).drew).upd hdW (Ne.symm hpq) hu4; refine (refWrite_of q F _ B R R1 e1 hR1 _ hr4 (fun w' hu => HSH.out w' (ub hb4 hu hq (by omega))) (by omega) (by omega) (by omega) (by omega)).mono ?_; rintro e w5 ⟨rfl, hr5, hu5⟩; try go_simp
      refine hK.out _ _ (by exact Upd.row hu5 hHeld (by omega)) (fun hHeld => ?_)
      clear hK K
      try simp only [Act.put, List.setIfInBounds_toArray, List.set_cons_zero, List.set_cons_succ, Array.replicate]
      refine wpAnyH_take (i := 11) (v := ?_) (by simp only [List.getElem?_toArray, List.getElem?_cons_zero, List.getElem?_cons_succ] <;> rfl) (by kernel_rfl) (by kernel_rfl) (by kernel_rfl) (by intro _ _ _ h; exact h) (Or.inl ⟨by rfl, ?_⟩) (by assumption) ?_
      rotate_left
      · intro w _; go_simp; try with_reducible rfl
      try simp only [Act.put, List.setIfInBounds_toArray, List.set_cons_zero, List.set_cons_succ, Array.replicate]
      refine wpAnyH_take (i := 12) (v := ?_) (by simp only [List.getElem?_toArray, List.getElem?_cons_zero, List.getElem?_cons_succ] <;> rfl) (by kernel_rfl) (by kernel_rfl) (by kernel_rfl) (by intro _ _ _ h; exact h) (Or.inl ⟨by rfl, ?_⟩) (by assumption) ?_
      rotate_left
      · intro w _; go_simp; try with_reducible rfl
      try simp only [Act.put, List.setIfInBounds_toArray, List.set_cons_zero, List.set_cons_succ, Array.replicate]
      refine wpAnyH_done (by kernel_rfl) ?_ _
      go_wp2_with fail
      go_ret
      exact ⟨rfl, hd4.upd hr4 hpq hu5, hr5, ub hb4 hu5 hq (by omega)⟩
    exact AllReadyH.nil
  exact AllReadyH.nil
theorem does_1 (p q : Nat) (S : PD) (R : RD) (K F N : Int) (B : List UInt8) (ov : Value) (B0 TT : Nat) (w : World) (hS : Dsk w p S) (hR : Rdk w q R) (hpq : p ≠ q) (hsim : Sim S R) (hp : B0 ≤ p) (hq : B0 ≤ q) (hB0 : B0 ≤ w.heap.size) (hsh : ∀ w', Below B0 w w' → Sh w' ov B) (hbl : B.length ≤ 140737488355328) (hbd : Bd R TT) (hTT : TT ≤ 1000000000) (hlim : 0 ≤ R.lim ∧ R.lim ≤ 1000000000000) (hleft : -1000000000000 ≤ R.left ∧ R.left ≤ 9223372036854775807) (hK : K = 1) :
    Calls Try.prog 17 #[.pointer (some ⟨p, 0, none⟩), .pointer (some ⟨q, 0, none⟩), .agg #[.int .i64 K, .int .i64 F, .int .i64 N, ov]] w fun e w' => e = .returned (.bool true) ∧ Dsk w' p (S.act ⟨K, F, N, B⟩) ∧ Rdk w' q (R.act ⟨K, F, N, B⟩) ∧ Below B0 w w' := by
  subst hK
  obtain ⟨xo, ko, rfl, -⟩ := (hsh w (Below.refl _ _)).open
  have hsz := hbd.sz
  have hSlim := hsim.lim
  have hSleft : S.left ≤ 9223372036854775807 := by rcases hsim.left with ⟨_, h, _⟩ | ⟨_, h⟩ <;> omega
  have hStot : S.n0.length + S.n1.length ≤ 100000000000 := by rw [hsim.n0, hsim.n1]; have := hbd.a0; have := hbd.a1; omega
  have hltp := hS.lt
  have hltq := hR.lt
  have HS := Lib.hid hS
  have HR := Lib.hid hR
  have HSH := Lib.hid hsh
  clear hS hR hsh
  obtain ⟨S1, e1, hS1⟩ : ∃ S1 e1, S.replace F B = (S1, e1) := ⟨_, _, rfl⟩
  obtain ⟨R1, e2, hR1⟩ : ∃ R1 e2, R.replace F B = (R1, e2) := ⟨_, _, rfl⟩
  have hee : e1 = e2 := by have := (hsim.replace F B).1; rw [hS1, hR1] at this; exact this
  subst hee
  have eS : S.act ⟨1, F, N, B⟩ = S1 := by show (S.replace F B).1 = S1; rw [hS1]
  have eR : R.act ⟨1, F, N, B⟩ = R1 := by show (R.replace F B).1 = R1; rw [hR1]
  rw [eS, eR]
  clear eS eR hsim
  go_enter Try.func17, Try.ntmps17
  go_upto_region 1 with fail
  have hRA := Row.new w 25 [.int .i64 1, .int .i64 F, .int .i64 N, .slice xo B.length ko]
  have hbA : Below w.heap.size w (w.alloc (.cells [.int .i64 1, .int .i64 F, .int .i64 N, .slice xo B.length ko].toArray 25)) := balloc (Below.refl _ _) _
  rw [show ([.int .i64 1, .int .i64 F, .int .i64 N, .slice xo B.length ko] : List Value).toArray = #[.int .i64 1, .int .i64 F, .int .i64 N, .slice xo B.length ko] from rfl] at hRA hbA
  have hSA := HS.out.below hbA
  have hRdA := HR.out.below hbA
  generalize w.alloc (.cells #[.int .i64 1, .int .i64 F, .int .i64 N, .slice xo B.length ko] 25) = wA at *
  generalize hg : w.heap.size = g at *
  have hA1 := Row.cell hRA 1
  have hA2 := Row.cell hRA 2
  have hA3 := Row.cell hRA 3
  have hA0 := Row.cell hRA 0
  simp only [List.getElem?_cons_zero, List.getElem?_cons_succ] at hA0 hA1 hA2 hA3
  have hgA : g < wA.heap.size := hRA.lt
  have hbB : Below B0 w wA := hbA.mono hB0
  have hka := bkeep (balloc (Below.refl wA.heap.size wA) (.cells #[] 5)) hA3
  go_wp2_with (at_builtin; refine app_own_w Try.underlying23 info_byte (by with_unfolding_all rfl) (.tmp 12) (.tmp 14) rfl rfl (Row.new wA _ []) rfl (HSH.out _ (hbB.trans ((balloc (Below.refl _ _) _).mono (by omega)))) (by omega) ?_; intro v1 w1 ho1 hb1; have hb1' : Below wA.heap.size wA w1 := bstep (balloc (Below.refl _ _) _) hb1; have hK0 := bkeep hb1' hA0; have hK1 := bkeep hb1' hA1; have hK2 := bkeep hb1' hA2)
  have HS1 := Lib.hid (hSA.below hb1')
  have HR1 := Lib.hid (hRdA.below hb1')
  have HA1 := Lib.hid (hRA.keep hb1')
  have HB1 := Lib.hid (hbB.trans (hb1'.mono (by omega)))
  have HO1 := Lib.hid ho1
  have hg1 : g < w1.heap.size := HA1.out.lt
  clear hSA hRdA hRA hbA hbB hb1 hb1' ho1 hA0 hA1 hA2 hA3 hka
  refine wp_region_held_drew (S := fun w' => Row w' g 25 [.int .i64 1, .int .i64 F, .int .i64 N, .slice xo B.length ko]) (by kernel_rfl) (by exact Row.drew HA1.out) (fun hHeld => ?_)
  refine wpAnyH_take (i := 0) (v := ?_) (by simp only [List.getElem?_toArray, List.getElem?_cons_zero, List.getElem?_cons_succ] <;> rfl) (by kernel_rfl) (by kernel_rfl) (by kernel_rfl) (by intro _ _ _ h; exact h) (Or.inl ⟨by rfl, ?_⟩) (by assumption) ?_
  rotate_left
  · intro w _; go_simp; try with_reducible rfl
  try simp only [Act.put, List.setIfInBounds_toArray, List.set_cons_zero, List.set_cons_succ, Array.replicate]
  refine wpAnyH_take (i := 1) (v := ?_) (by simp only [List.getElem?_toArray, List.getElem?_cons_zero, List.getElem?_cons_succ] <;> rfl) (by kernel_rfl) (by kernel_rfl) (by kernel_rfl) (by intro _ _ _ h; exact h) (Or.inl ⟨by rfl, ?_⟩) (by assumption) ?_
  rotate_left
  · intro w _; go_simp; try with_reducible rfl
  try simp only [Act.put, List.setIfInBounds_toArray, List.set_cons_zero, List.set_cons_succ, Array.replicate]
  refine wpAnyH_take (i := 2) (v := ?_) (by simp only [List.getElem?_toArray, List.getElem?_cons_zero, List.getElem?_cons_succ] <;> rfl) (by kernel_rfl) (by kernel_rfl) (by kernel_rfl) (by intro _ _ _ h; exact h) (Or.inl ⟨by rfl, ?_⟩) (by assumption) ?_
  rotate_left
  · intro w hSS; have hcc := Row.cell (show Row _ g 25 [.int .i64 1, .int .i64 F, .int .i64 N, .slice xo B.length ko] from hSS) 1; simp only [List.getElem?_cons_succ, List.getElem?_cons_zero] at hcc; go_simp; try with_reducible rfl
  try simp only [Act.put, List.setIfInBounds_toArray, List.set_cons_zero, List.set_cons_succ, Array.replicate]
  refine wpAnyH_take (i := 3) (v := ?_) (by simp only [List.getElem?_toArray, List.getElem?_cons_zero, List.getElem?_cons_succ] <;> rfl) (by kernel_rfl) (by kernel_rfl) (by kernel_rfl) (by intro _ _ _ h; exact h) (Or.inl ⟨by rfl, ?_⟩) (by assumption) ?_
  rotate_left
  · intro w _; go_simp; try with_reducible rfl
  try simp only [Act.put, List.setIfInBounds_toArray, List.set_cons_zero, List.set_cons_succ, Array.replicate]
  refine wpAnyH_take (i := 5) (v := ?_) (by simp only [List.getElem?_toArray, List.getElem?_cons_zero, List.getElem?_cons_succ] <;> rfl) (by kernel_rfl) (by kernel_rfl) (by kernel_rfl) (by intro _ _ _ h; exact h) (Or.inl ⟨by rfl, ?_⟩) (by assumption) ?_
  rotate_left
  · intro w _; go_simp; try with_reducible rfl
  try simp only [Act.put, List.setIfInBounds_toArray, List.set_cons_zero, List.set_cons_succ, Array.replicate]
  refine wpAnyH_take (i := 6) (v := ?_) (by simp only [List.getElem?_toArray, List.getElem?_cons_zero, List.getElem?_cons_succ] <;> rfl) (by kernel_rfl) (by kernel_rfl) (by kernel_rfl) (by intro _ _ _ h; exact h) (Or.inl ⟨by rfl, ?_⟩) (by assumption) ?_
  rotate_left
  · intro w _; go_simp; try with_reducible rfl
  try simp only [Act.put, List.setIfInBounds_toArray, List.set_cons_zero, List.set_cons_succ, Array.replicate]
  refine wpAnyH_take (i := 7) (v := ?_) (by simp only [List.getElem?_toArray, List.getElem?_cons_zero, List.getElem?_cons_succ] <;> rfl) (by kernel_rfl) (by kernel_rfl) (by kernel_rfl) (by intro _ _ _ h; exact h) (Or.inl ⟨by rfl, ?_⟩) (by assumption) ?_
  rotate_left
  · intro w hSS; have hcc := Row.cell (show Row _ g 25 [.int .i64 1, .int .i64 F, .int .i64 N, .slice xo B.length ko] from hSS) 1; simp only [List.getElem?_cons_succ, List.getElem?_cons_zero] at hcc; go_simp; try with_reducible rfl
  try simp only [Act.put, List.setIfInBounds_toArray, List.set_cons_zero, List.set_cons_succ, Array.replicate]
  refine wpAnyH_take (i := 8) (v := ?_) (by simp only [List.getElem?_toArray, List.getElem?_cons_zero, List.getElem?_cons_succ] <;> rfl) (by kernel_rfl) (by kernel_rfl) (by kernel_rfl) (by intro _ _ _ h; exact h) (Or.inl ⟨by rfl, ?_⟩) (by assumption) ?_
  rotate_left
  · intro w _; go_simp; try with_reducible rfl
  try simp only [Act.put, List.setIfInBounds_toArray, List.set_cons_zero, List.set_cons_succ, Array.replicate]
  refine wpAnyH_take (i := 9) (v := ?_) (by simp only [List.getElem?_toArray, List.getElem?_cons_zero, List.getElem?_cons_succ] <;> rfl) (by kernel_rfl) (by kernel_rfl) (by kernel_rfl) (by intro _ _ _ h; exact h) (Or.inl ⟨by rfl, ?_⟩) (by assumption) ?_
  rotate_left
  · intro w hSS; have hcc := Row.cell (show Row _ g 25 [.int .i64 1, .int .i64 F, .int .i64 N, .slice xo B.length ko] from hSS) 3; simp only [List.getElem?_cons_succ, List.getElem?_cons_zero] at hcc; go_simp; try with_reducible rfl
  try simp only [Act.put, List.setIfInBounds_toArray, List.set_cons_zero, List.set_cons_succ, Array.replicate]
  refine wpAnyH_ready (rs := [4]) (by kernel_rfl) (by simp) ?_
  refine AllReadyH.cons (by simp only [List.getElem?_toArray, List.getElem?_cons_zero, List.getElem?_cons_succ] <;> rfl) (fun K hK => ?_) ?_
  · go_simp; go_at_call 15; have hdW := HS1.out.below (Below.refl w1.heap.size w1).drew; refine (Replace_of p F _ B S S1 e1 hS1 _ hdW (dsk_sb hdW (HO1.out.below (Below.refl _ _).drew)) (by omega) (by omega) (by omega) (by omega)).mono ?_; rintro e w4 ⟨rfl, hd4, hu4⟩; try go_simp
    refine hK.out _ _ (by exact Upd.row hu4 hHeld (by omega)) (fun hHeld => ?_)
    clear hK K
    try simp only [Act.put, List.setIfInBounds_toArray, List.set_cons_zero, List.set_cons_succ, Array.replicate]
    refine wpAnyH_ready (rs := [10]) (by kernel_rfl) (by simp) ?_
    refine AllReadyH.cons (by simp only [List.getElem?_toArray, List.getElem?_cons_zero, List.getElem?_cons_succ] <;> rfl) (fun K hK => ?_) ?_
    · go_simp; go_at_call 28; have hb4 := ub (HB1.out.drew) hu4 hp (by omega); have hr4 := (HR1.out.below (Below.refl w1.heap.size w1).drew).upd hdW (Ne.symm hpq) hu4; refine (refReplace_of q F _ B R R1 e1 hR1 _ hr4 (fun w' hu => HSH.out w' (ub hb4 hu hq (by omega))) (by omega) (by omega) (by omega) (by omega)).mono ?_; rintro e w5 ⟨rfl, hr5, hu5⟩; try go_simp
      refine hK.out _ _ (by exact Upd.row hu5 hHeld (by omega)) (fun hHeld => ?_)
      clear hK K
      try simp only [Act.put, List.setIfInBounds_toArray, List.set_cons_zero, List.set_cons_succ, Array.replicate]
      refine wpAnyH_take (i := 11) (v := ?_) (by simp only [List.getElem?_toArray, List.getElem?_cons_zero, List.getElem?_cons_succ] <;> rfl) (by kernel_rfl) (by kernel_rfl) (by kernel_rfl) (by intro _ _ _ h; exact h) (Or.inl ⟨by rfl, ?_⟩) (by assumption) ?_
      rotate_left
      · intro w _; go_simp; try with_reducible rfl
      try simp only [Act.put, List.setIfInBounds_toArray, List.set_cons_zero, List.set_cons_succ, Array.replicate]
      refine wpAnyH_take (i := 12) (v := ?_) (by simp only [List.getElem?_toArray, List.getElem?_cons_zero, List.getElem?_cons_succ] <;> rfl) (by kernel_rfl) (by kernel_rfl) (by kernel_rfl) (by intro _ _ _ h; exact h) (Or.inl ⟨by rfl, ?_⟩) (by assumption) ?_
      rotate_left
      · intro w _; go_simp; try with_reducible rfl
      try simp only [Act.put, List.setIfInBounds_toArray, List.set_cons_zero, List.set_cons_succ, Array.replicate]
      refine wpAnyH_done (by kernel_rfl) ?_ _
      go_wp2_with fail
      go_ret
      exact ⟨rfl, hd4.upd hr4 hpq hu5, hr5, ub hb4 hu5 hq (by omega)⟩
    exact AllReadyH.nil
  exact AllReadyH.nil
theorem does_2 (p q : Nat) (S : PD) (R : RD) (K F N : Int) (B : List UInt8) (ov : Value) (B0 TT : Nat) (w : World) (hS : Dsk w p S) (hR : Rdk w q R) (hpq : p ≠ q) (hsim : Sim S R) (hp : B0 ≤ p) (hq : B0 ≤ q) (hB0 : B0 ≤ w.heap.size) (hsh : ∀ w', Below B0 w w' → Sh w' ov B) (hbl : B.length ≤ 140737488355328) (hbd : Bd R TT) (hTT : TT ≤ 1000000000) (hlim : 0 ≤ R.lim ∧ R.lim ≤ 1000000000000) (hleft : -1000000000000 ≤ R.left ∧ R.left ≤ 9223372036854775807) (hK : K = 2) :
    Calls Try.prog 17 #[.pointer (some ⟨p, 0, none⟩), .pointer (some ⟨q, 0, none⟩), .agg #[.int .i64 K, .int .i64 F, .int .i64 N, ov]] w fun e w' => e = .returned (.bool true) ∧ Dsk w' p (S.act ⟨K, F, N, B⟩) ∧ Rdk w' q (R.act ⟨K, F, N, B⟩) ∧ Below B0 w w' := by
  subst hK
  obtain ⟨xo, ko, rfl, -⟩ := (hsh w (Below.refl _ _)).open
  have hsz := hbd.sz
  have hSlim := hsim.lim
  have hSleft : S.left ≤ 9223372036854775807 := by rcases hsim.left with ⟨_, h, _⟩ | ⟨_, h⟩ <;> omega
  have hStot : S.n0.length + S.n1.length ≤ 100000000000 := by rw [hsim.n0, hsim.n1]; have := hbd.a0; have := hbd.a1; omega
  have hltp := hS.lt
  have hltq := hR.lt
  have HS := Lib.hid hS
  have HR := Lib.hid hR
  have HSH := Lib.hid hsh
  clear hS hR hsh
  obtain ⟨S1, e1, hS1⟩ : ∃ S1 e1, S.sync F = (S1, e1) := ⟨_, _, rfl⟩
  obtain ⟨R1, e2, hR1⟩ : ∃ R1 e2, R.sync F = (R1, e2) := ⟨_, _, rfl⟩
  have hee : e1 = e2 := by have := (hsim.sync F).1; rw [hS1, hR1] at this; exact this
  subst hee
  have eS : S.act ⟨2, F, N, B⟩ = S1 := by show (S.sync F).1 = S1; rw [hS1]
  have eR : R.act ⟨2, F, N, B⟩ = R1 := by show (R.sync F).1 = R1; rw [hR1]
  rw [eS, eR]
  clear eS eR hsim
  go_enter Try.func17, Try.ntmps17
  go_upto_region 1 with fail
  have hRA := Row.new w 25 [.int .i64 2, .int .i64 F, .int .i64 N, .slice xo B.length ko]
  have hbA : Below w.heap.size w (w.alloc (.cells [.int .i64 2, .int .i64 F, .int .i64 N, .slice xo B.length ko].toArray 25)) := balloc (Below.refl _ _) _
  rw [show ([.int .i64 2, .int .i64 F, .int .i64 N, .slice xo B.length ko] : List Value).toArray = #[.int .i64 2, .int .i64 F, .int .i64 N, .slice xo B.length ko] from rfl] at hRA hbA
  have hSA := HS.out.below hbA
  have hRdA := HR.out.below hbA
  generalize w.alloc (.cells #[.int .i64 2, .int .i64 F, .int .i64 N, .slice xo B.length ko] 25) = wA at *
  generalize hg : w.heap.size = g at *
  have hA1 := Row.cell hRA 1
  have hA2 := Row.cell hRA 2
  have hA3 := Row.cell hRA 3
  have hA0 := Row.cell hRA 0
  simp only [List.getElem?_cons_zero, List.getElem?_cons_succ] at hA0 hA1 hA2 hA3
  have hgA : g < wA.heap.size := hRA.lt
  have hbB : Below B0 w wA := hbA.mono hB0
  have hka := bkeep (balloc (Below.refl wA.heap.size wA) (.cells #[] 5)) hA3
  go_wp2_with (at_builtin; refine app_own_w Try.underlying23 info_byte (by with_unfolding_all rfl) (.tmp 12) (.tmp 14) rfl rfl (Row.new wA _ []) rfl (HSH.out _ (hbB.trans ((balloc (Below.refl _ _) _).mono (by omega)))) (by omega) ?_; intro v1 w1 ho1 hb1; have hb1' : Below wA.heap.size wA w1 := bstep (balloc (Below.refl _ _) _) hb1; have hK0 := bkeep hb1' hA0; have hK1 := bkeep hb1' hA1; have hK2 := bkeep hb1' hA2)
  have HS1 := Lib.hid (hSA.below hb1')
  have HR1 := Lib.hid (hRdA.below hb1')
  have HA1 := Lib.hid (hRA.keep hb1')
  have HB1 := Lib.hid (hbB.trans (hb1'.mono (by omega)))
  have HO1 := Lib.hid ho1
  have hg1 : g < w1.heap.size := HA1.out.lt
  clear hSA hRdA hRA hbA hbB hb1 hb1' ho1 hA0 hA1 hA2 hA3 hka
  refine wp_region_held_drew (S := fun w' => Row w' g 25 [.int .i64 2, .int .i64 F, .int .i64 N, .slice xo B.length ko]) (by kernel_rfl) (by exact Row.drew HA1.out) (fun hHeld => ?_)
  refine wpAnyH_take (i := 0) (v := ?_) (by simp only [List.getElem?_toArray, List.getElem?_cons_zero, List.getElem?_cons_succ] <;> rfl) (by kernel_rfl) (by kernel_rfl) (by kernel_rfl) (by intro _ _ _ h; exact h) (Or.inl ⟨by rfl, ?_⟩) (by assumption) ?_
  rotate_left
  · intro w _; go_simp; try with_reducible rfl
  try simp only [Act.put, List.setIfInBounds_toArray, List.set_cons_zero, List.set_cons_succ, Array.replicate]
  refine wpAnyH_take (i := 1) (v := ?_) (by simp only [List.getElem?_toArray, List.getElem?_cons_zero, List.getElem?_cons_succ] <;> rfl) (by kernel_rfl) (by kernel_rfl) (by kernel_rfl) (by intro _ _ _ h; exact h) (Or.inl ⟨by rfl, ?_⟩) (by assumption) ?_
  rotate_left
  · intro w _; go_simp; try with_reducible rfl
  try simp only [Act.put, List.setIfInBounds_toArray, List.set_cons_zero, List.set_cons_succ, Array.replicate]
  refine wpAnyH_take (i := 2) (v := ?_) (by simp only [List.getElem?_toArray, List.getElem?_cons_zero, List.getElem?_cons_succ] <;> rfl) (by kernel_rfl) (by kernel_rfl) (by kernel_rfl) (by intro _ _ _ h; exact h) (Or.inl ⟨by rfl, ?_⟩) (by assumption) ?_
  rotate_left
  · intro w hSS; have hcc := Row.cell (show Row _ g 25 [.int .i64 2, .int .i64 F, .int .i64 N, .slice xo B.length ko] from hSS) 1; simp only [List.getElem?_cons_succ, List.getElem?_cons_zero] at hcc; go_simp; try with_reducible rfl
  try simp only [Act.put, List.setIfInBounds_toArray, List.set_cons_zero, List.set_cons_succ, Array.replicate]
  refine wpAnyH_take (i := 4) (v := ?_) (by simp only [List.getElem?_toArray, List.getElem?_cons_zero, List.getElem?_cons_succ] <;> rfl) (by kernel_rfl) (by kernel_rfl) (by kernel_rfl) (by intro _ _ _ h; exact h) (Or.inl ⟨by rfl, ?_⟩) (by assumption) ?_
  rotate_left
  · intro w _; go_simp; try with_reducible rfl
  try simp only [Act.put, List.setIfInBounds_toArray, List.set_cons_zero, List.set_cons_succ, Array.replicate]
  refine wpAnyH_take (i := 5) (v := ?_) (by simp only [List.getElem?_toArray, List.getElem?_cons_zero, List.getElem?_cons_succ] <;> rfl) (by kernel_rfl) (by kernel_rfl) (by kernel_rfl) (by intro _ _ _ h; exact h) (Or.inl ⟨by rfl, ?_⟩) (by assumption) ?_
  rotate_left
  · intro w _; go_simp; try with_reducible rfl
  try simp only [Act.put, List.setIfInBounds_toArray, List.set_cons_zero, List.set_cons_succ, Array.replicate]
  refine wpAnyH_take (i := 6) (v := ?_) (by simp only [List.getElem?_toArray, List.getElem?_cons_zero, List.getElem?_cons_succ] <;> rfl) (by kernel_rfl) (by kernel_rfl) (by kernel_rfl) (by intro _ _ _ h; exact h) (Or.inl ⟨by rfl, ?_⟩) (by assumption) ?_
  rotate_left
  · intro w hSS; have hcc := Row.cell (show Row _ g 25 [.int .i64 2, .int .i64 F, .int .i64 N, .slice xo B.length ko] from hSS) 1; simp only [List.getElem?_cons_succ, List.getElem?_cons_zero] at hcc; go_simp; try with_reducible rfl
  try simp only [Act.put, List.setIfInBounds_toArray, List.set_cons_zero, List.set_cons_succ, Array.replicate]
  refine wpAnyH_ready (rs := [3]) (by kernel_rfl) (by simp) ?_
  refine AllReadyH.cons (by simp only [List.getElem?_toArray, List.getElem?_cons_zero, List.getElem?_cons_succ] <;> rfl) (fun K hK => ?_) ?_
  · go_simp; go_at_call 10; have hdW := HS1.out.below (Below.refl w1.heap.size w1).drew; refine (Sync_of p F S S1 e1 hS1 _ hdW (by omega) (by omega) (by omega)).mono ?_; rintro e w4 ⟨rfl, hd4, hu4⟩; try go_simp
    refine hK.out _ _ (by exact Upd.row hu4 hHeld (by omega)) (fun hHeld => ?_)
    clear hK K
    try simp only [Act.put, List.setIfInBounds_toArray, List.set_cons_zero, List.set_cons_succ, Array.replicate]
    refine wpAnyH_ready (rs := [7]) (by kernel_rfl) (by simp) ?_
    refine AllReadyH.cons (by simp only [List.getElem?_toArray, List.getElem?_cons_zero, List.getElem?_cons_succ] <;> rfl) (fun K hK => ?_) ?_
    · go_simp; go_at_call 29; have hb4 := ub (HB1.out.drew) hu4 hp (by omega); have hr4 := (HR1.out.below (Below.refl w1.heap.size w1).drew).upd hdW (Ne.symm hpq) hu4; refine (refSync_of q F R R1 e1 hR1 _ hr4 (by omega) (by omega) (by omega)).mono ?_; rintro e w5 ⟨rfl, hr5, hu5⟩; try go_simp
      refine hK.out _ _ (by exact Upd.row hu5 hHeld (by omega)) (fun hHeld => ?_)
      clear hK K
      try simp only [Act.put, List.setIfInBounds_toArray, List.set_cons_zero, List.set_cons_succ, Array.replicate]
      refine wpAnyH_take (i := 8) (v := ?_) (by simp only [List.getElem?_toArray, List.getElem?_cons_zero, List.getElem?_cons_succ] <;> rfl) (by kernel_rfl) (by kernel_rfl) (by kernel_rfl) (by intro _ _ _ h; exact h) (Or.inl ⟨by rfl, ?_⟩) (by assumption) ?_
      rotate_left
      · intro w _; go_simp; try with_reducible rfl
      try simp only [Act.put, List.setIfInBounds_toArray, List.set_cons_zero, List.set_cons_succ, Array.replicate]
      refine wpAnyH_take (i := 9) (v := ?_) (by simp only [List.getElem?_toArray, List.getElem?_cons_zero, List.getElem?_cons_succ] <;> rfl) (by kernel_rfl) (by kernel_rfl) (by kernel_rfl) (by intro _ _ _ h; exact h) (Or.inl ⟨by rfl, ?_⟩) (by assumption) ?_
      rotate_left
      · intro w _; go_simp; try with_reducible rfl
      try simp only [Act.put, List.setIfInBounds_toArray, List.set_cons_zero, List.set_cons_succ, Array.replicate]
      refine wpAnyH_done (by kernel_rfl) ?_ _
      go_wp2_with fail
      go_ret
      exact ⟨rfl, hd4.upd hr4 hpq hu5, hr5, ub hb4 hu5 hq (by omega)⟩
    exact AllReadyH.nil
  exact AllReadyH.nil
theorem does_4 (p q : Nat) (S : PD) (R : RD) (K F N : Int) (B : List UInt8) (ov : Value) (B0 TT : Nat) (w : World) (hS : Dsk w p S) (hR : Rdk w q R) (hpq : p ≠ q) (hsim : Sim S R) (hp : B0 ≤ p) (hq : B0 ≤ q) (hB0 : B0 ≤ w.heap.size) (hsh : ∀ w', Below B0 w w' → Sh w' ov B) (hbl : B.length ≤ 140737488355328) (hbd : Bd R TT) (hTT : TT ≤ 1000000000) (hlim : 0 ≤ R.lim ∧ R.lim ≤ 1000000000000) (hleft : -1000000000000 ≤ R.left ∧ R.left ≤ 9223372036854775807) (hK : K = 4) :
    Calls Try.prog 17 #[.pointer (some ⟨p, 0, none⟩), .pointer (some ⟨q, 0, none⟩), .agg #[.int .i64 K, .int .i64 F, .int .i64 N, ov]] w fun e w' => e = .returned (.bool true) ∧ Dsk w' p (S.act ⟨K, F, N, B⟩) ∧ Rdk w' q (R.act ⟨K, F, N, B⟩) ∧ Below B0 w w' := by
  subst hK
  obtain ⟨xo, ko, rfl, -⟩ := (hsh w (Below.refl _ _)).open
  have hsz := hbd.sz
  have hSlim := hsim.lim
  have hSleft : S.left ≤ 9223372036854775807 := by rcases hsim.left with ⟨_, h, _⟩ | ⟨_, h⟩ <;> omega
  have hStot : S.n0.length + S.n1.length ≤ 100000000000 := by rw [hsim.n0, hsim.n1]; have := hbd.a0; have := hbd.a1; omega
  have hltp := hS.lt
  have hltq := hR.lt
  have HS := Lib.hid hS
  have HR := Lib.hid hR
  have HSH := Lib.hid hsh
  clear hS hR hsh
  show Calls _ _ _ _ fun e w' => e = .returned (.bool true) ∧ Dsk w' p { S with left := if N < 0 then 0 else N } ∧ Rdk w' q { R with armed := true, left := if N < 0 then 0 else N } ∧ Below B0 w w'
  obtain ⟨S1, hS1⟩ : ∃ S1, ({ S with left := if N < 0 then 0 else N } : PD) = S1 := ⟨_, rfl⟩
  obtain ⟨R1, hR1⟩ : ∃ R1, ({ R with armed := true, left := if N < 0 then 0 else N } : RD) = R1 := ⟨_, rfl⟩
  rw [hS1, hR1]
  have HS1E := Lib.hid hS1
  have HR1E := Lib.hid hR1
  clear hS1 hR1
  go_enter Try.func17, Try.ntmps17
  go_upto_region 1 with fail
  have hRA := Row.new w 25 [.int .i64 4, .int .i64 F, .int .i64 N, .slice xo B.length ko]
  have hbA : Below w.heap.size w (w.alloc (.cells [.int .i64 4, .int .i64 F, .int .i64 N, .slice xo B.length ko].toArray 25)) := balloc (Below.refl _ _) _
  rw [show ([.int .i64 4, .int .i64 F, .int .i64 N, .slice xo B.length ko] : List Value).toArray = #[.int .i64 4, .int .i64 F, .int .i64 N, .slice xo B.length ko] from rfl] at hRA hbA
  have hSA := HS.out.below hbA
  have hRdA := HR.out.below hbA
  generalize w.alloc (.cells #[.int .i64 4, .int .i64 F, .int .i64 N, .slice xo B.length ko] 25) = wA at *
  generalize hg : w.heap.size = g at *
  have hA1 := Row.cell hRA 1
  have hA2 := Row.cell hRA 2
  have hA3 := Row.cell hRA 3
  have hA0 := Row.cell hRA 0
  simp only [List.getElem?_cons_zero, List.getElem?_cons_succ] at hA0 hA1 hA2 hA3
  have hgA : g < wA.heap.size := hRA.lt
  have hbB : Below B0 w wA := hbA.mono hB0
  have hka := bkeep (balloc (Below.refl wA.heap.size wA) (.cells #[] 5)) hA3
  go_wp2_with (at_builtin; refine app_own_w Try.underlying23 info_byte (by with_unfolding_all rfl) (.tmp 12) (.tmp 14) rfl rfl (Row.new wA _ []) rfl (HSH.out _ (hbB.trans ((balloc (Below.refl _ _) _).mono (by omega)))) (by omega) ?_; intro v1 w1 ho1 hb1; have hb1' : Below wA.heap.size wA w1 := bstep (balloc (Below.refl _ _) _) hb1; have hK0 := bkeep hb1' hA0; have hK1 := bkeep hb1' hA1; have hK2 := bkeep hb1' hA2)
  have HS1 := Lib.hid (hSA.below hb1')
  have HR1 := Lib.hid (hRdA.below hb1')
  have HA1 := Lib.hid (hRA.keep hb1')
  have HB1 := Lib.hid (hbB.trans (hb1'.mono (by omega)))
  have HO1 := Lib.hid ho1
  have hg1 : g < w1.heap.size := HA1.out.lt
  clear hSA hRdA hRA hbA hbB hb1 hb1' ho1 hA0 hA1 hA2 hA3 hka
  refine (Arm_dsk p N S _ HS1.out).mono ?_; rw [HS1E.out]; rintro e w4 ⟨rfl, hd4, hu4⟩
  have hA4 := hu4.row HA1.out (by omega)
  have hN4 := Row.cell hA4 2
  simp only [List.getElem?_cons_zero, List.getElem?_cons_succ] at hN4
  have hb4 := ub HB1.out hu4 hp (by omega)
  have hr4 := HR1.out.upd HS1.out (Ne.symm hpq) hu4
  go_wp2_with fail
  refine (refArm_any q N R _ hr4).mono ?_; rw [HR1E.out]; rintro e w5 ⟨rfl, hr5, hu5⟩
  go_wp2_with fail
  go_ret
  exact ⟨rfl, hd4.upd hr4 hpq hu5, hr5, ub hb4 hu5 hq (by omega)⟩
theorem does_x (p q : Nat) (S : PD) (R : RD) (K F N : Int) (B : List UInt8) (ov : Value) (B0 TT : Nat) (w : World) (hS : Dsk w p S) (hR : Rdk w q R) (hpq : p ≠ q) (hsim : Sim S R) (hp : B0 ≤ p) (hq : B0 ≤ q) (hB0 : B0 ≤ w.heap.size) (hsh : ∀ w', Below B0 w w' → Sh w' ov B) (hbl : B.length ≤ 140737488355328) (hbd : Bd R TT) (hTT : TT ≤ 1000000000) (hlim : 0 ≤ R.lim ∧ R.lim ≤ 1000000000000) (hleft : -1000000000000 ≤ R.left ∧ R.left ≤ 9223372036854775807) (hk0 : K ≠ 0) (hk1 : K ≠ 1) (hk2 : K ≠ 2) (hk3 : K ≠ 3) (hk4 : K ≠ 4) (hk5 : K ≠ 5) :
    Calls Try.prog 17 #[.pointer (some ⟨p, 0, none⟩), .pointer (some ⟨q, 0, none⟩), .agg #[.int .i64 K, .int .i64 F, .int .i64 N, ov]] w fun e w' => e = .returned (.bool true) ∧ Dsk w' p (S.act ⟨K, F, N, B⟩) ∧ Rdk w' q (R.act ⟨K, F, N, B⟩) ∧ Below B0 w w' := by
  obtain ⟨xo, ko, rfl, -⟩ := (hsh w (Below.refl _ _)).open
  have hsz := hbd.sz
  have hSlim := hsim.lim
  have hSleft : S.left ≤ 9223372036854775807 := by rcases hsim.left with ⟨_, h, _⟩ | ⟨_, h⟩ <;> omega
  have hStot : S.n0.length + S.n1.length ≤ 100000000000 := by rw [hsim.n0, hsim.n1]; have := hbd.a0; have := hbd.a1; omega
  have hltp := hS.lt
  have hltq := hR.lt
  have HS := Lib.hid hS
  have HR := Lib.hid hR
  have HSH := Lib.hid hsh
  clear hS hR hsh
  have eS : S.act ⟨K, F, N, B⟩ = S := by unfold PD.act; rw [if_neg hk0, if_neg hk1, if_neg hk2, if_neg hk4]
  have eR : R.act ⟨K, F, N, B⟩ = R := by unfold RD.act; rw [if_neg hk0, if_neg hk1, if_neg hk2, if_neg hk4]
  rw [eS, eR]
  clear eS eR
  have hq0 : (K == 0) = false := by rw [beq_eq_false_iff_ne]; exact hk0
  have hq1 : (K == 1) = false := by rw [beq_eq_false_iff_ne]; exact hk1
  have hq2 : (K == 2) = false := by rw [beq_eq_false_iff_ne]; exact hk2
  have hq3 : (K == 3) = false := by rw [beq_eq_false_iff_ne]; exact hk3
  have hq4 : (K == 4) = false := by rw [beq_eq_false_iff_ne]; exact hk4
  have hq5 : (K == 5) = false := by rw [beq_eq_false_iff_ne]; exact hk5
  go_enter Try.func17, Try.ntmps17
  go_upto_region 1 with fail
  have hRA := Row.new w 25 [.int .i64 K, .int .i64 F, .int .i64 N, .slice xo B.length ko]
  have hbA : Below w.heap.size w (w.alloc (.cells [.int .i64 K, .int .i64 F, .int .i64 N, .slice xo B.length ko].toArray 25)) := balloc (Below.refl _ _) _
  rw [show ([.int .i64 K, .int .i64 F, .int .i64 N, .slice xo B.length ko] : List Value).toArray = #[.int .i64 K, .int .i64 F, .int .i64 N, .slice xo B.length ko] from rfl] at hRA hbA
  have hSA := HS.out.below hbA
  have hRdA := HR.out.below hbA
  generalize w.alloc (.cells #[.int .i64 K, .int .i64 F, .int .i64 N, .slice xo B.length ko] 25) = wA at *
  generalize hg : w.heap.size = g at *
  have hA1 := Row.cell hRA 1
  have hA2 := Row.cell hRA 2
  have hA3 := Row.cell hRA 3
  have hA0 := Row.cell hRA 0
  simp only [List.getElem?_cons_zero, List.getElem?_cons_succ] at hA0 hA1 hA2 hA3
  have hgA : g < wA.heap.size := hRA.lt
  have hbB : Below B0 w wA := hbA.mono hB0
  have hka := bkeep (balloc (Below.refl wA.heap.size wA) (.cells #[] 5)) hA3
  go_wp2_with (at_builtin; refine app_own_w Try.underlying23 info_byte (by with_unfolding_all rfl) (.tmp 12) (.tmp 14) rfl rfl (Row.new wA _ []) rfl (HSH.out _ (hbB.trans ((balloc (Below.refl _ _) _).mono (by omega)))) (by omega) ?_; intro v1 w1 ho1 hb1; have hb1' : Below wA.heap.size wA w1 := bstep (balloc (Below.refl _ _) _) hb1; have hK0 := bkeep hb1' hA0; have hK1 := bkeep hb1' hA1; have hK2 := bkeep hb1' hA2)
  have HS1 := Lib.hid (hSA.below hb1')
  have HR1 := Lib.hid (hRdA.below hb1')
  have HA1 := Lib.hid (hRA.keep hb1')
  have HB1 := Lib.hid (hbB.trans (hb1'.mono (by omega)))
  have HO1 := Lib.hid ho1
  have hg1 : g < w1.heap.size := HA1.out.lt
  clear hSA hRdA hRA hbA hbB hb1 hb1' ho1 hA0 hA1 hA2 hA3 hka
  go_ret
  exact ⟨rfl, HS1.out, HR1.out, HB1.out⟩
theorem does_3 (p q : Nat) (S : PD) (R : RD) (K F N : Int) (B : List UInt8) (ov : Value) (B0 TT : Nat) (w : World) (hS : Dsk w p S) (hR : Rdk w q R) (hpq : p ≠ q) (hsim : Sim S R) (hp : B0 ≤ p) (hq : B0 ≤ q) (hB0 : B0 ≤ w.heap.size) (hsh : ∀ w', Below B0 w w' → Sh w' ov B) (hbl : B.length ≤ 140737488355328) (hbd : Bd R TT) (hTT : TT ≤ 1000000000) (hlim : 0 ≤ R.lim ∧ R.lim ≤ 1000000000000) (hleft : -1000000000000 ≤ R.left ∧ R.left ≤ 9223372036854775807) (hK : K = 3) :
    Calls Try.prog 17 #[.pointer (some ⟨p, 0, none⟩), .pointer (some ⟨q, 0, none⟩), .agg #[.int .i64 K, .int .i64 F, .int .i64 N, ov]] w fun e w' => e = .returned (.bool true) ∧ Dsk w' p (S.act ⟨K, F, N, B⟩) ∧ Rdk w' q (R.act ⟨K, F, N, B⟩) ∧ Below B0 w w' := by
  subst hK
  obtain ⟨xo, ko, rfl, -⟩ := (hsh w (Below.refl _ _)).open
  have hsz := hbd.sz
  have hSlim := hsim.lim
  have hSleft : S.left ≤ 9223372036854775807 := by rcases hsim.left with ⟨_, h, _⟩ | ⟨_, h⟩ <;> omega
  have hStot : S.n0.length + S.n1.length ≤ 100000000000 := by rw [hsim.n0, hsim.n1]; have := hbd.a0; have := hbd.a1; omega
  have hltp := hS.lt
  have hltq := hR.lt
  have HS := Lib.hid hS
  have HR := Lib.hid hR
  have HSH := Lib.hid hsh
  clear hS hR hsh
  obtain ⟨l, e1, hS1⟩ : ∃ l e1, S.read F = (l, e1) := ⟨_, _, rfl⟩
  have hR1 : R.read F = (l, e1) := by rw [← hsim.read F]; exact hS1
  show Calls _ _ _ _ fun e w' => e = .returned (.bool true) ∧ Dsk w' p S ∧ Rdk w' q R ∧ Below B0 w w'
  clear hsim
  go_enter Try.func17, Try.ntmps17
  go_upto_region 1 with fail
  have hRA := Row.new w 25 [.int .i64 3, .int .i64 F, .int .i64 N, .slice xo B.length ko]
  have hbA : Below w.heap.size w (w.alloc (.cells [.int .i64 3, .int .i64 F, .int .i64 N, .slice xo B.length ko].toArray 25)) := balloc (Below.refl _ _) _
  rw [show ([.int .i64 3, .int .i64 F, .int .i64 N, .slice xo B.length ko] : List Value).toArray = #[.int .i64 3, .int .i64 F, .int .i64 N, .slice xo B.length ko] from rfl] at hRA hbA
  have hSA := HS.out.below hbA
  have hRdA := HR.out.below hbA
  generalize w.alloc (.cells #[.int .i64 3, .int .i64 F, .int .i64 N, .slice xo B.length ko] 25) = wA at *
  generalize hg : w.heap.size = g at *
  have hA1 := Row.cell hRA 1
  have hA2 := Row.cell hRA 2
  have hA3 := Row.cell hRA 3
  have hA0 := Row.cell hRA 0
  simp only [List.getElem?_cons_zero, List.getElem?_cons_succ] at hA0 hA1 hA2 hA3
  have hgA : g < wA.heap.size := hRA.lt
  have hbB : Below B0 w wA := hbA.mono hB0
  have hka := bkeep (balloc (Below.refl wA.heap.size wA) (.cells #[] 5)) hA3
  go_wp2_with (at_builtin; refine app_own_w Try.underlying23 info_byte (by with_unfolding_all rfl) (.tmp 12) (.tmp 14) rfl rfl (Row.new wA _ []) rfl (HSH.out _ (hbB.trans ((balloc (Below.refl _ _) _).mono (by omega)))) (by omega) ?_; intro v1 w1 ho1 hb1; have hb1' : Below wA.heap.size wA w1 := bstep (balloc (Below.refl _ _) _) hb1; have hK0 := bkeep hb1' hA0; have hK1 := bkeep hb1' hA1; have hK2 := bkeep hb1' hA2)
  have HS1 := Lib.hid (hSA.below hb1')
  have HR1 := Lib.hid (hRdA.below hb1')
  have HA1 := Lib.hid (hRA.keep hb1')
  have HB1 := Lib.hid (hbB.trans (hb1'.mono (by omega)))
  have HO1 := Lib.hid ho1
  have hg1 : g < w1.heap.size := HA1.out.lt
  clear hSA hRdA hRA hbA hbB hb1 hb1' ho1 hA0 hA1 hA2 hA3 hka
  refine (Read_of p F S l e1 hS1 _ HS1.out (by omega)).mono ?_; rintro e w2 ⟨v2, rfl, ho2, hb2⟩
  have hN4 := Row.cell (HA1.out.keep hb2) 1
  simp only [List.getElem?_cons_zero, List.getElem?_cons_succ] at hN4
  go_wp2_with fail
  refine (refRead_of q F R l e1 hR1 _ (HR1.out.below hb2) (by omega)).mono ?_; rintro e w3 ⟨v3, rfl, ho3, hb3⟩
  have hb13 : Below w1.heap.size w1 w3 := bthen hb2 hb3 (Nat.le_refl _)
  have ho23 := ho2.below hb3
  by_cases hl0 : l.length = 0
  · obtain ⟨x2, k2, rfl, -⟩ := ho23.sh.open
    obtain ⟨x3, k3, rfl, -⟩ := ho3.sh.open
    have hc2 := conv_run ho23.sh
    have hc3 := conv_run ho3.sh
    clear ho2 ho3 ho23 hb2 hb3
    rw [hl0] at hc2 hc3 ⊢
    go_wp2_with fail
    go_ret
    exact ⟨rfl, HS1.out.below hb13, HR1.out.below hb13, HB1.out.trans (hb13.mono (by omega))⟩
  · obtain ⟨g2, c2, rfl, hg2, -, -⟩ := ownRowOf ho23 (by omega)
    obtain ⟨g3, c3, rfl, hg3, -, -⟩ := ownRowOf ho3 (by omega)
    have hne : g2 ≠ g3 := by have := (World.ownsRow.lt ho2 g2 rfl).2; omega
    have hlI : 0 < (l.length : Int) := by omega
    obtain ⟨c, t, rfl⟩ : ∃ c t, l = c :: t := by cases l; simp at hl0; exact ⟨_, _, rfl⟩
    have hb20 := ownByte ho23 0 (by simp)
    have hb30 := ownByte ho3 0 (by simp)
    have hf20 := ownNotFrozen ho23 0
    have hf30 := ownNotFrozen ho3 0
    simp only [List.getD_cons_zero] at hb20 hb30
    have hs2 := ownStored ho23 0 (c + 1)
    have hs3 := ownStored (World.ownsRow.kept (row := some g2) ho3 (Upd.set g2 0 w3 (.int .u8 ((c + 1).toNat : Int))) (.inr (by simp [Value.ownBlock]; exact fun h => hne h.symm))) 0 (c + 1)
    have hs23 := World.ownsRow.kept (row := some g3) hs2 (Upd.set g3 0 _ (.int .u8 ((c + 1).toNat : Int))) (.inr (by simp [Value.ownBlock]; exact hne))
    have hc2 := conv_run (Own.sh hs23)
    have hc3 := conv_run hs3.sh
    have hb15 : Below w1.heap.size w1 ((w3.setCell ⟨g2, 0, none⟩ (.int .u8 ((c + 1).toNat : Int))).setCell ⟨g3, 0, none⟩ (.int .u8 ((c + 1).toNat : Int))) := (hb13.setCell (by exact hg2) _).setCell (by have := hb2.size; exact Nat.le_trans this hg3) _
    have hval : ((c.toNat : Int) + 1) % 256 = ((c + 1).toNat : Int) := by
      rw [UInt8.toNat_add]
      have := c.toNat_lt
      show ((c.toNat : Int) + 1) % 256 = (((c.toNat + 1) % 256 : Nat) : Int)
      omega
    clear ho2 ho3 ho23 hb2 hb3 hs2 hs3 hs23
    simp only [List.length_cons] at hc2 hc3
    have HV := Lib.hid hval
    have HC2 := Lib.hid hc2
    have HC3 := Lib.hid hc3
    clear hval hc2 hc3
    go_upto_region 16 with fail
    rw [HV.out]
    have hc2 := HC2.out
    have hc3 := HC3.out
    clear HC2 HC3
    generalize (w3.setCell ⟨g2, 0, none⟩ (.int .u8 ((c + 1).toNat : Int))).setCell ⟨g3, 0, none⟩ (.int .u8 ((c + 1).toNat : Int)) = wF at *
    go_wp2_with fail
    go_ret
    exact ⟨rfl, HS1.out.below hb15, HR1.out.below hb15, HB1.out.trans (hb15.mono (by omega))⟩
theorem does_any (p q : Nat) (S : PD) (R : RD) (K F N : Int) (B : List UInt8) (ov : Value) (B0 TT : Nat) (w : World) (hS : Dsk w p S) (hR : Rdk w q R) (hpq : p ≠ q) (hsim : Sim S R) (hp : B0 ≤ p) (hq : B0 ≤ q) (hB0 : B0 ≤ w.heap.size) (hsh : ∀ w', Below B0 w w' → Sh w' ov B) (hbl : B.length ≤ 140737488355328) (hbd : Bd R TT) (hTT : TT ≤ 1000000000) (hlim : 0 ≤ R.lim ∧ R.lim ≤ 1000000000000) (hleft : -1000000000000 ≤ R.left ∧ R.left ≤ 9223372036854775807) (hK5 : K ≠ 5) :
    Calls Try.prog 17 #[.pointer (some ⟨p, 0, none⟩), .pointer (some ⟨q, 0, none⟩), .agg #[.int .i64 K, .int .i64 F, .int .i64 N, ov]] w fun e w' => e = .returned (.bool true) ∧ Dsk w' p (S.act ⟨K, F, N, B⟩) ∧ Rdk w' q (R.act ⟨K, F, N, B⟩) ∧ Below B0 w w' := by
  by_cases h0 : K = 0
  · exact does_0 p q S R K F N B ov B0 TT w hS hR hpq hsim hp hq hB0 hsh hbl hbd hTT hlim hleft h0
  by_cases h1 : K = 1
  · exact does_1 p q S R K F N B ov B0 TT w hS hR hpq hsim hp hq hB0 hsh hbl hbd hTT hlim hleft h1
  by_cases h2 : K = 2
  · exact does_2 p q S R K F N B ov B0 TT w hS hR hpq hsim hp hq hB0 hsh hbl hbd hTT hlim hleft h2
  by_cases h3 : K = 3
  · exact does_3 p q S R K F N B ov B0 TT w hS hR hpq hsim hp hq hB0 hsh hbl hbd hTT hlim hleft h3
  by_cases h4 : K = 4
  · exact does_4 p q S R K F N B ov B0 TT w hS hR hpq hsim hp hq hB0 hsh hbl hbd hTT hlim hleft h4
  exact does_x p q S R K F N B ov B0 TT w hS hR hpq hsim hp hq hB0 hsh hbl hbd hTT hlim hleft h0 h1 h2 h3 h4 hK5
end Go.Proofs.Ytadmjhlcdoghpac
