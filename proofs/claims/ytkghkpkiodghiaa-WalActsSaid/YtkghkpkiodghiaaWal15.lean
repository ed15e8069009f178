/- The document's Open. (printed by gen/wal15.py) -/
import Derived.Test.YtkghkpkiodghiaaWal14
import Derived.Test.YtkghkpkiodghiaaOrdk
namespace Go.Proofs.Ytkghkpkiodghiaa
set_option linter.unusedVariables false
set_option linter.unusedSimpArgs false
set_option linter.unnecessarySimpa false
open Go.RowKit
set_option maxRecDepth 100000
set_option maxHeartbeats 8000000

theorem snF_tk (l : List UInt8) (h : l.length ≠ 0) : snF l = if (tkF l).2.2 ≠ 0 ∨ (tkF l).2.1 ≠ l.length then (false, [], 0, 4) else if (tk (tkF l).1).2.2 ≠ 0 then (false, [], 0, 4) else (true, (tkF l).1.drop (tk (tkF l).1).2.1, (tk (tkF l).1).1, 0) := by
 by_cases h1 : (tkF l).2.2 = 0
 ·obtain ⟨b, hb, he, r, hr⟩ := tkF_sound l h1
  have e1 : scF (l.length + 1) l = ((tkF l).1 :: (scF l.length (l.drop (tkF l).2.1)).1, (tkF l).2.1 + (scF l.length (l.drop (tkF l).2.1)).2.1, (scF l.length (l.drop (tkF l).2.1)).2.2) := by
   rw [scF_succ, if_neg h, if_neg (by simpa using h1)]
  by_cases h2 : (tkF l).2.1 = l.length
  ·have hd : (l.drop (tkF l).2.1).length = 0 := by rw [h2]; simp
   rw [scF_nilP _ _ hd] at e1
   dsimp only at e1
   rw [if_neg (fun x => x.elim (fun y => y h1) (fun y => y h2))]
   by_cases h3 : (tk (tkF l).1).2.2 = 0
   ·rw [snF_ok h (by rw [e1]; exact ⟨rfl, rfl, h3⟩), e1, if_neg (by simpa using h3)]
    show (true, tkRest (tkF l).1, (tk (tkF l).1).1, 0) = _
    unfold tkRest
    rw [if_pos h3]
   ·rw [snF_bad h (by rw [e1]; exact fun x => h3 x.2.2), if_pos h3]
  ·rw [if_pos (.inr h2)]
   have hne : (l.drop (tkF l).2.1).length ≠ 0 := by
    have := tkF_facts l h1
    rw [List.length_drop]; omega
   obtain ⟨f, hf⟩ : ∃ f, l.length = f + 1 := ⟨l.length - 1, by omega⟩
   have e2 : scF l.length (l.drop (tkF l).2.1) = if (tkF (l.drop (tkF l).2.1)).2.2 ≠ 0 then ([], 0, (tkF (l.drop (tkF l).2.1)).2.2) else ((tkF (l.drop (tkF l).2.1)).1 :: (scF f ((l.drop (tkF l).2.1).drop (tkF (l.drop (tkF l).2.1)).2.1)).1, (tkF (l.drop (tkF l).2.1)).2.1 + (scF f ((l.drop (tkF l).2.1).drop (tkF (l.drop (tkF l).2.1)).2.1)).2.1, (scF f ((l.drop (tkF l).2.1).drop (tkF (l.drop (tkF l).2.1)).2.1)).2.2) := by
    rw [hf, scF_succ, if_neg hne]
   refine snF_bad h (fun x => ?_)
   rw [e1, e2] at x
   by_cases h4 : (tkF (l.drop (tkF l).2.1)).2.2 = 0
   ·rw [if_neg (by simpa using h4)] at x
    have := x.2.1
    simp at this
   ·rw [if_pos h4] at x
    exact h4 x.1
 ·rw [if_pos (.inl h1)]
  have e1 : scF (l.length + 1) l = ([], 0, (tkF l).2.2) := by rw [scF_succ, if_neg h, if_pos h1]
  exact snF_bad h (by rw [e1]; exact fun x => h1 x.1)
/-- The next frame, as the records are read. -/
theorem recF_step (first f : Nat) (m : List UInt8) (a : Nat) (R : List (List UInt8)) (nx : Nat) (hm : m.length ≠ 0) : recF first (scF (f + 1) m).1 a R nx =
  if (tkF m).2.2 ≠ 0 ∨ (tk (tkF m).1).2.2 ≠ 0 then (a, R, nx)
  else if (tk (tkF m).1).1 < first ∧ R.length = 0 then recF first (scF f (m.drop (tkF m).2.1)).1 (a + (tkF m).2.1) R nx
  else if (tk (tkF m).1).1 = nx then recF first (scF f (m.drop (tkF m).2.1)).1 (a + (tkF m).2.1) (R ++ [(tkF m).1.drop (tk (tkF m).1).2.1]) (nx + 1)
  else (a, R, nx) := by
 rw [scF_succ, if_neg hm]
 by_cases h1 : (tkF m).2.2 = 0
 ·obtain ⟨b, hb, he, r, hr⟩ := tkF_sound m h1
  have hfl : (frameB (tkF m).1).length = (tkF m).2.1 := by rw [he]
  rw [if_neg (by omega)]
  dsimp only
  show (if (tk (tkF m).1).2.2 ≠ 0 then _ else _) = _
  by_cases h2 : (tk (tkF m).1).2.2 = 0
  ·rw [if_neg (show ¬ (tk (tkF m).1).2.2 ≠ 0 by simpa using h2), if_neg (show ¬ ((tkF m).2.2 ≠ 0 ∨ (tk (tkF m).1).2.2 ≠ 0) from fun x => x.elim (fun y => y h1) (fun y => y h2)), hfl]
   have ht : tkRest (tkF m).1 = (tkF m).1.drop (tk (tkF m).1).2.1 := by unfold tkRest; rw [if_pos h2]
   rw [ht]
  ·rw [if_pos h2, if_pos (.inr h2)]
 ·rw [if_pos h1, if_pos (.inl h1)]
  rfl
theorem recF_end (first f : Nat) (m : List UInt8) (a : Nat) (R : List (List UInt8)) (nx : Nat) (hm : m.length = 0) : recF first (scF f m).1 a R nx = (a, R, nx) := by
 rw [scF_nilP f m hm]; rfl
theorem rOpen_retG {R : Ending → World → Prop} (act : Act) (w : World) (v2 v4 : Value) (g : Nat) {a b c d : Value} (hd : act.defers = []) (h2 : act.tmps.getD 2 undef = v2) (h3 : act.tmps.getD 3 undef = .pointer (some ⟨g, 0, none⟩)) (h4 : act.tmps.getD 4 undef = v4)
  (hrow : Row w g 31 [a, b, c, d]) (hR : R (.returned (.tuple #[v2, .agg #[a, b, c, d], v4])) w) : bodyPost Try.prog Try.f31 R .ret act w := by
 refine bodyPost_ret (v := .tuple #[v2, .agg #[a, b, c, d], v4]) ?_ hd hR
 have hl := run_loadVar_row (P := Try.prog) w g _ 31 #[a, b, c, d] (0, 0) _ hrow Try.underlying31 rfl (by kernel_rfl)
 rw [results_tct rfl, h2, h3, h4]
 simp [asAddr, Result.andThen, hl]
/-- What the document's Open answers where it does not fail. -/
def ROpenYes (w w' : World) (p : Nat) (e : Ending) (has : Bool) (sb : List UInt8) (R : List (List UInt8)) (nx : Nat) : Prop := ∃ q sv rv, e = .returned (.tuple #[.pointer (some ⟨q, 0, none⟩), .agg #[.bool has, sv, rv, .int .u64 (nx : Int)], .int .i64 0]) ∧ RWalR w' q p nx ∧ Own w' 0 5 sv sb ∧ BOs w' w.heap.size rv R ∧ w.heap.size < q
theorem ROpenYes.fin (p g nx : Nat) (S : RD) (has : Bool) (sb : List UInt8) (R : List (List UInt8)) (w w3 w5 : World) (sv rv : Value) (hg : w.heap.size = g) (hS : Rdk w5 p S) (hp : p < g) (hs : g + 1 < w5.heap.size) (hk : Row w5 g 31 (KepC false (.slice none 0 0) (.slice none 0 0) 0)) (hl : BOs w5 w3.heap.size rv R) (hsv : Own w5 0 5 sv sb) (hu : Upd p w w5) (he : g ≤ w3.heap.size) (W6 : World) (hW : Upd g (w5.alloc (.cells #[.pointer (some ⟨p, 0, none⟩), .int .u64 (nx : Int)] 83)) W6) :
  ROpenYes w W6 p (.returned (.tuple #[.pointer (some ⟨w5.heap.size, 0, none⟩), .agg #[.bool has, sv, rv, .int .u64 (nx : Int)], .int .i64 0])) has sb R nx ∧ Rdk W6 p S ∧ Upd p w W6 := by
 have hba := balloc (Below.refl w5.heap.size w5) (.cells #[.pointer (some ⟨p, 0, none⟩), .int .u64 (nx : Int)] 83)
 have hka := Row.alloc hk (.cells #[.pointer (some ⟨p, 0, none⟩), .int .u64 (nx : Int)] 83)
 exact ⟨⟨w5.heap.size, sv, rv, rfl, hW.row (Row.new w5 83 [.pointer (some ⟨p, 0, none⟩), .int .u64 (nx : Int)]) (by omega), hW.own (hsv.below hba) hka (by decide), by rw [hg]; exact (hW.bos (hl.below hba) hka (by decide) (by decide)).mono he, by omega⟩, (hS.keepB hba).updO hka (by decide) (by omega) hW, (hu.then hba).fresh hW (by omega)⟩
theorem rOpen_dead (p : Nat) (S : RD) (w : World) (hS : Rdk w p S) (hd : S.dead = true) (hs : S.sz ≤ 140737488355328) :
  Calls Try.prog 31 #[.pointer (some ⟨p, 0, none⟩)] w fun e w' => e = openNo 140 ∧ Rdk w' p S ∧ Upd p w w' := by
 have hr1 : S.read 1 = ([], 140) := by unfold RD.read; rw [if_pos hd]
 have HR1 := Lib.hid hr1
 have HS := Lib.hid hS
 have HP := Lib.hid hS.lt
 have HSZ := Lib.hid hs
 clear hr1 hS hd
 go_enter Try.func31, Try.ntmps31
 go_wp2_with fail
 refine (refRead_of p 1 S _ _ HR1.out _ (HS.out.keepB (balloc (balloc (Below.refl _ _) _) _)) HSZ.out).mono ?_
 rintro e w1 ⟨v1, rfl, ho1, hb1⟩
 obtain ⟨x1, c1, rfl, -⟩ := ho1.sh.open
 have hB1 : Below w.heap.size w w1 := bstep (balloc (balloc (Below.refl _ _) _) _) hb1
 have K1 : Row w1 w.heap.size 31 (KepC false (.slice none 0 0) (.slice none 0 0) 0) := ((Row.new w 31 (KepC false (.slice none 0 0) (.slice none 0 0) 0)).alloc _).keep hb1
 have K1' : Row w1 (w.heap.size + 1) 31 (KepC false (.slice none 0 0) (.slice none 0 0) 0) := by
  have := (Row.new (w.alloc (.cells (KepC false (.slice none 0 0) (.slice none 0 0) 0).toArray 31)) 31 (KepC false (.slice none 0 0) (.slice none 0 0) 0)).keep hb1
  simpa using this
 have HB1 := Lib.hid hB1
 have HK1 := Lib.hid K1
 have HK1' := Lib.hid K1'
 have HO1 := Lib.hid ho1
 clear ho1 hb1 hB1 K1 K1'
 have D1 := Lib.hid (HS.out.keepB HB1.out)
 have U1 := Lib.hid ((Upd.refl p w).then HB1.out)
 have z0 := Row.cell (HK1.out) 0
 have z1 := Row.cell (HK1.out) 1
 have z2 := Row.cell (HK1.out) 2
 have z3 := Row.cell (HK1.out) 3
 simp only [KepC, List.getElem?_cons_succ, List.getElem?_cons_zero] at z0 z1 z2 z3
 have zf0 := Row.frozen (HK1.out) 0
 have zf1 := Row.frozen (HK1.out) 1
 have zf2 := Row.frozen (HK1.out) 2
 have zf3 := Row.frozen (HK1.out) 3
 go_wp2_with fail
 refine rOpen_retG _ _ (.pointer none) (.int .i64 ((140 : Nat) : Int)) w.heap.size rfl rfl rfl rfl (rows4 HK1.out _ _ _ _) ?_
 exact ⟨rfl, D1.out.updO HK1.out (by decide) (by have := HP.out; omega) (sets4 _ _ _ _ _ _), U1.out.fresh (sets4 _ _ _ _ _ _) (Nat.le_refl _)⟩
theorem rOpen_form (p : Nat) (S : RD) (w : World) (has : Bool) (sb : List UInt8) (n1 te : Nat) (hS : Rdk w p S) (hd : S.dead = false) (hT : snF (S.all 1) = (has, sb, n1, te)) (hs : S.sz ≤ 140737488355328) (hte : te ≠ 0) :
  Calls Try.prog 31 #[.pointer (some ⟨p, 0, none⟩)] w fun e w' => e = openNo 4 ∧ Rdk w' p S ∧ Upd p w w' := by
 have hr1 : S.read 1 = (S.all 1, 0) := by unfold RD.read; rw [if_neg (by simp [hd]), if_neg (by omega)]; rfl
 have HR1 := Lib.hid hr1
 have HS := Lib.hid hS
 have HP := Lib.hid hS.lt
 have HSZ := Lib.hid hs
 have HSN := Lib.hid hT
 clear hr1 hS hd hs hT
 generalize hl1e : S.all 1 = l1 at *
 clear hl1e
 have h10 : l1.length ≠ 0 := by
  intro h
  have := HSN.out
  rw [snF_nil h] at this
  simp only [Prod.mk.injEq] at this
  omega
 have hst := snF_tk l1 h10
 rw [HSN.out] at hst
 have h10I : (0 : Int) < (l1.length : Int) := by omega
 rcases htf : tkF l1 with ⟨d, k, E⟩
 rw [htf] at hst
 have HTF := Lib.hid htf
 dsimp only at hst
 clear htf
 by_cases hE : E = 0
 ·subst hE
  by_cases hk : k = l1.length
  ·rw [if_neg (by omega)] at hst
   rcases htk : tk d with ⟨n, kk, E2⟩
   rw [htk] at hst
   have HTK := Lib.hid htk
   dsimp only at hst
   clear htk
   have hE2 : E2 ≠ 0 := by
    intro h
    rw [if_neg (by omega)] at hst
    simp only [Prod.mk.injEq] at hst
    omega
   have hE2I : ¬ (E2 : Int) = 0 := by omega
   subst hk
   clear hst hE2 HSN
   go_enter Try.func31, Try.ntmps31
   go_wp2_with fail
   refine (refRead_of p 1 S _ _ HR1.out _ (HS.out.keepB (balloc (balloc (Below.refl _ _) _) _)) HSZ.out).mono ?_
   rintro e w1 ⟨v1, rfl, ho1, hb1⟩
   obtain ⟨x1, c1, rfl, -⟩ := ho1.sh.open
   have hB1 : Below w.heap.size w w1 := bstep (balloc (balloc (Below.refl _ _) _) _) hb1
   have K1 : Row w1 w.heap.size 31 (KepC false (.slice none 0 0) (.slice none 0 0) 0) := ((Row.new w 31 (KepC false (.slice none 0 0) (.slice none 0 0) 0)).alloc _).keep hb1
   have K1' : Row w1 (w.heap.size + 1) 31 (KepC false (.slice none 0 0) (.slice none 0 0) 0) := by
    have := (Row.new (w.alloc (.cells (KepC false (.slice none 0 0) (.slice none 0 0) 0).toArray 31)) 31 (KepC false (.slice none 0 0) (.slice none 0 0) 0)).keep hb1
    simpa using this
   have HB1 := Lib.hid hB1
   have HK1 := Lib.hid K1
   have HK1' := Lib.hid K1'
   have HO1 := Lib.hid ho1
   clear ho1 hb1 hB1 K1 K1'
   go_wp2_with (first
     | (go_at_call 47; refine (refTakef_any _ l1 _ HO1.out.sh).mono ?_; rw [HTF.out]; rintro e w2 ⟨v2, rfl, ho2, hb2⟩; obtain ⟨x2, c2, rfl, y1, y2, y3, -⟩ := ho2.sh.open; have K2 := Lib.hid (HK1.out.keep hb2); have O2 := Lib.hid ho2; have D2 := Lib.hid ((HS.out.keepB HB1.out).keepB hb2); have U2 := Lib.hid (((Upd.refl p w).then HB1.out).then hb2); have z0 := Row.cell (K2.out) 0; have z1 := Row.cell (K2.out) 1; have z2 := Row.cell (K2.out) 2; have z3 := Row.cell (K2.out) 3; simp only [KepC, List.getElem?_cons_succ, List.getElem?_cons_zero] at z0 z1 z2 z3; have zf0 := Row.frozen (K2.out) 0; have zf1 := Row.frozen (K2.out) 1; have zf2 := Row.frozen (K2.out) 2; have zf3 := Row.frozen (K2.out) 3; clear ho2 hb2)
     | (go_at_call 48; refine (refTake_of _ d _ _ O2.out.sh HTK.out).mono ?_; rintro e w2b ⟨rfl, hwb⟩; subst hwb))
   refine rOpen_retG _ _ (.pointer none) (.int .i64 ((4 : Nat) : Int)) w.heap.size rfl rfl rfl rfl (rows4 K2.out _ _ _ _) ?_
   exact ⟨rfl, D2.out.updO K2.out (by decide) (by have := HP.out; omega) (sets4 _ _ _ _ _ _), U2.out.fresh (sets4 _ _ _ _ _ _) (Nat.le_refl _)⟩
  ·have hkI : ¬ (k : Int) = (l1.length : Int) := by omega
   clear hst hk HSN
   go_enter Try.func31, Try.ntmps31
   go_wp2_with fail
   refine (refRead_of p 1 S _ _ HR1.out _ (HS.out.keepB (balloc (balloc (Below.refl _ _) _) _)) HSZ.out).mono ?_
   rintro e w1 ⟨v1, rfl, ho1, hb1⟩
   obtain ⟨x1, c1, rfl, -⟩ := ho1.sh.open
   have hB1 : Below w.heap.size w w1 := bstep (balloc (balloc (Below.refl _ _) _) _) hb1
   have K1 : Row w1 w.heap.size 31 (KepC false (.slice none 0 0) (.slice none 0 0) 0) := ((Row.new w 31 (KepC false (.slice none 0 0) (.slice none 0 0) 0)).alloc _).keep hb1
   have K1' : Row w1 (w.heap.size + 1) 31 (KepC false (.slice none 0 0) (.slice none 0 0) 0) := by
    have := (Row.new (w.alloc (.cells (KepC false (.slice none 0 0) (.slice none 0 0) 0).toArray 31)) 31 (KepC false (.slice none 0 0) (.slice none 0 0) 0)).keep hb1
    simpa using this
   have HB1 := Lib.hid hB1
   have HK1 := Lib.hid K1
   have HK1' := Lib.hid K1'
   have HO1 := Lib.hid ho1
   clear ho1 hb1 hB1 K1 K1'
   go_wp2_with (first
     | (go_at_call 47; refine (refTakef_any _ l1 _ HO1.out.sh).mono ?_; rw [HTF.out]; rintro e w2 ⟨v2, rfl, ho2, hb2⟩; obtain ⟨x2, c2, rfl, y1, y2, y3, -⟩ := ho2.sh.open; have K2 := Lib.hid (HK1.out.keep hb2); have O2 := Lib.hid ho2; have D2 := Lib.hid ((HS.out.keepB HB1.out).keepB hb2); have U2 := Lib.hid (((Upd.refl p w).then HB1.out).then hb2); have z0 := Row.cell (K2.out) 0; have z1 := Row.cell (K2.out) 1; have z2 := Row.cell (K2.out) 2; have z3 := Row.cell (K2.out) 3; simp only [KepC, List.getElem?_cons_succ, List.getElem?_cons_zero] at z0 z1 z2 z3; have zf0 := Row.frozen (K2.out) 0; have zf1 := Row.frozen (K2.out) 1; have zf2 := Row.frozen (K2.out) 2; have zf3 := Row.frozen (K2.out) 3; clear ho2 hb2))
   refine rOpen_retG _ _ (.pointer none) (.int .i64 ((4 : Nat) : Int)) w.heap.size rfl rfl rfl rfl (rows4 K2.out _ _ _ _) ?_
   exact ⟨rfl, D2.out.updO K2.out (by decide) (by have := HP.out; omega) (sets4 _ _ _ _ _ _), U2.out.fresh (sets4 _ _ _ _ _ _) (Nat.le_refl _)⟩
 ·have hEI : ¬ (E : Int) = 0 := by omega
  clear hst hE HSN
  go_enter Try.func31, Try.ntmps31
  go_wp2_with fail
  refine (refRead_of p 1 S _ _ HR1.out _ (HS.out.keepB (balloc (balloc (Below.refl _ _) _) _)) HSZ.out).mono ?_
  rintro e w1 ⟨v1, rfl, ho1, hb1⟩
  obtain ⟨x1, c1, rfl, -⟩ := ho1.sh.open
  have hB1 : Below w.heap.size w w1 := bstep (balloc (balloc (Below.refl _ _) _) _) hb1
  have K1 : Row w1 w.heap.size 31 (KepC false (.slice none 0 0) (.slice none 0 0) 0) := ((Row.new w 31 (KepC false (.slice none 0 0) (.slice none 0 0) 0)).alloc _).keep hb1
  have K1' : Row w1 (w.heap.size + 1) 31 (KepC false (.slice none 0 0) (.slice none 0 0) 0) := by
   have := (Row.new (w.alloc (.cells (KepC false (.slice none 0 0) (.slice none 0 0) 0).toArray 31)) 31 (KepC false (.slice none 0 0) (.slice none 0 0) 0)).keep hb1
   simpa using this
  have HB1 := Lib.hid hB1
  have HK1 := Lib.hid K1
  have HK1' := Lib.hid K1'
  have HO1 := Lib.hid ho1
  clear ho1 hb1 hB1 K1 K1'
  go_wp2_with (first
    | (go_at_call 47; refine (refTakef_any _ l1 _ HO1.out.sh).mono ?_; rw [HTF.out]; rintro e w2 ⟨v2, rfl, ho2, hb2⟩; obtain ⟨x2, c2, rfl, y1, y2, y3, -⟩ := ho2.sh.open; have K2 := Lib.hid (HK1.out.keep hb2); have O2 := Lib.hid ho2; have D2 := Lib.hid ((HS.out.keepB HB1.out).keepB hb2); have U2 := Lib.hid (((Upd.refl p w).then HB1.out).then hb2); have z0 := Row.cell (K2.out) 0; have z1 := Row.cell (K2.out) 1; have z2 := Row.cell (K2.out) 2; have z3 := Row.cell (K2.out) 3; simp only [KepC, List.getElem?_cons_succ, List.getElem?_cons_zero] at z0 z1 z2 z3; have zf0 := Row.frozen (K2.out) 0; have zf1 := Row.frozen (K2.out) 1; have zf2 := Row.frozen (K2.out) 2; have zf3 := Row.frozen (K2.out) 3; clear ho2 hb2))
  refine rOpen_retG _ _ (.pointer none) (.int .i64 ((4 : Nat) : Int)) w.heap.size rfl rfl rfl rfl (rows4 K2.out _ _ _ _) ?_
  exact ⟨rfl, D2.out.updO K2.out (by decide) (by have := HP.out; omega) (sets4 _ _ _ _ _ _), U2.out.fresh (sets4 _ _ _ _ _ _) (Nat.le_refl _)⟩
theorem tk_le {d : List UInt8} {n k : Nat} (h : tk d = (n, k, 0)) : k ≤ d.length := by
 rcases tk_cases d with ⟨e, ht, he⟩ | ⟨n', k', ht, -, hk, -⟩
 ·rw [ht] at h; simp only [Prod.mk.injEq] at h; omega
 ·rw [ht] at h; simp only [Prod.mk.injEq] at h; omega
def ROut (w w' : World) (p : Nat) (e : Ending) (has : Bool) (sb : List UInt8) (R : List (List UInt8)) (nx err : Nat) : Prop := (err = 0 ∧ ROpenYes w w' p e has sb R nx) ∨ (err ≠ 0 ∧ e = openNo err)
theorem rok {w w' : World} {p nx : Nat} {e : Ending} {has : Bool} {sb : List UInt8} {R : List (List UInt8)} {b c : Prop} (h : ROpenYes w w' p e has sb R nx ∧ b ∧ c) : ROut w w' p e has sb R nx 0 ∧ b ∧ c := ⟨.inl ⟨rfl, h.1⟩, h.2⟩
/-- Whether a loop goes on, as a number. -/
def goN : Value → Nat
 | .bool true => 1
 | _ => 0
end Go.Proofs.Ytkghkpkiodghiaa
