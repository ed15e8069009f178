/- A log's snapshot as it is read, of any bytes. -/
import Derived.Test.YtkghkpkiodghiaaTk
import Derived.Test.YtkghkpkiodghiaaWal3
import Derived.Test.YtkghkpkiodghiaaWalQ
import Derived.Test.YtkghkpkiodghiaaDsk4
import Derived.Test.YtkghkpkiodghiaaWal6
namespace Go.Proofs.Ytkghkpkiodghiaa
set_option linter.unusedVariables false
set_option linter.unusedSimpArgs false
set_option linter.unnecessarySimpa false
open Go.RowKit
set_option maxRecDepth 100000
set_option maxHeartbeats 4000000

theorem snF_nil {l : List UInt8} (h : l.length = 0) : snF l = (false, [], 0, 0) := by unfold snF; rw [if_pos h]
theorem snF_bad {l : List UInt8} (h : l.length ≠ 0) (hb : ¬ ((scF (l.length + 1) l).2.2 = 0 ∧ (scF (l.length + 1) l).1.length = 1 ∧ (tk ((scF (l.length + 1) l).1.getD 0 [])).2.2 = 0)) : snF l = (false, [], 0, 4) := by
 unfold snF; rw [if_neg h, if_neg hb]
theorem snF_ok {l : List UInt8} (h : l.length ≠ 0) (hb : (scF (l.length + 1) l).2.2 = 0 ∧ (scF (l.length + 1) l).1.length = 1 ∧ (tk ((scF (l.length + 1) l).1.getD 0 [])).2.2 = 0) :
  snF l = (true, tkRest ((scF (l.length + 1) l).1.getD 0 []), (tk ((scF (l.length + 1) l).1.getD 0 [])).1, 0) := by
 unfold snF; rw [if_neg h, if_pos hb]
theorem snapshot_any (v : Value) (l : List UInt8) (h : Nat) (w : World) (hr : Row w h 31 (KepC false (.slice none 0 0) (.slice none 0 0) 0)) (hl : Sh w v l) (hlen : l.length ≤ 100000000) (T : Bool × List UInt8 × Nat × Nat) (hT : snF l = T) :
  Calls Try.prog 23 #[v, .pointer (some ⟨h, 0, none⟩)] w fun e w' => ∃ sv, e = .returned (.int .i64 (T.2.2.2 : Int)) ∧ Row w' h 31 (KepC T.1 sv (.slice none 0 0) T.2.2.1) ∧ Own w' 0 5 sv T.2.1 ∧ Upd h w w' := by
 by_cases h0 : l.length = 0
 ·subst hT
  rw [snF_nil h0]
  exact (snapshot_nil v l h w hl h0).mono fun e w' ⟨he, hw⟩ => by subst hw; exact ⟨.slice none 0 0, he, hr, Own.nil _ _ _, Upd.refl _ _⟩
 ·obtain ⟨S, hS⟩ : ∃ S, scF (l.length + 1) l = S := ⟨_, rfl⟩
  have hbad := snF_bad h0
  have hok := snF_ok h0
  rw [hS] at hbad hok
  rw [hT] at hbad hok
  have hle : ∀ i, i < S.1.length → (S.1.getD i []).length ≤ 1048576 := fun i hi => by
   have := scF_le (l.length + 1) l (S.1.getD i []) (by rw [hS, List.getD, List.getElem?_eq_getElem hi]; exact List.getElem_mem hi)
   exact this
  have h0I : ¬ (l.length : Int) = 0 := by omega
  obtain ⟨xl, cl, rfl, -⟩ := hl.open
  have HL := Lib.hid hl
  have HR := Lib.hid hr
  have HSS := Lib.hid hS
  have HLE := Lib.hid hle
  clear hl hr hS hle hT h0
  obtain ⟨Ls, at_, E⟩ := S
  dsimp only at hbad hok
  by_cases hE : E = 0
  ·subst hE
   by_cases h1 : Ls.length = 1
   ·obtain ⟨d, rfl⟩ : ∃ d, Ls = [d] := List.length_eq_one_iff.mp h1
    have hdl := HLE.out 0 (by simp)
    simp only [List.getD_cons_zero] at hdl hbad hok
    rcases htk : tk d with ⟨n, k, E2⟩
    rw [htk] at hbad hok
    dsimp only at hbad hok
    have hql : (tkRest d).length ≤ d.length := by
     unfold tkRest
     split <;> simp
    have HQL := Lib.hid (show (tkRest d).length ≤ 140737488355328 by omega)
    have HTK := Lib.hid htk
    have HDL := Lib.hid hdl
    clear htk hql hdl
    generalize hq : tkRest d = q at *
    have HQE := Lib.hid hq
    clear hq
    by_cases hE2 : E2 = 0
    ·subst hE2
     have HOK := Lib.hid (hok (by simp))
     clear hok hbad
     rw [HOK.out]
     go_enter Try.func23, Try.ntmps23
     go_wp2_with (first
      | (go_at_call 40; refine (ScanO_any _ l _ HL.out (by omega)).mono ?_; rw [HSS.out]; rintro e w1 ⟨v1, rfl, ho1, hb1⟩; obtain ⟨x1, c1, rfl, -⟩ := ho1.bss.open; obtain ⟨b, off, rfl, -, hat⟩ := ho1.cells (by simp); obtain ⟨u, hu, hou⟩ := hat 0 (by simp); simp only [Nat.add_zero, List.getD_cons_zero] at hu hou; have HOU := Lib.hid hou; obtain ⟨xu, cu, rfl, -⟩ := hou.sh.open; have B1 := Lib.hid hb1; clear hat hou hb1)
      | (go_at_call 41; refine (Take_any _ d _ HOU.out.sh (by have := HDL.out; omega)).mono ?_; rw [HTK.out, HQE.out]; rintro e w3 ⟨v3, rfl, ho3, hb3⟩; have O3 := Lib.hid ho3; have B3 := Lib.hid hb3; clear ho3 hb3)
      | (go_at_call 37; refine (clone_any _ q _ O3.out.sh HQL.out).mono ?_; rintro e w5 ⟨v5, rfl, ho5, hb5⟩; obtain ⟨x5, c5, rfl, -⟩ := ho5.sh.open; have R5 := Lib.hid (((HR.out.keep B1.out).keep B3.out).keep hb5); have z0 := Row.cell R5.out 0; have z1 := Row.cell R5.out 1; have z3 := Row.cell R5.out 3; simp only [KepC, List.getElem?_cons_succ, List.getElem?_cons_zero] at z0 z1 z3; have f0 := Row.frozen R5.out 0; have f1 := Row.frozen R5.out 1; have f3 := Row.frozen R5.out 3; have O5 := Lib.hid ho5; have B5 := Lib.hid hb5; clear ho5 hb5))
     go_ret
     have U5 := (((Upd.set h 0 w5 (.bool true)).trans (Upd.set h 1 _ (.slice x5 q.length c5))).trans (Upd.set h 3 _ (.int .u64 (n : Int))))
     exact ⟨.slice x5 q.length c5, rfl, Row.set (Row.set (Row.set R5.out 0 _) 1 _) 3 _, U5.own (O5.out.mono (Nat.zero_le _)) R5.out (by decide), (((Upd.of_below B1.out).trans (Upd.of_below B3.out)).trans (Upd.of_below B5.out)).trans U5⟩
    ·have HOK := Lib.hid (hbad (by simpa using hE2))
     have hE2I : ¬ (E2 : Int) = 0 := by omega
     clear hok hbad hE2
     rw [HOK.out]
     go_enter Try.func23, Try.ntmps23
     go_wp2_with (first
      | (go_at_call 40; refine (ScanO_any _ l _ HL.out (by omega)).mono ?_; rw [HSS.out]; rintro e w1 ⟨v1, rfl, ho1, hb1⟩; obtain ⟨x1, c1, rfl, -⟩ := ho1.bss.open; obtain ⟨b, off, rfl, -, hat⟩ := ho1.cells (by simp); obtain ⟨u, hu, hou⟩ := hat 0 (by simp); simp only [Nat.add_zero, List.getD_cons_zero] at hu hou; have HOU := Lib.hid hou; obtain ⟨xu, cu, rfl, -⟩ := hou.sh.open; have B1 := Lib.hid hb1; clear hat hou hb1)
      | (go_at_call 41; refine (Take_any _ d _ HOU.out.sh (by have := HDL.out; omega)).mono ?_; rw [HTK.out, HQE.out]; rintro e w3 ⟨v3, rfl, ho3, hb3⟩; have O3 := Lib.hid ho3; have B3 := Lib.hid hb3; clear ho3 hb3))
     go_ret
     exact ⟨.slice none 0 0, rfl, (HR.out.keep B1.out).keep B3.out, Own.nil _ _ _, (Upd.of_below B1.out).trans (Upd.of_below B3.out)⟩
   ·have HOK := Lib.hid (hbad (fun h => h1 h.2.1))
    have h1I : ¬ (Ls.length : Int) = 1 := by omega
    clear hok hbad h1
    rw [HOK.out]
    go_enter Try.func23, Try.ntmps23
    go_wp2_with (go_at_call 40; refine (ScanO_any _ l _ HL.out (by omega)).mono ?_; rw [HSS.out]; rintro e w1 ⟨v1, rfl, ho1, hb1⟩; obtain ⟨x1, c1, rfl, -⟩ := ho1.bss.open)
    go_ret
    exact ⟨.slice none 0 0, rfl, HR.out.keep hb1, Own.nil _ _ _, Upd.of_below hb1⟩
  ·have HOK := Lib.hid (hbad (by simp [hE]))
   have hEI : ¬ (E : Int) = 0 := by omega
   clear hok hbad hE
   rw [HOK.out]
   go_enter Try.func23, Try.ntmps23
   go_wp2_with (go_at_call 40; refine (ScanO_any _ l _ HL.out (by omega)).mono ?_; rw [HSS.out]; rintro e w1 ⟨v1, rfl, ho1, hb1⟩; obtain ⟨x1, c1, rfl, -⟩ := ho1.bss.open)
   go_ret
   exact ⟨.slice none 0 0, rfl, HR.out.keep hb1, Own.nil _ _ _, Upd.of_below hb1⟩
end Go.Proofs.Ytkghkpkiodghiaa
namespace Go.Proofs.Ytkghkpkiodghiaa
set_option linter.unusedVariables false
set_option linter.unusedSimpArgs false
set_option linter.unnecessarySimpa false
open Go.RowKit
set_option maxRecDepth 100000
set_option maxHeartbeats 4000000

theorem scF_count : ∀ (f : Nat) (l : List UInt8), (scF f l).1.length ≤ f := by
 intro f
 induction f with
 | zero => intro l; simp [scF]
 | succ f ih =>
  intro l
  unfold scF
  split
  ·simp
  ·split
   ·simp
   ·have := ih (l.drop (tkF l).2.1)
    simp only [List.length_cons]; omega
theorem scF_frames : ∀ (f : Nat) (l : List UInt8), (frames (scF f l).1).length ≤ l.length := by
 intro f
 induction f with
 | zero => intro l; simp [scF, frames]
 | succ f ih =>
  intro l
  unfold scF
  split
  ·simp [frames]
  ·split
   ·simp [frames]
   ·rename_i h1 h2
    obtain ⟨b, hb, he, r, hr⟩ := tkF_sound l (by omega)
    have h3 := ih (l.drop (tkF l).2.1)
    rw [he] at h3 ⊢
    simp only at h3 ⊢
    rw [frames_cons, List.length_append]
    have h4 : l.length = (frameB b).length + r.length := by rw [hr, List.length_append]
    rw [List.length_drop] at h3
    omega
theorem recF_at (first : Nat) (ds : List (List UInt8)) : ∀ a R nx, (recF first ds a R nx).1 ≤ a + (frames ds).length ∧ (recF first ds a R nx).2.2 ≤ nx + ds.length ∧ (recF first ds a R nx).2.1.length ≤ R.length + ds.length := by
 induction ds with
 | nil => intro a R nx; simp [recF, frames]
 | cons d ds ih =>
  intro a R nx
  unfold recF
  rw [frames_cons, List.length_append, List.length_cons]
  split
  ·dsimp only; omega
  ·split
   ·have := ih (a + (frameB d).length) R nx; omega
   ·split
    ·have := ih (a + (frameB d).length) (R ++ [tkRest d]) (nx + 1)
     rw [List.length_append] at this
     simp only [List.length_cons, List.length_nil] at this
     omega
    ·dsimp only; omega
theorem snF_num (l : List UInt8) : (snF l).2.2.1 ≤ 4611686018427387904 := by
 unfold snF
 split
 ·simp
 ·split
  ·rename_i h1 h2
   dsimp only
   rcases tk_cases ((scF (l.length + 1) l).1.getD 0 []) with ⟨e, ht, -⟩ | ⟨n, k, ht, -, -, hn⟩
   ·rw [ht]; simp
   ·rw [ht]; dsimp only; omega
  ·simp
/-- What Open's return reads. -/
theorem Open_retG {R : Ending → World → Prop} (act : Act) (w : World) (v2 v4 : Value) (g : Nat) {a b c d : Value} (hd : act.defers = []) (h2 : act.tmps.getD 2 undef = v2) (h3 : act.tmps.getD 3 undef = .pointer (some ⟨g, 0, none⟩)) (h4 : act.tmps.getD 4 undef = v4)
  (hrow : Row w g 31 [a, b, c, d]) (hR : R (.returned (.tuple #[v2, .agg #[a, b, c, d], v4])) w) : bodyPost Try.prog Try.f7 R .ret act w := by
 refine bodyPost_ret (v := .tuple #[v2, .agg #[a, b, c, d], v4]) ?_ hd hR
 have hl := run_loadVar_row (P := Try.prog) w g _ 31 #[a, b, c, d] (0, 0) _ hrow Try.underlying31 rfl (by kernel_rfl)
 rw [results_tct rfl, h2, h3, h4]
 simp [asAddr, Result.andThen, hl]
/-- What Open answers where it fails. -/
def openNo (k : Nat) : Ending := .returned (.tuple #[.pointer none, .agg #[.bool false, .slice none 0 0, .slice none 0 0, .int .u64 0], .int .i64 (k : Int)])
/-- What it answers else. -/
def OpenYes (w w' : World) (p : Nat) (e : Ending) (has : Bool) (sb : List UInt8) (R : List (List UInt8)) (nx : Nat) : Prop := ∃ q sv rv, e = .returned (.tuple #[.pointer (some ⟨q, 0, none⟩), .agg #[.bool has, sv, rv, .int .u64 (nx : Int)], .int .i64 0]) ∧ WalR w' q p nx ∧ Own w' 0 5 sv sb ∧ BOs w' w.heap.size rv R ∧ w.heap.size < q
theorem Upd.fresh {p g : Nat} {w a b : World} (h : Upd p w a) (hu : Upd g a b) (hg : w.heap.size ≤ g) : Upd p w b :=
 ⟨hu.os.trans h.os, hu.tape.trans h.tape, hu.output.trans h.output, Nat.le_trans h.size hu.size, fun i hi hp => (hu.block i (Nat.lt_of_lt_of_le hi h.size) (fun e => by simp at e; omega)).trans (h.block i hi hp)⟩
theorem Upd.then {p : Nat} {w a b : World} (h : Upd p w a) (hb : Below a.heap.size a b) : Upd p w b := h.trans (Upd.of_below hb)
theorem sets4 (w : World) (g : Nat) (a b c d : Value) : Upd g w ((((w.setCell ⟨g, 0, none⟩ (a)).setCell ⟨g, 1, none⟩ (b)).setCell ⟨g, 2, none⟩ (c)).setCell ⟨g, 3, none⟩ (d)) := (((Upd.set g 0 w a).trans (Upd.set g 1 _ b)).trans (Upd.set g 2 _ c)).trans (Upd.set g 3 _ d)
theorem rows4 {w : World} {g : Nat} {x0 x1 x2 x3 : Value} (h : Row w g 31 [x0, x1, x2, x3]) (a b c d : Value) : Row ((((w.setCell ⟨g, 0, none⟩ (a)).setCell ⟨g, 1, none⟩ (b)).setCell ⟨g, 2, none⟩ (c)).setCell ⟨g, 3, none⟩ (d)) g 31 [a, b, c, d] := Row.set (Row.set (Row.set (Row.set h 0 a) 1 b) 2 c) 3 d
theorem OpenYes.fin (p g nx : Nat) (S : PD) (has : Bool) (sb : List UInt8) (R : List (List UInt8)) (w w3 w5 : World) (sv rv : Value) (hg : w.heap.size = g) (hS : Dsk w5 p S) (hp : p < g) (hs : g + 1 < w5.heap.size) (hk : Row w5 g 31 (KepC false (.slice none 0 0) (.slice none 0 0) 0)) (hl : BOs w5 w3.heap.size rv R) (hsv : Own w5 0 5 sv sb) (hu : Upd p w w5) (he : g ≤ w3.heap.size) (W6 : World) (hW : Upd g (w5.alloc (.cells #[.pointer (some ⟨p, 0, none⟩), .int .u64 (nx : Int)] 71)) W6) :
  OpenYes w W6 p (.returned (.tuple #[.pointer (some ⟨w5.heap.size, 0, none⟩), .agg #[.bool has, sv, rv, .int .u64 (nx : Int)], .int .i64 0])) has sb R nx ∧ Dsk W6 p S ∧ Upd p w W6 := by
 have hba := balloc (Below.refl w5.heap.size w5) (.cells #[.pointer (some ⟨p, 0, none⟩), .int .u64 (nx : Int)] 71)
 have hka := Row.alloc hk (.cells #[.pointer (some ⟨p, 0, none⟩), .int .u64 (nx : Int)] 71)
 exact ⟨⟨w5.heap.size, sv, rv, rfl, hW.row (Row.new w5 71 [.pointer (some ⟨p, 0, none⟩), .int .u64 (nx : Int)]) (by omega), hW.own (hsv.below hba) hka (by decide), by rw [hg]; exact (hW.bos (hl.below hba) hka (by decide) (by decide)).mono he, by omega⟩, (hS.keepB hba).updO hka (by decide) (by omega) hW, (hu.then hba).fresh hW (by omega)⟩
theorem replace_bd (S : PD) (n : Int) (b : List UInt8) : (S.replace n b).1.lim = S.lim ∧ (S.replace n b).1.left ≤ S.left ∧ (S.replace n b).1.n0.length + (S.replace n b).1.n1.length ≤ S.n0.length + S.n1.length + b.length := by
 have hl := leftC_le S.left
 unfold PD.replace
 by_cases h1 : S.dead = true ∨ S.left = 0
 ·rw [if_pos h1]; exact ⟨rfl, Int.le_refl _, Nat.le_add_right _ _⟩
 ·rw [if_neg h1]
  by_cases h2 : n < 0 ∨ 1 < n
  ·rw [if_pos h2]; exact ⟨rfl, hl, Nat.le_add_right _ _⟩
  ·rw [if_neg h2]
   by_cases h3 : S.lim - (S.tot - ((if n = 0 then S.n0 else S.n1).length : Int)) < (b.length : Int)
   ·rw [if_pos h3]; exact ⟨rfl, hl, Nat.le_add_right _ _⟩
   ·rw [if_neg h3]
    by_cases h4 : n = 0
    ·rw [if_pos h4]
     refine ⟨rfl, hl, ?_⟩
     show b.length + S.n1.length ≤ _
     omega
    ·rw [if_neg h4]
     refine ⟨rfl, hl, ?_⟩
     show S.n0.length + b.length ≤ _
     omega
theorem Open_dead (p : Nat) (S : PD) (w : World) (hS : Dsk w p S) (hd : S.dead = true) (hl : S.n0.length + S.n1.length ≤ 100000000) :
  Calls Try.prog 7 #[.pointer (some ⟨p, 0, none⟩)] w fun e w' => e = openNo 140 ∧ Dsk w' p S ∧ Upd p w w' := by
 have hr1 : S.read 1 = ([], 140) := by unfold PD.read; rw [if_pos hd]
 have HR1 := Lib.hid hr1
 have HS := Lib.hid hS
 have HP := Lib.hid hS.lt
 have HT := Lib.hid (show S.n0.length + S.n1.length ≤ 100000000000 by omega)
 clear hr1 hS hd
 go_enter Try.func7, Try.ntmps7
 go_wp2_with fail
 refine (Read_any p 1 S _ (HS.out.keepB (balloc (balloc (Below.refl _ _) _) _)) HT.out).mono ?_
 rw [HR1.out]
 rintro e w1 ⟨v1, rfl, ho1, hb1⟩
 obtain ⟨x1, c1, rfl, -⟩ := ho1.sh.open
 have hB1 : Below w.heap.size w w1 := bstep (balloc (balloc (Below.refl _ _) _) _) hb1
 have K1 : Row w1 w.heap.size 31 (KepC false (.slice none 0 0) (.slice none 0 0) 0) := ((Row.new w 31 (KepC false (.slice none 0 0) (.slice none 0 0) 0)).alloc _).keep hb1
 have K1' : Row w1 (w.heap.size + 1) 31 (KepC false (.slice none 0 0) (.slice none 0 0) 0) := by
  have := (Row.new (w.alloc (.cells (KepC false (.slice none 0 0) (.slice none 0 0) 0).toArray 31)) 31 (KepC false (.slice none 0 0) (.slice none 0 0) 0)).keep hb1
  simpa using this
 have HB1 := Lib.hid hB1
 have HK1 := Lib.hid K1
 have HK1' := Lib.hid K1'
 clear ho1 hb1 hB1 K1 K1'
 have D1 := Lib.hid (HS.out.keepB HB1.out)
 have U1 := Lib.hid ((Upd.refl p w).then HB1.out)
 have z0 := Row.cell (HK1.out) 0
 have z1 := Row.cell (HK1.out) 1
 have z2 := Row.cell (HK1.out) 2
 have z3 := Row.cell (HK1.out) 3
 simp only [KepC, List.getElem?_cons_succ, List.getElem?_cons_zero] at z0 z1 z2 z3
 have zf0 := Row.frozen (HK1.out) 0
 have zf1 := Row.frozen (HK1.out) 1
 have zf2 := Row.frozen (HK1.out) 2
 have zf3 := Row.frozen (HK1.out) 3
 go_wp2_with fail
 refine Open_retG _ _ (.pointer none) (.int .i64 ((140 : Nat) : Int)) w.heap.size rfl rfl rfl rfl (rows4 HK1.out _ _ _ _) ?_
 exact ⟨rfl, D1.out.updO HK1.out (by decide) (by have := HP.out; omega) (sets4 _ _ _ _ _ _), U1.out.fresh (sets4 _ _ _ _ _ _) (Nat.le_refl _)⟩
theorem Open_form (p : Nat) (S : PD) (w : World) (has : Bool) (sb : List UInt8) (n1 te : Nat) (hS : Dsk w p S) (hd : S.dead = false) (hT : snF S.n1 = (has, sb, n1, te)) (hm : S.left ≤ 9223372036854775807) (h0l : S.n0.length ≤ 50000000) (h1l : S.n1.length ≤ 50000000) (hlim : -1000000000000 ≤ S.lim ∧ S.lim ≤ 1000000000000) (hte : te ≠ 0) :
  Calls Try.prog 7 #[.pointer (some ⟨p, 0, none⟩)] w fun e w' => e = openNo te ∧ Dsk w' p S ∧ Upd p w w' := by
 have hr1 : S.read 1 = (S.n1, 0) := by unfold PD.read; rw [if_neg (by simp [hd]), if_neg (by omega)]; simp
 have hr0 : S.read 0 = (S.n0, 0) := by unfold PD.read; rw [if_neg (by simp [hd]), if_neg (by omega)]; simp
 have HR1 := Lib.hid hr1
 have HR0 := Lib.hid hr0
 have HS := Lib.hid hS
 have HP := Lib.hid hS.lt
 have HT := Lib.hid (show S.n0.length + S.n1.length ≤ 100000000000 by omega)
 have HSN := Lib.hid hT
 have HM := Lib.hid hm
 have HLIM := Lib.hid hlim
 clear hr1 hr0 hS hd hT hm hlim
 have hteI : ¬ (te : Int) = 0 := by omega
 go_enter Try.func7, Try.ntmps7
 go_wp2_with fail
 refine (Read_any p 1 S _ (HS.out.keepB (balloc (balloc (Below.refl _ _) _) _)) HT.out).mono ?_
 rw [HR1.out]
 rintro e w1 ⟨v1, rfl, ho1, hb1⟩
 obtain ⟨x1, c1, rfl, -⟩ := ho1.sh.open
 have hB1 : Below w.heap.size w w1 := bstep (balloc (balloc (Below.refl _ _) _) _) hb1
 have K1 : Row w1 w.heap.size 31 (KepC false (.slice none 0 0) (.slice none 0 0) 0) := ((Row.new w 31 (KepC false (.slice none 0 0) (.slice none 0 0) 0)).alloc _).keep hb1
 have K1' : Row w1 (w.heap.size + 1) 31 (KepC false (.slice none 0 0) (.slice none 0 0) 0) := by
  have := (Row.new (w.alloc (.cells (KepC false (.slice none 0 0) (.slice none 0 0) 0).toArray 31)) 31 (KepC false (.slice none 0 0) (.slice none 0 0) 0)).keep hb1
  simpa using this
 have HB1 := Lib.hid hB1
 have HK1 := Lib.hid K1
 have HK1' := Lib.hid K1'
 have HO1 := Lib.hid ho1
 clear ho1 hb1 hB1 K1 K1'
 go_wp2_with (go_at_call 23; refine (snapshot_any _ S.n1 (w.heap.size + 1) w1 HK1'.out HO1.out.sh (by omega) _ HSN.out).mono ?_; rintro e w2 ⟨sv, rfl, hr2, hs2, hu2⟩; obtain ⟨xs, cs, rfl, -⟩ := hs2.sh.open; have K2 := Lib.hid (hu2.row HK1.out (by omega)); have R2 := Lib.hid hr2; have SV2 := Lib.hid hs2; have D2 := Lib.hid ((HS.out.keepB HB1.out).updO HK1'.out (by decide) (by have := HP.out; omega) hu2); have U2 := Lib.hid (((Upd.refl p w).then HB1.out).fresh hu2 (by omega)); have Z2 := Lib.hid (Nat.le_trans HB1.out.size hu2.sizeLe); have z0 := Row.cell (K2.out) 0; have z1 := Row.cell (K2.out) 1; have z2 := Row.cell (K2.out) 2; have z3 := Row.cell (K2.out) 3; simp only [KepC, List.getElem?_cons_succ, List.getElem?_cons_zero] at z0 z1 z2 z3; have zf0 := Row.frozen (K2.out) 0; have zf1 := Row.frozen (K2.out) 1; have zf2 := Row.frozen (K2.out) 2; have zf3 := Row.frozen (K2.out) 3; clear hr2 hs2 hu2)
 refine Open_retG _ _ (.pointer none) (.int .i64 (te : Int)) w.heap.size rfl rfl rfl rfl (rows4 K2.out _ _ _ _) ?_
 exact ⟨rfl, D2.out.updO K2.out (by decide) (by have := HP.out; omega) (sets4 _ _ _ _ _ _), U2.out.fresh (sets4 _ _ _ _ _ _) (Nat.le_refl _)⟩
theorem Open_kept (p : Nat) (S : PD) (w : World) (has : Bool) (sb : List UInt8) (n1 at_ nx : Nat) (R : List (List UInt8)) (hS : Dsk w p S) (hd : S.dead = false) (hT : snF S.n1 = (has, sb, n1, 0)) (hm : S.left ≤ 9223372036854775807) (h0l : S.n0.length ≤ 50000000) (h1l : S.n1.length ≤ 50000000) (hlim : -1000000000000 ≤ S.lim ∧ S.lim ≤ 1000000000000) (U : List (List UInt8) × Nat × Nat) (hU : scF (S.n0.length + 1) S.n0 = U) (hV : recF n1 U.1 0 [] n1 = (at_, R, nx)) (hk : at_ = S.n0.length) :
  Calls Try.prog 7 #[.pointer (some ⟨p, 0, none⟩)] w fun e w' => OpenYes w w' p e has sb R nx ∧ Dsk w' p S ∧ Upd p w w' := by
 have hr1 : S.read 1 = (S.n1, 0) := by unfold PD.read; rw [if_neg (by simp [hd]), if_neg (by omega)]; simp
 have hr0 : S.read 0 = (S.n0, 0) := by unfold PD.read; rw [if_neg (by simp [hd]), if_neg (by omega)]; simp
 have HR1 := Lib.hid hr1
 have HR0 := Lib.hid hr0
 have HS := Lib.hid hS
 have HP := Lib.hid hS.lt
 have HT := Lib.hid (show S.n0.length + S.n1.length ≤ 100000000000 by omega)
 have HSN := Lib.hid hT
 have HM := Lib.hid hm
 have HLIM := Lib.hid hlim
 clear hr1 hr0 hS hd hT hm hlim
 have hUl := scF_count (S.n0.length + 1) S.n0
 rw [hU] at hUl
 have hn1 := snF_num S.n1
 rw [HSN.out] at hn1
 dsimp only at hn1
 have hfr := scF_frames (S.n0.length + 1) S.n0
 rw [hU] at hfr
 have hat := recF_at n1 U.1 0 [] n1
 rw [hV] at hat
 obtain ⟨hat, hnx, hRl⟩ := hat
 dsimp only at hat hnx hRl
 have hat : at_ ≤ S.n0.length := by omega
 have HU := Lib.hid hU
 have HV := Lib.hid hV
 clear hU hV hfr
 subst hk
 go_enter Try.func7, Try.ntmps7
 go_wp2_with fail
 refine (Read_any p 1 S _ (HS.out.keepB (balloc (balloc (Below.refl _ _) _) _)) HT.out).mono ?_
 rw [HR1.out]
 rintro e w1 ⟨v1, rfl, ho1, hb1⟩
 obtain ⟨x1, c1, rfl, -⟩ := ho1.sh.open
 have hB1 : Below w.heap.size w w1 := bstep (balloc (balloc (Below.refl _ _) _) _) hb1
 have K1 : Row w1 w.heap.size 31 (KepC false (.slice none 0 0) (.slice none 0 0) 0) := ((Row.new w 31 (KepC false (.slice none 0 0) (.slice none 0 0) 0)).alloc _).keep hb1
 have K1' : Row w1 (w.heap.size + 1) 31 (KepC false (.slice none 0 0) (.slice none 0 0) 0) := by
  have := (Row.new (w.alloc (.cells (KepC false (.slice none 0 0) (.slice none 0 0) 0).toArray 31)) 31 (KepC false (.slice none 0 0) (.slice none 0 0) 0)).keep hb1
  simpa using this
 have HB1 := Lib.hid hB1
 have HK1 := Lib.hid K1
 have HK1' := Lib.hid K1'
 have HO1 := Lib.hid ho1
 clear ho1 hb1 hB1 K1 K1'
 go_wp2_with (go_at_call 23; refine (snapshot_any _ S.n1 (w.heap.size + 1) w1 HK1'.out HO1.out.sh (by omega) _ HSN.out).mono ?_; rintro e w2 ⟨sv, rfl, hr2, hs2, hu2⟩; obtain ⟨xs, cs, rfl, -⟩ := hs2.sh.open; have K2 := Lib.hid (hu2.row HK1.out (by omega)); have R2 := Lib.hid hr2; have SV2 := Lib.hid hs2; have D2 := Lib.hid ((HS.out.keepB HB1.out).updO HK1'.out (by decide) (by have := HP.out; omega) hu2); have U2 := Lib.hid (((Upd.refl p w).then HB1.out).fresh hu2 (by omega)); have Z2 := Lib.hid (Nat.le_trans HB1.out.size hu2.sizeLe); clear hr2 hs2 hu2)
 refine (Read_any p 0 S _ D2.out HT.out).mono ?_
 rw [HR0.out]
 rintro e w3 ⟨v3, rfl, ho3, hb3⟩
 obtain ⟨x3, c3, rfl, g1, g2, g3, -⟩ := ho3.sh.open
 have HO3 := Lib.hid ho3
 have HB3 := Lib.hid hb3
 clear ho3 hb3
 go_wp2_with (go_at_call 24; refine (records_any _ S.n0 (w.heap.size + 1) n1 has _ _ (R2.out.keep HB3.out) HO3.out.sh (by omega) hn1 U HU.out (by omega) _ HV.out).mono ?_; rintro e w4 ⟨rv, rfl, hr4, ho4, hu4⟩; dsimp only at hr4 ho4; obtain ⟨x4, c4, rfl, -⟩ := ho4.bss.open; have K4 := Lib.hid (hu4.row (K2.out.keep HB3.out) (by omega)); have R4 := Lib.hid hr4; have SV4 := Lib.hid (hu4.own (SV2.out.below HB3.out) (R2.out.keep HB3.out) (by decide)); have LG4 := Lib.hid (hu4.own HO3.out (R2.out.keep HB3.out) (by decide)); have L4 := Lib.hid ho4; have D4 := Lib.hid ((D2.out.keepB HB3.out).updO (R2.out.keep HB3.out) (by decide) (by have := HP.out; omega) hu4); have U4 := Lib.hid ((U2.out.then HB3.out).fresh hu4 (by omega)); have E4 := Lib.hid (Nat.le_trans Z2.out HB3.out.size); clear hr4 ho4 hu4)
 have R9 := Lib.hid (Row.drew R4.out)
 have K9 := Lib.hid (Row.drew K4.out)
 have L9 := Lib.hid (L4.out.below (Below.refl _ _).drew)
 have SV9 := Lib.hid (SV4.out.below (Below.refl _ _).drew)
 have D9 := Lib.hid (D4.out.keepB (Below.refl _ _).drew)
 have U9 := Lib.hid (U4.out.then (Below.refl _ _).drew)
 have S9 := Lib.hid (show w.heap.size + 1 < w4.drew.heap.size from R9.out.lt)
 refine wp_region_any (by kernel_rfl) ?_
 try (change wpAny _ _ _ _ _ _ _ (World.drew _))
 generalize World.drew w4 = w9 at *
 have k0 := Row.cell (R9.out) 0; have k1 := Row.cell (R9.out) 1; have k2 := Row.cell (R9.out) 2; have k3 := Row.cell (R9.out) 3; simp only [KepC, List.getElem?_cons_succ, List.getElem?_cons_zero] at k0 k1 k2 k3
 refine tA (i := 0) (v := ?_) (y := (Or.inl ⟨by rfl, ?_⟩)) (h := ?_)
 rotate_left
 ·intro w; go_simp; try with_reducible rfl
 try simp only [Act.put, List.setIfInBounds_toArray, List.set_cons_zero, List.set_cons_succ, Array.replicate]
 refine tA (i := 1) (v := ?_) (y := (Or.inl ⟨by rfl, ?_⟩)) (h := ?_)
 rotate_left
 ·intro w; go_simp; try with_reducible rfl
 try simp only [Act.put, List.setIfInBounds_toArray, List.set_cons_zero, List.set_cons_succ, Array.replicate]
 refine rA [2, 5] (h := ?_)
 refine cA (h := fun K hK => ?_) (hs := ?_)
 ·go_simp
  refine hK _ _ ?_
  clear hK K
  try simp only [Act.put, List.setIfInBounds_toArray, List.set_cons_zero, List.set_cons_succ, Array.replicate]
  refine tA (i := 3) (v := ?_) (y := (Or.inl ⟨by rfl, ?_⟩)) (h := ?_)
  rotate_left
  ·intro w; go_simp; try with_reducible rfl
  try simp only [Act.put, List.setIfInBounds_toArray, List.set_cons_zero, List.set_cons_succ, Array.replicate]
  refine rA [4, 5] (h := ?_)
  refine cA (h := fun K hK => ?_) (hs := ?_)
  ·go_simp
   refine hK _ _ ?_
   clear hK K
   try simp only [Act.put, List.setIfInBounds_toArray, List.set_cons_zero, List.set_cons_succ, Array.replicate]
   refine tA (i := 6) (v := ?_) (y := (Or.inl ⟨by rfl, ?_⟩)) (h := ?_)
   rotate_left
   ·intro w; go_simp; try with_reducible rfl
   try simp only [Act.put, List.setIfInBounds_toArray, List.set_cons_zero, List.set_cons_succ, Array.replicate]
   have a0 := Row.cell (Row.alloc R9.out (.cells #[.pointer (some ⟨p, 0, none⟩), .int .u64 (nx : Int)] 71)) 0; have a1 := Row.cell (Row.alloc R9.out (.cells #[.pointer (some ⟨p, 0, none⟩), .int .u64 (nx : Int)] 71)) 1; have a2 := Row.cell (Row.alloc R9.out (.cells #[.pointer (some ⟨p, 0, none⟩), .int .u64 (nx : Int)] 71)) 2; have a3 := Row.cell (Row.alloc R9.out (.cells #[.pointer (some ⟨p, 0, none⟩), .int .u64 (nx : Int)] 71)) 3; simp only [KepC, List.getElem?_cons_succ, List.getElem?_cons_zero] at a0 a1 a2 a3
   refine rA [5] (h := ?_)
   refine cA (h := fun K hK => ?_) (hs := ?_)
   ·go_simp
    refine hK _ _ ?_
    clear hK K
    try simp only [Act.put, List.setIfInBounds_toArray, List.set_cons_zero, List.set_cons_succ, Array.replicate]
    have s0 := Row.cell (Row.alloc K9.out (.cells #[.pointer (some ⟨p, 0, none⟩), .int .u64 (nx : Int)] 71)) 0; have s1 := Row.cell (Row.alloc K9.out (.cells #[.pointer (some ⟨p, 0, none⟩), .int .u64 (nx : Int)] 71)) 1; have s2 := Row.cell (Row.alloc K9.out (.cells #[.pointer (some ⟨p, 0, none⟩), .int .u64 (nx : Int)] 71)) 2; have s3 := Row.cell (Row.alloc K9.out (.cells #[.pointer (some ⟨p, 0, none⟩), .int .u64 (nx : Int)] 71)) 3; simp only [KepC, List.getElem?_cons_succ, List.getElem?_cons_zero] at s0 s1 s2 s3; have f0 := Row.frozen (Row.alloc K9.out (.cells #[.pointer (some ⟨p, 0, none⟩), .int .u64 (nx : Int)] 71)) 0; have f1 := Row.frozen (Row.alloc K9.out (.cells #[.pointer (some ⟨p, 0, none⟩), .int .u64 (nx : Int)] 71)) 1; have f2 := Row.frozen (Row.alloc K9.out (.cells #[.pointer (some ⟨p, 0, none⟩), .int .u64 (nx : Int)] 71)) 2; have f3 := Row.frozen (Row.alloc K9.out (.cells #[.pointer (some ⟨p, 0, none⟩), .int .u64 (nx : Int)] 71)) 3
    refine rA [7] (h := ?_)
    refine cA (h := fun K hK => ?_) (hs := ?_)
    ·go_simp
     refine hK _ _ ?_
     clear hK K
     try simp only [Act.put, List.setIfInBounds_toArray, List.set_cons_zero, List.set_cons_succ, Array.replicate]
     refine tA (i := 8) (v := ?_) (y := (Or.inl ⟨by rfl, ?_⟩)) (h := ?_)
     rotate_left
     ·intro w; go_simp; try with_reducible rfl
     try simp only [Act.put, List.setIfInBounds_toArray, List.set_cons_zero, List.set_cons_succ, Array.replicate]
     refine wpAny_done (by kernel_rfl) ?_ _
     go_wp2_with fail
     refine Open_retG _ _ (.pointer (some ⟨w9.heap.size, 0, none⟩)) (.int .i64 0) w.heap.size rfl rfl rfl rfl (rows4 (Row.alloc K9.out _) _ _ _ _) ?_
     exact OpenYes.fin p w.heap.size nx S has sb R w w3 w9 _ _ rfl D9.out HP.out S9.out K9.out L9.out SV9.out U9.out E4.out _ (sets4 _ _ _ _ _ _)
    exact AllReady.nil
   exact AllReady.nil
  refine cA (h := fun K hK => ?_) (hs := ?_)
  ·go_simp
   refine hK _ _ ?_
   clear hK K
   try simp only [Act.put, List.setIfInBounds_toArray, List.set_cons_zero, List.set_cons_succ, Array.replicate]
   refine rA [4] (h := ?_)
   refine cA (h := fun K hK => ?_) (hs := ?_)
   ·go_simp
    refine hK _ _ ?_
    clear hK K
    try simp only [Act.put, List.setIfInBounds_toArray, List.set_cons_zero, List.set_cons_succ, Array.replicate]
    refine tA (i := 6) (v := ?_) (y := (Or.inl ⟨by rfl, ?_⟩)) (h := ?_)
    rotate_left
    ·intro w; go_simp; try with_reducible rfl
    try simp only [Act.put, List.setIfInBounds_toArray, List.set_cons_zero, List.set_cons_succ, Array.replicate]
    have s0 := Row.cell (Row.alloc K9.out (.cells #[.pointer (some ⟨p, 0, none⟩), .int .u64 (nx : Int)] 71)) 0; have s1 := Row.cell (Row.alloc K9.out (.cells #[.pointer (some ⟨p, 0, none⟩), .int .u64 (nx : Int)] 71)) 1; have s2 := Row.cell (Row.alloc K9.out (.cells #[.pointer (some ⟨p, 0, none⟩), .int .u64 (nx : Int)] 71)) 2; have s3 := Row.cell (Row.alloc K9.out (.cells #[.pointer (some ⟨p, 0, none⟩), .int .u64 (nx : Int)] 71)) 3; simp only [KepC, List.getElem?_cons_succ, List.getElem?_cons_zero] at s0 s1 s2 s3; have f0 := Row.frozen (Row.alloc K9.out (.cells #[.pointer (some ⟨p, 0, none⟩), .int .u64 (nx : Int)] 71)) 0; have f1 := Row.frozen (Row.alloc K9.out (.cells #[.pointer (some ⟨p, 0, none⟩), .int .u64 (nx : Int)] 71)) 1; have f2 := Row.frozen (Row.alloc K9.out (.cells #[.pointer (some ⟨p, 0, none⟩), .int .u64 (nx : Int)] 71)) 2; have f3 := Row.frozen (Row.alloc K9.out (.cells #[.pointer (some ⟨p, 0, none⟩), .int .u64 (nx : Int)] 71)) 3
    refine rA [7] (h := ?_)
    refine cA (h := fun K hK => ?_) (hs := ?_)
    ·go_simp
     refine hK _ _ ?_
     clear hK K
     try simp only [Act.put, List.setIfInBounds_toArray, List.set_cons_zero, List.set_cons_succ, Array.replicate]
     refine tA (i := 8) (v := ?_) (y := (Or.inl ⟨by rfl, ?_⟩)) (h := ?_)
     rotate_left
     ·intro w; go_simp; try with_reducible rfl
     try simp only [Act.put, List.setIfInBounds_toArray, List.set_cons_zero, List.set_cons_succ, Array.replicate]
     refine wpAny_done (by kernel_rfl) ?_ _
     go_wp2_with fail
     refine Open_retG _ _ (.pointer (some ⟨w9.heap.size, 0, none⟩)) (.int .i64 0) w.heap.size rfl rfl rfl rfl (rows4 (Row.alloc K9.out _) _ _ _ _) ?_
     exact OpenYes.fin p w.heap.size nx S has sb R w w3 w9 _ _ rfl D9.out HP.out S9.out K9.out L9.out SV9.out U9.out E4.out _ (sets4 _ _ _ _ _ _)
    exact AllReady.nil
   exact AllReady.nil
  exact AllReady.nil
 refine cA (h := fun K hK => ?_) (hs := ?_)
 ·go_simp
  refine hK _ _ ?_
  clear hK K
  try simp only [Act.put, List.setIfInBounds_toArray, List.set_cons_zero, List.set_cons_succ, Array.replicate]
  refine rA [2] (h := ?_)
  refine cA (h := fun K hK => ?_) (hs := ?_)
  ·go_simp
   refine hK _ _ ?_
   clear hK K
   try simp only [Act.put, List.setIfInBounds_toArray, List.set_cons_zero, List.set_cons_succ, Array.replicate]
   refine tA (i := 3) (v := ?_) (y := (Or.inl ⟨by rfl, ?_⟩)) (h := ?_)
   rotate_left
   ·intro w; go_simp; try with_reducible rfl
   try simp only [Act.put, List.setIfInBounds_toArray, List.set_cons_zero, List.set_cons_succ, Array.replicate]
   refine rA [4] (h := ?_)
   refine cA (h := fun K hK => ?_) (hs := ?_)
   ·go_simp
    refine hK _ _ ?_
    clear hK K
    try simp only [Act.put, List.setIfInBounds_toArray, List.set_cons_zero, List.set_cons_succ, Array.replicate]
    refine tA (i := 6) (v := ?_) (y := (Or.inl ⟨by rfl, ?_⟩)) (h := ?_)
    rotate_left
    ·intro w; go_simp; try with_reducible rfl
    try simp only [Act.put, List.setIfInBounds_toArray, List.set_cons_zero, List.set_cons_succ, Array.replicate]
    have s0 := Row.cell (Row.alloc K9.out (.cells #[.pointer (some ⟨p, 0, none⟩), .int .u64 (nx : Int)] 71)) 0; have s1 := Row.cell (Row.alloc K9.out (.cells #[.pointer (some ⟨p, 0, none⟩), .int .u64 (nx : Int)] 71)) 1; have s2 := Row.cell (Row.alloc K9.out (.cells #[.pointer (some ⟨p, 0, none⟩), .int .u64 (nx : Int)] 71)) 2; have s3 := Row.cell (Row.alloc K9.out (.cells #[.pointer (some ⟨p, 0, none⟩), .int .u64 (nx : Int)] 71)) 3; simp only [KepC, List.getElem?_cons_succ, List.getElem?_cons_zero] at s0 s1 s2 s3; have f0 := Row.frozen (Row.alloc K9.out (.cells #[.pointer (some ⟨p, 0, none⟩), .int .u64 (nx : Int)] 71)) 0; have f1 := Row.frozen (Row.alloc K9.out (.cells #[.pointer (some ⟨p, 0, none⟩), .int .u64 (nx : Int)] 71)) 1; have f2 := Row.frozen (Row.alloc K9.out (.cells #[.pointer (some ⟨p, 0, none⟩), .int .u64 (nx : Int)] 71)) 2; have f3 := Row.frozen (Row.alloc K9.out (.cells #[.pointer (some ⟨p, 0, none⟩), .int .u64 (nx : Int)] 71)) 3
    refine rA [7] (h := ?_)
    refine cA (h := fun K hK => ?_) (hs := ?_)
    ·go_simp
     refine hK _ _ ?_
     clear hK K
     try simp only [Act.put, List.setIfInBounds_toArray, List.set_cons_zero, List.set_cons_succ, Array.replicate]
     refine tA (i := 8) (v := ?_) (y := (Or.inl ⟨by rfl, ?_⟩)) (h := ?_)
     rotate_left
     ·intro w; go_simp; try with_reducible rfl
     try simp only [Act.put, List.setIfInBounds_toArray, List.set_cons_zero, List.set_cons_succ, Array.replicate]
     refine wpAny_done (by kernel_rfl) ?_ _
     go_wp2_with fail
     refine Open_retG _ _ (.pointer (some ⟨w9.heap.size, 0, none⟩)) (.int .i64 0) w.heap.size rfl rfl rfl rfl (rows4 (Row.alloc K9.out _) _ _ _ _) ?_
     exact OpenYes.fin p w.heap.size nx S has sb R w w3 w9 _ _ rfl D9.out HP.out S9.out K9.out L9.out SV9.out U9.out E4.out _ (sets4 _ _ _ _ _ _)
    exact AllReady.nil
   exact AllReady.nil
  exact AllReady.nil
 exact AllReady.nil
theorem Open_mend0 (p : Nat) (S S1 : PD) (w : World) (has : Bool) (sb : List UInt8) (n1 at_ nx : Nat) (R : List (List UInt8)) (e1 : Nat) (hS : Dsk w p S) (hd : S.dead = false) (hT : snF S.n1 = (has, sb, n1, 0)) (hm : S.left ≤ 9223372036854775807) (h0l : S.n0.length ≤ 50000000) (h1l : S.n1.length ≤ 50000000) (hlim : -1000000000000 ≤ S.lim ∧ S.lim ≤ 1000000000000) (U : List (List UInt8) × Nat × Nat) (hU : scF (S.n0.length + 1) S.n0 = U) (hV : recF n1 U.1 0 [] n1 = (at_, R, nx)) (hk : at_ < S.n0.length) (hrep : S.replace 0 (S.n0.take at_) = (S1, e1)) (he1 : e1 ≠ 0) :
  Calls Try.prog 7 #[.pointer (some ⟨p, 0, none⟩)] w fun e w' => e = openNo e1 ∧ Dsk w' p S1 ∧ Upd p w w' := by
 have hr1 : S.read 1 = (S.n1, 0) := by unfold PD.read; rw [if_neg (by simp [hd]), if_neg (by omega)]; simp
 have hr0 : S.read 0 = (S.n0, 0) := by unfold PD.read; rw [if_neg (by simp [hd]), if_neg (by omega)]; simp
 have HR1 := Lib.hid hr1
 have HR0 := Lib.hid hr0
 have HS := Lib.hid hS
 have HP := Lib.hid hS.lt
 have HT := Lib.hid (show S.n0.length + S.n1.length ≤ 100000000000 by omega)
 have HSN := Lib.hid hT
 have HM := Lib.hid hm
 have HLIM := Lib.hid hlim
 clear hr1 hr0 hS hd hT hm hlim
 have hUl := scF_count (S.n0.length + 1) S.n0
 rw [hU] at hUl
 have hn1 := snF_num S.n1
 rw [HSN.out] at hn1
 dsimp only at hn1
 have hfr := scF_frames (S.n0.length + 1) S.n0
 rw [hU] at hfr
 have hat := recF_at n1 U.1 0 [] n1
 rw [hV] at hat
 obtain ⟨hat, hnx, hRl⟩ := hat
 dsimp only at hat hnx hRl
 have hat : at_ ≤ S.n0.length := by omega
 have HU := Lib.hid hU
 have HV := Lib.hid hV
 clear hU hV hfr
 have hmI : (at_ : Int) < (S.n0.length : Int) := by omega
 have HREP := Lib.hid hrep
 clear hrep
 have he1I : ¬ (e1 : Int) = 0 := by omega
 go_enter Try.func7, Try.ntmps7
 go_wp2_with fail
 refine (Read_any p 1 S _ (HS.out.keepB (balloc (balloc (Below.refl _ _) _) _)) HT.out).mono ?_
 rw [HR1.out]
 rintro e w1 ⟨v1, rfl, ho1, hb1⟩
 obtain ⟨x1, c1, rfl, -⟩ := ho1.sh.open
 have hB1 : Below w.heap.size w w1 := bstep (balloc (balloc (Below.refl _ _) _) _) hb1
 have K1 : Row w1 w.heap.size 31 (KepC false (.slice none 0 0) (.slice none 0 0) 0) := ((Row.new w 31 (KepC false (.slice none 0 0) (.slice none 0 0) 0)).alloc _).keep hb1
 have K1' : Row w1 (w.heap.size + 1) 31 (KepC false (.slice none 0 0) (.slice none 0 0) 0) := by
  have := (Row.new (w.alloc (.cells (KepC false (.slice none 0 0) (.slice none 0 0) 0).toArray 31)) 31 (KepC false (.slice none 0 0) (.slice none 0 0) 0)).keep hb1
  simpa using this
 have HB1 := Lib.hid hB1
 have HK1 := Lib.hid K1
 have HK1' := Lib.hid K1'
 have HO1 := Lib.hid ho1
 clear ho1 hb1 hB1 K1 K1'
 go_wp2_with (go_at_call 23; refine (snapshot_any _ S.n1 (w.heap.size + 1) w1 HK1'.out HO1.out.sh (by omega) _ HSN.out).mono ?_; rintro e w2 ⟨sv, rfl, hr2, hs2, hu2⟩; obtain ⟨xs, cs, rfl, -⟩ := hs2.sh.open; have K2 := Lib.hid (hu2.row HK1.out (by omega)); have R2 := Lib.hid hr2; have SV2 := Lib.hid hs2; have D2 := Lib.hid ((HS.out.keepB HB1.out).updO HK1'.out (by decide) (by have := HP.out; omega) hu2); have U2 := Lib.hid (((Upd.refl p w).then HB1.out).fresh hu2 (by omega)); have Z2 := Lib.hid (Nat.le_trans HB1.out.size hu2.sizeLe); clear hr2 hs2 hu2)
 refine (Read_any p 0 S _ D2.out HT.out).mono ?_
 rw [HR0.out]
 rintro e w3 ⟨v3, rfl, ho3, hb3⟩
 obtain ⟨x3, c3, rfl, g1, g2, g3, -⟩ := ho3.sh.open
 have HO3 := Lib.hid ho3
 have HB3 := Lib.hid hb3
 clear ho3 hb3
 go_wp2_with (first
  | (go_at_call 24; refine (records_any _ S.n0 (w.heap.size + 1) n1 has _ _ (R2.out.keep HB3.out) HO3.out.sh (by omega) hn1 U HU.out (by omega) _ HV.out).mono ?_; rintro e w4 ⟨rv, rfl, hr4, ho4, hu4⟩; dsimp only at hr4 ho4; obtain ⟨x4, c4, rfl, -⟩ := ho4.bss.open; have K4 := Lib.hid (hu4.row (K2.out.keep HB3.out) (by omega)); have R4 := Lib.hid hr4; have SV4 := Lib.hid (hu4.own (SV2.out.below HB3.out) (R2.out.keep HB3.out) (by decide)); have LG4 := Lib.hid (hu4.own HO3.out (R2.out.keep HB3.out) (by decide)); have L4 := Lib.hid ho4; have D4 := Lib.hid ((D2.out.keepB HB3.out).updO (R2.out.keep HB3.out) (by decide) (by have := HP.out; omega) hu4); have U4 := Lib.hid ((U2.out.then HB3.out).fresh hu4 (by omega)); have E4 := Lib.hid (Nat.le_trans Z2.out HB3.out.size); clear hr4 ho4 hu4)
  | (go_at_call 25; refine (Replace_of p 0 _ (S.n0.take at_) S S1 e1 HREP.out _ D4.out (fun w' hu => (hu.own LG4.out D4.out.rowC.choose_spec (by decide)).sh.take at_ hat) HM.out HT.out (by rw [List.length_take]; omega) HLIM.out).mono ?_; rintro e w5 ⟨rfl, hd5, hu5⟩; have K5 := Lib.hid (hu5.row K4.out (by have := HP.out; omega)); have R5 := Lib.hid (hu5.row R4.out (by have := HP.out; omega)); have SV5 := Lib.hid (hu5.own SV4.out D4.out.rowC.choose_spec (by decide)); have L5 := Lib.hid (hu5.bos L4.out D4.out.rowC.choose_spec (by decide) (by decide)); have D5 := Lib.hid hd5; have U5 := Lib.hid (U4.out.trans hu5); have z0 := Row.cell (K5.out) 0; have z1 := Row.cell (K5.out) 1; have z2 := Row.cell (K5.out) 2; have z3 := Row.cell (K5.out) 3; simp only [KepC, List.getElem?_cons_succ, List.getElem?_cons_zero] at z0 z1 z2 z3; have zf0 := Row.frozen (K5.out) 0; have zf1 := Row.frozen (K5.out) 1; have zf2 := Row.frozen (K5.out) 2; have zf3 := Row.frozen (K5.out) 3; clear hd5 hu5))
 refine Open_retG _ _ (.pointer none) (.int .i64 (e1 : Int)) w.heap.size rfl rfl rfl rfl (rows4 K5.out _ _ _ _) ?_
 exact ⟨rfl, D5.out.updO K5.out (by decide) (by have := HP.out; omega) (sets4 _ _ _ _ _ _), U5.out.fresh (sets4 _ _ _ _ _ _) (Nat.le_refl _)⟩
theorem Open_mend1 (p : Nat) (S S1 S2 : PD) (w : World) (has : Bool) (sb : List UInt8) (n1 at_ nx : Nat) (R : List (List UInt8)) (e2 : Nat) (hS : Dsk w p S) (hd : S.dead = false) (hT : snF S.n1 = (has, sb, n1, 0)) (hm : S.left ≤ 9223372036854775807) (h0l : S.n0.length ≤ 50000000) (h1l : S.n1.length ≤ 50000000) (hlim : -1000000000000 ≤ S.lim ∧ S.lim ≤ 1000000000000) (U : List (List UInt8) × Nat × Nat) (hU : scF (S.n0.length + 1) S.n0 = U) (hV : recF n1 U.1 0 [] n1 = (at_, R, nx)) (hk : at_ < S.n0.length) (hrep : S.replace 0 (S.n0.take at_) = (S1, 0)) (hsyn : S1.sync 0 = (S2, e2)) (he2 : e2 ≠ 0) :
  Calls Try.prog 7 #[.pointer (some ⟨p, 0, none⟩)] w fun e w' => e = openNo e2 ∧ Dsk w' p S2 ∧ Upd p w w' := by
 have hbd := replace_bd S 0 (S.n0.take at_)
 rw [hrep] at hbd
 obtain ⟨hb1, hb2, hb3⟩ := hbd
 dsimp only at hb1 hb2 hb3
 rw [List.length_take] at hb3
 have HB1' := Lib.hid hb1
 have HB2 := Lib.hid hb2
 have HB3' := Lib.hid (show S1.n0.length + S1.n1.length ≤ S.n0.length + S.n1.length + S.n0.length by omega)
 have HSYN := Lib.hid hsyn
 clear hb1 hb2 hb3 hsyn
 have hr1 : S.read 1 = (S.n1, 0) := by unfold PD.read; rw [if_neg (by simp [hd]), if_neg (by omega)]; simp
 have hr0 : S.read 0 = (S.n0, 0) := by unfold PD.read; rw [if_neg (by simp [hd]), if_neg (by omega)]; simp
 have HR1 := Lib.hid hr1
 have HR0 := Lib.hid hr0
 have HS := Lib.hid hS
 have HP := Lib.hid hS.lt
 have HT := Lib.hid (show S.n0.length + S.n1.length ≤ 100000000000 by omega)
 have HSN := Lib.hid hT
 have HM := Lib.hid hm
 have HLIM := Lib.hid hlim
 clear hr1 hr0 hS hd hT hm hlim
 have hUl := scF_count (S.n0.length + 1) S.n0
 rw [hU] at hUl
 have hn1 := snF_num S.n1
 rw [HSN.out] at hn1
 dsimp only at hn1
 have hfr := scF_frames (S.n0.length + 1) S.n0
 rw [hU] at hfr
 have hat := recF_at n1 U.1 0 [] n1
 rw [hV] at hat
 obtain ⟨hat, hnx, hRl⟩ := hat
 dsimp only at hat hnx hRl
 have hat : at_ ≤ S.n0.length := by omega
 have HU := Lib.hid hU
 have HV := Lib.hid hV
 clear hU hV hfr
 have hmI : (at_ : Int) < (S.n0.length : Int) := by omega
 have HREP := Lib.hid hrep
 clear hrep
 have he2I : ¬ (e2 : Int) = 0 := by omega
 go_enter Try.func7, Try.ntmps7
 go_wp2_with fail
 refine (Read_any p 1 S _ (HS.out.keepB (balloc (balloc (Below.refl _ _) _) _)) HT.out).mono ?_
 rw [HR1.out]
 rintro e w1 ⟨v1, rfl, ho1, hb1⟩
 obtain ⟨x1, c1, rfl, -⟩ := ho1.sh.open
 have hB1 : Below w.heap.size w w1 := bstep (balloc (balloc (Below.refl _ _) _) _) hb1
 have K1 : Row w1 w.heap.size 31 (KepC false (.slice none 0 0) (.slice none 0 0) 0) := ((Row.new w 31 (KepC false (.slice none 0 0) (.slice none 0 0) 0)).alloc _).keep hb1
 have K1' : Row w1 (w.heap.size + 1) 31 (KepC false (.slice none 0 0) (.slice none 0 0) 0) := by
  have := (Row.new (w.alloc (.cells (KepC false (.slice none 0 0) (.slice none 0 0) 0).toArray 31)) 31 (KepC false (.slice none 0 0) (.slice none 0 0) 0)).keep hb1
  simpa using this
 have HB1 := Lib.hid hB1
 have HK1 := Lib.hid K1
 have HK1' := Lib.hid K1'
 have HO1 := Lib.hid ho1
 clear ho1 hb1 hB1 K1 K1'
 go_wp2_with (go_at_call 23; refine (snapshot_any _ S.n1 (w.heap.size + 1) w1 HK1'.out HO1.out.sh (by omega) _ HSN.out).mono ?_; rintro e w2 ⟨sv, rfl, hr2, hs2, hu2⟩; obtain ⟨xs, cs, rfl, -⟩ := hs2.sh.open; have K2 := Lib.hid (hu2.row HK1.out (by omega)); have R2 := Lib.hid hr2; have SV2 := Lib.hid hs2; have D2 := Lib.hid ((HS.out.keepB HB1.out).updO HK1'.out (by decide) (by have := HP.out; omega) hu2); have U2 := Lib.hid (((Upd.refl p w).then HB1.out).fresh hu2 (by omega)); have Z2 := Lib.hid (Nat.le_trans HB1.out.size hu2.sizeLe); clear hr2 hs2 hu2)
 refine (Read_any p 0 S _ D2.out HT.out).mono ?_
 rw [HR0.out]
 rintro e w3 ⟨v3, rfl, ho3, hb3⟩
 obtain ⟨x3, c3, rfl, g1, g2, g3, -⟩ := ho3.sh.open
 have HO3 := Lib.hid ho3
 have HB3 := Lib.hid hb3
 clear ho3 hb3
 go_wp2_with (first
  | (go_at_call 24; refine (records_any _ S.n0 (w.heap.size + 1) n1 has _ _ (R2.out.keep HB3.out) HO3.out.sh (by omega) hn1 U HU.out (by omega) _ HV.out).mono ?_; rintro e w4 ⟨rv, rfl, hr4, ho4, hu4⟩; dsimp only at hr4 ho4; obtain ⟨x4, c4, rfl, -⟩ := ho4.bss.open; have K4 := Lib.hid (hu4.row (K2.out.keep HB3.out) (by omega)); have R4 := Lib.hid hr4; have SV4 := Lib.hid (hu4.own (SV2.out.below HB3.out) (R2.out.keep HB3.out) (by decide)); have LG4 := Lib.hid (hu4.own HO3.out (R2.out.keep HB3.out) (by decide)); have L4 := Lib.hid ho4; have D4 := Lib.hid ((D2.out.keepB HB3.out).updO (R2.out.keep HB3.out) (by decide) (by have := HP.out; omega) hu4); have U4 := Lib.hid ((U2.out.then HB3.out).fresh hu4 (by omega)); have E4 := Lib.hid (Nat.le_trans Z2.out HB3.out.size); clear hr4 ho4 hu4)
  | (go_at_call 25; refine (Replace_of p 0 _ (S.n0.take at_) S S1 0 HREP.out _ D4.out (fun w' hu => (hu.own LG4.out D4.out.rowC.choose_spec (by decide)).sh.take at_ hat) HM.out HT.out (by rw [List.length_take]; omega) HLIM.out).mono ?_; rintro e w5 ⟨rfl, hd5, hu5⟩; have K5 := Lib.hid (hu5.row K4.out (by have := HP.out; omega)); have R5 := Lib.hid (hu5.row R4.out (by have := HP.out; omega)); have SV5 := Lib.hid (hu5.own SV4.out D4.out.rowC.choose_spec (by decide)); have L5 := Lib.hid (hu5.bos L4.out D4.out.rowC.choose_spec (by decide) (by decide)); have D5 := Lib.hid hd5; have U5 := Lib.hid (U4.out.trans hu5); clear hd5 hu5)
  | (go_at_call 26; (refine (Sync_of p 0 S1 S2 e2 HSYN.out _ D5.out (by have := HB2.out; have := HM.out; omega) (by have := HT.out; have := HB3'.out; omega) (by rw [HB1'.out]; exact HLIM.out)).mono ?_; rintro e w6 ⟨rfl, hd6, hu6⟩; have K6 := Lib.hid (hu6.row K5.out (by have := HP.out; omega)); have R6 := Lib.hid (hu6.row R5.out (by have := HP.out; omega)); have SV6 := Lib.hid (hu6.own SV5.out D5.out.rowC.choose_spec (by decide)); have L6 := Lib.hid (hu6.bos L5.out D5.out.rowC.choose_spec (by decide) (by decide)); have D6 := Lib.hid hd6; have U6 := Lib.hid (U5.out.trans hu6); have z0 := Row.cell (K6.out) 0; have z1 := Row.cell (K6.out) 1; have z2 := Row.cell (K6.out) 2; have z3 := Row.cell (K6.out) 3; simp only [KepC, List.getElem?_cons_succ, List.getElem?_cons_zero] at z0 z1 z2 z3; have zf0 := Row.frozen (K6.out) 0; have zf1 := Row.frozen (K6.out) 1; have zf2 := Row.frozen (K6.out) 2; have zf3 := Row.frozen (K6.out) 3; clear hd6 hu6)))
 refine Open_retG _ _ (.pointer none) (.int .i64 (e2 : Int)) w.heap.size rfl rfl rfl rfl (rows4 K6.out _ _ _ _) ?_
 exact ⟨rfl, D6.out.updO K6.out (by decide) (by have := HP.out; omega) (sets4 _ _ _ _ _ _), U6.out.fresh (sets4 _ _ _ _ _ _) (Nat.le_refl _)⟩
theorem Open_mend (p : Nat) (S S1 S2 : PD) (w : World) (has : Bool) (sb : List UInt8) (n1 at_ nx : Nat) (R : List (List UInt8)) (hS : Dsk w p S) (hd : S.dead = false) (hT : snF S.n1 = (has, sb, n1, 0)) (hm : S.left ≤ 9223372036854775807) (h0l : S.n0.length ≤ 50000000) (h1l : S.n1.length ≤ 50000000) (hlim : -1000000000000 ≤ S.lim ∧ S.lim ≤ 1000000000000) (U : List (List UInt8) × Nat × Nat) (hU : scF (S.n0.length + 1) S.n0 = U) (hV : recF n1 U.1 0 [] n1 = (at_, R, nx)) (hk : at_ < S.n0.length) (hrep : S.replace 0 (S.n0.take at_) = (S1, 0)) (hsyn : S1.sync 0 = (S2, 0)) :
  Calls Try.prog 7 #[.pointer (some ⟨p, 0, none⟩)] w fun e w' => OpenYes w w' p e has sb R nx ∧ Dsk w' p S2 ∧ Upd p w w' := by
 have hbd := replace_bd S 0 (S.n0.take at_)
 rw [hrep] at hbd
 obtain ⟨hb1, hb2, hb3⟩ := hbd
 dsimp only at hb1 hb2 hb3
 rw [List.length_take] at hb3
 have HB1' := Lib.hid hb1
 have HB2 := Lib.hid hb2
 have HB3' := Lib.hid (show S1.n0.length + S1.n1.length ≤ S.n0.length + S.n1.length + S.n0.length by omega)
 have HSYN := Lib.hid hsyn
 clear hb1 hb2 hb3 hsyn
 have hr1 : S.read 1 = (S.n1, 0) := by unfold PD.read; rw [if_neg (by simp [hd]), if_neg (by omega)]; simp
 have hr0 : S.read 0 = (S.n0, 0) := by unfold PD.read; rw [if_neg (by simp [hd]), if_neg (by omega)]; simp
 have HR1 := Lib.hid hr1
 have HR0 := Lib.hid hr0
 have HS := Lib.hid hS
 have HP := Lib.hid hS.lt
 have HT := Lib.hid (show S.n0.length + S.n1.length ≤ 100000000000 by omega)
 have HSN := Lib.hid hT
 have HM := Lib.hid hm
 have HLIM := Lib.hid hlim
 clear hr1 hr0 hS hd hT hm hlim
 have hUl := scF_count (S.n0.length + 1) S.n0
 rw [hU] at hUl
 have hn1 := snF_num S.n1
 rw [HSN.out] at hn1
 dsimp only at hn1
 have hfr := scF_frames (S.n0.length + 1) S.n0
 rw [hU] at hfr
 have hat := recF_at n1 U.1 0 [] n1
 rw [hV] at hat
 obtain ⟨hat, hnx, hRl⟩ := hat
 dsimp only at hat hnx hRl
 have hat : at_ ≤ S.n0.length := by omega
 have HU := Lib.hid hU
 have HV := Lib.hid hV
 clear hU hV hfr
 have hmI : (at_ : Int) < (S.n0.length : Int) := by omega
 have HREP := Lib.hid hrep
 clear hrep
 go_enter Try.func7, Try.ntmps7
 go_wp2_with fail
 refine (Read_any p 1 S _ (HS.out.keepB (balloc (balloc (Below.refl _ _) _) _)) HT.out).mono ?_
 rw [HR1.out]
 rintro e w1 ⟨v1, rfl, ho1, hb1⟩
 obtain ⟨x1, c1, rfl, -⟩ := ho1.sh.open
 have hB1 : Below w.heap.size w w1 := bstep (balloc (balloc (Below.refl _ _) _) _) hb1
 have K1 : Row w1 w.heap.size 31 (KepC false (.slice none 0 0) (.slice none 0 0) 0) := ((Row.new w 31 (KepC false (.slice none 0 0) (.slice none 0 0) 0)).alloc _).keep hb1
 have K1' : Row w1 (w.heap.size + 1) 31 (KepC false (.slice none 0 0) (.slice none 0 0) 0) := by
  have := (Row.new (w.alloc (.cells (KepC false (.slice none 0 0) (.slice none 0 0) 0).toArray 31)) 31 (KepC false (.slice none 0 0) (.slice none 0 0) 0)).keep hb1
  simpa using this
 have HB1 := Lib.hid hB1
 have HK1 := Lib.hid K1
 have HK1' := Lib.hid K1'
 have HO1 := Lib.hid ho1
 clear ho1 hb1 hB1 K1 K1'
 go_wp2_with (go_at_call 23; refine (snapshot_any _ S.n1 (w.heap.size + 1) w1 HK1'.out HO1.out.sh (by omega) _ HSN.out).mono ?_; rintro e w2 ⟨sv, rfl, hr2, hs2, hu2⟩; obtain ⟨xs, cs, rfl, -⟩ := hs2.sh.open; have K2 := Lib.hid (hu2.row HK1.out (by omega)); have R2 := Lib.hid hr2; have SV2 := Lib.hid hs2; have D2 := Lib.hid ((HS.out.keepB HB1.out).updO HK1'.out (by decide) (by have := HP.out; omega) hu2); have U2 := Lib.hid (((Upd.refl p w).then HB1.out).fresh hu2 (by omega)); have Z2 := Lib.hid (Nat.le_trans HB1.out.size hu2.sizeLe); clear hr2 hs2 hu2)
 refine (Read_any p 0 S _ D2.out HT.out).mono ?_
 rw [HR0.out]
 rintro e w3 ⟨v3, rfl, ho3, hb3⟩
 obtain ⟨x3, c3, rfl, g1, g2, g3, -⟩ := ho3.sh.open
 have HO3 := Lib.hid ho3
 have HB3 := Lib.hid hb3
 clear ho3 hb3
 go_wp2_with (first
  | (go_at_call 24; refine (records_any _ S.n0 (w.heap.size + 1) n1 has _ _ (R2.out.keep HB3.out) HO3.out.sh (by omega) hn1 U HU.out (by omega) _ HV.out).mono ?_; rintro e w4 ⟨rv, rfl, hr4, ho4, hu4⟩; dsimp only at hr4 ho4; obtain ⟨x4, c4, rfl, -⟩ := ho4.bss.open; have K4 := Lib.hid (hu4.row (K2.out.keep HB3.out) (by omega)); have R4 := Lib.hid hr4; have SV4 := Lib.hid (hu4.own (SV2.out.below HB3.out) (R2.out.keep HB3.out) (by decide)); have LG4 := Lib.hid (hu4.own HO3.out (R2.out.keep HB3.out) (by decide)); have L4 := Lib.hid ho4; have D4 := Lib.hid ((D2.out.keepB HB3.out).updO (R2.out.keep HB3.out) (by decide) (by have := HP.out; omega) hu4); have U4 := Lib.hid ((U2.out.then HB3.out).fresh hu4 (by omega)); have E4 := Lib.hid (Nat.le_trans Z2.out HB3.out.size); clear hr4 ho4 hu4)
  | (go_at_call 25; refine (Replace_of p 0 _ (S.n0.take at_) S S1 0 HREP.out _ D4.out (fun w' hu => (hu.own LG4.out D4.out.rowC.choose_spec (by decide)).sh.take at_ hat) HM.out HT.out (by rw [List.length_take]; omega) HLIM.out).mono ?_; rintro e w5 ⟨rfl, hd5, hu5⟩; have K5 := Lib.hid (hu5.row K4.out (by have := HP.out; omega)); have R5 := Lib.hid (hu5.row R4.out (by have := HP.out; omega)); have SV5 := Lib.hid (hu5.own SV4.out D4.out.rowC.choose_spec (by decide)); have L5 := Lib.hid (hu5.bos L4.out D4.out.rowC.choose_spec (by decide) (by decide)); have D5 := Lib.hid hd5; have U5 := Lib.hid (U4.out.trans hu5); clear hd5 hu5)
  | (go_at_call 26; (refine (Sync_of p 0 S1 S2 0 HSYN.out _ D5.out (by have := HB2.out; have := HM.out; omega) (by have := HT.out; have := HB3'.out; omega) (by rw [HB1'.out]; exact HLIM.out)).mono ?_; rintro e w6 ⟨rfl, hd6, hu6⟩; have K6 := Lib.hid (hu6.row K5.out (by have := HP.out; omega)); have R6 := Lib.hid (hu6.row R5.out (by have := HP.out; omega)); have SV6 := Lib.hid (hu6.own SV5.out D5.out.rowC.choose_spec (by decide)); have L6 := Lib.hid (hu6.bos L5.out D5.out.rowC.choose_spec (by decide) (by decide)); have D6 := Lib.hid hd6; have U6 := Lib.hid (U5.out.trans hu6); clear hd6 hu6)))
 have R9 := Lib.hid (Row.drew R6.out)
 have K9 := Lib.hid (Row.drew K6.out)
 have L9 := Lib.hid (L6.out.below (Below.refl _ _).drew)
 have SV9 := Lib.hid (SV6.out.below (Below.refl _ _).drew)
 have D9 := Lib.hid (D6.out.keepB (Below.refl _ _).drew)
 have U9 := Lib.hid (U6.out.then (Below.refl _ _).drew)
 have S9 := Lib.hid (show w.heap.size + 1 < w6.drew.heap.size from R9.out.lt)
 refine wp_region_any (by kernel_rfl) ?_
 try (change wpAny _ _ _ _ _ _ _ (World.drew _))
 generalize World.drew w6 = w9 at *
 have k0 := Row.cell (R9.out) 0; have k1 := Row.cell (R9.out) 1; have k2 := Row.cell (R9.out) 2; have k3 := Row.cell (R9.out) 3; simp only [KepC, List.getElem?_cons_succ, List.getElem?_cons_zero] at k0 k1 k2 k3
 refine tA (i := 0) (v := ?_) (y := (Or.inl ⟨by rfl, ?_⟩)) (h := ?_)
 rotate_left
 ·intro w; go_simp; try with_reducible rfl
 try simp only [Act.put, List.setIfInBounds_toArray, List.set_cons_zero, List.set_cons_succ, Array.replicate]
 refine tA (i := 1) (v := ?_) (y := (Or.inl ⟨by rfl, ?_⟩)) (h := ?_)
 rotate_left
 ·intro w; go_simp; try with_reducible rfl
 try simp only [Act.put, List.setIfInBounds_toArray, List.set_cons_zero, List.set_cons_succ, Array.replicate]
 refine rA [2, 5] (h := ?_)
 refine cA (h := fun K hK => ?_) (hs := ?_)
 ·go_simp
  refine hK _ _ ?_
  clear hK K
  try simp only [Act.put, List.setIfInBounds_toArray, List.set_cons_zero, List.set_cons_succ, Array.replicate]
  refine tA (i := 3) (v := ?_) (y := (Or.inl ⟨by rfl, ?_⟩)) (h := ?_)
  rotate_left
  ·intro w; go_simp; try with_reducible rfl
  try simp only [Act.put, List.setIfInBounds_toArray, List.set_cons_zero, List.set_cons_succ, Array.replicate]
  refine rA [4, 5] (h := ?_)
  refine cA (h := fun K hK => ?_) (hs := ?_)
  ·go_simp
   refine hK _ _ ?_
   clear hK K
   try simp only [Act.put, List.setIfInBounds_toArray, List.set_cons_zero, List.set_cons_succ, Array.replicate]
   refine tA (i := 6) (v := ?_) (y := (Or.inl ⟨by rfl, ?_⟩)) (h := ?_)
   rotate_left
   ·intro w; go_simp; try with_reducible rfl
   try simp only [Act.put, List.setIfInBounds_toArray, List.set_cons_zero, List.set_cons_succ, Array.replicate]
   have a0 := Row.cell (Row.alloc R9.out (.cells #[.pointer (some ⟨p, 0, none⟩), .int .u64 (nx : Int)] 71)) 0; have a1 := Row.cell (Row.alloc R9.out (.cells #[.pointer (some ⟨p, 0, none⟩), .int .u64 (nx : Int)] 71)) 1; have a2 := Row.cell (Row.alloc R9.out (.cells #[.pointer (some ⟨p, 0, none⟩), .int .u64 (nx : Int)] 71)) 2; have a3 := Row.cell (Row.alloc R9.out (.cells #[.pointer (some ⟨p, 0, none⟩), .int .u64 (nx : Int)] 71)) 3; simp only [KepC, List.getElem?_cons_succ, List.getElem?_cons_zero] at a0 a1 a2 a3
   refine rA [5] (h := ?_)
   refine cA (h := fun K hK => ?_) (hs := ?_)
   ·go_simp
    refine hK _ _ ?_
    clear hK K
    try simp only [Act.put, List.setIfInBounds_toArray, List.set_cons_zero, List.set_cons_succ, Array.replicate]
    have s0 := Row.cell (Row.alloc K9.out (.cells #[.pointer (some ⟨p, 0, none⟩), .int .u64 (nx : Int)] 71)) 0; have s1 := Row.cell (Row.alloc K9.out (.cells #[.pointer (some ⟨p, 0, none⟩), .int .u64 (nx : Int)] 71)) 1; have s2 := Row.cell (Row.alloc K9.out (.cells #[.pointer (some ⟨p, 0, none⟩), .int .u64 (nx : Int)] 71)) 2; have s3 := Row.cell (Row.alloc K9.out (.cells #[.pointer (some ⟨p, 0, none⟩), .int .u64 (nx : Int)] 71)) 3; simp only [KepC, List.getElem?_cons_succ, List.getElem?_cons_zero] at s0 s1 s2 s3; have f0 := Row.frozen (Row.alloc K9.out (.cells #[.pointer (some ⟨p, 0, none⟩), .int .u64 (nx : Int)] 71)) 0; have f1 := Row.frozen (Row.alloc K9.out (.cells #[.pointer (some ⟨p, 0, none⟩), .int .u64 (nx : Int)] 71)) 1; have f2 := Row.frozen (Row.alloc K9.out (.cells #[.pointer (some ⟨p, 0, none⟩), .int .u64 (nx : Int)] 71)) 2; have f3 := Row.frozen (Row.alloc K9.out (.cells #[.pointer (some ⟨p, 0, none⟩), .int .u64 (nx : Int)] 71)) 3
    refine rA [7] (h := ?_)
    refine cA (h := fun K hK => ?_) (hs := ?_)
    ·go_simp
     refine hK _ _ ?_
     clear hK K
     try simp only [Act.put, List.setIfInBounds_toArray, List.set_cons_zero, List.set_cons_succ, Array.replicate]
     refine tA (i := 8) (v := ?_) (y := (Or.inl ⟨by rfl, ?_⟩)) (h := ?_)
     rotate_left
     ·intro w; go_simp; try with_reducible rfl
     try simp only [Act.put, List.setIfInBounds_toArray, List.set_cons_zero, List.set_cons_succ, Array.replicate]
     refine wpAny_done (by kernel_rfl) ?_ _
     go_wp2_with fail
     refine Open_retG _ _ (.pointer (some ⟨w9.heap.size, 0, none⟩)) (.int .i64 0) w.heap.size rfl rfl rfl rfl (rows4 (Row.alloc K9.out _) _ _ _ _) ?_
     exact OpenYes.fin p w.heap.size nx S2 has sb R w w3 w9 _ _ rfl D9.out HP.out S9.out K9.out L9.out SV9.out U9.out E4.out _ (sets4 _ _ _ _ _ _)
    exact AllReady.nil
   exact AllReady.nil
  refine cA (h := fun K hK => ?_) (hs := ?_)
  ·go_simp
   refine hK _ _ ?_
   clear hK K
   try simp only [Act.put, List.setIfInBounds_toArray, List.set_cons_zero, List.set_cons_succ, Array.replicate]
   refine rA [4] (h := ?_)
   refine cA (h := fun K hK => ?_) (hs := ?_)
   ·go_simp
    refine hK _ _ ?_
    clear hK K
    try simp only [Act.put, List.setIfInBounds_toArray, List.set_cons_zero, List.set_cons_succ, Array.replicate]
    refine tA (i := 6) (v := ?_) (y := (Or.inl ⟨by rfl, ?_⟩)) (h := ?_)
    rotate_left
    ·intro w; go_simp; try with_reducible rfl
    try simp only [Act.put, List.setIfInBounds_toArray, List.set_cons_zero, List.set_cons_succ, Array.replicate]
    have s0 := Row.cell (Row.alloc K9.out (.cells #[.pointer (some ⟨p, 0, none⟩), .int .u64 (nx : Int)] 71)) 0; have s1 := Row.cell (Row.alloc K9.out (.cells #[.pointer (some ⟨p, 0, none⟩), .int .u64 (nx : Int)] 71)) 1; have s2 := Row.cell (Row.alloc K9.out (.cells #[.pointer (some ⟨p, 0, none⟩), .int .u64 (nx : Int)] 71)) 2; have s3 := Row.cell (Row.alloc K9.out (.cells #[.pointer (some ⟨p, 0, none⟩), .int .u64 (nx : Int)] 71)) 3; simp only [KepC, List.getElem?_cons_succ, List.getElem?_cons_zero] at s0 s1 s2 s3; have f0 := Row.frozen (Row.alloc K9.out (.cells #[.pointer (some ⟨p, 0, none⟩), .int .u64 (nx : Int)] 71)) 0; have f1 := Row.frozen (Row.alloc K9.out (.cells #[.pointer (some ⟨p, 0, none⟩), .int .u64 (nx : Int)] 71)) 1; have f2 := Row.frozen (Row.alloc K9.out (.cells #[.pointer (some ⟨p, 0, none⟩), .int .u64 (nx : Int)] 71)) 2; have f3 := Row.frozen (Row.alloc K9.out (.cells #[.pointer (some ⟨p, 0, none⟩), .int .u64 (nx : Int)] 71)) 3
    refine rA [7] (h := ?_)
    refine cA (h := fun K hK => ?_) (hs := ?_)
    ·go_simp
     refine hK _ _ ?_
     clear hK K
     try simp only [Act.put, List.setIfInBounds_toArray, List.set_cons_zero, List.set_cons_succ, Array.replicate]
     refine tA (i := 8) (v := ?_) (y := (Or.inl ⟨by rfl, ?_⟩)) (h := ?_)
     rotate_left
     ·intro w; go_simp; try with_reducible rfl
     try simp only [Act.put, List.setIfInBounds_toArray, List.set_cons_zero, List.set_cons_succ, Array.replicate]
     refine wpAny_done (by kernel_rfl) ?_ _
     go_wp2_with fail
     refine Open_retG _ _ (.pointer (some ⟨w9.heap.size, 0, none⟩)) (.int .i64 0) w.heap.size rfl rfl rfl rfl (rows4 (Row.alloc K9.out _) _ _ _ _) ?_
     exact OpenYes.fin p w.heap.size nx S2 has sb R w w3 w9 _ _ rfl D9.out HP.out S9.out K9.out L9.out SV9.out U9.out E4.out _ (sets4 _ _ _ _ _ _)
    exact AllReady.nil
   exact AllReady.nil
  exact AllReady.nil
 refine cA (h := fun K hK => ?_) (hs := ?_)
 ·go_simp
  refine hK _ _ ?_
  clear hK K
  try simp only [Act.put, List.setIfInBounds_toArray, List.set_cons_zero, List.set_cons_succ, Array.replicate]
  refine rA [2] (h := ?_)
  refine cA (h := fun K hK => ?_) (hs := ?_)
  ·go_simp
   refine hK _ _ ?_
   clear hK K
   try simp only [Act.put, List.setIfInBounds_toArray, List.set_cons_zero, List.set_cons_succ, Array.replicate]
   refine tA (i := 3) (v := ?_) (y := (Or.inl ⟨by rfl, ?_⟩)) (h := ?_)
   rotate_left
   ·intro w; go_simp; try with_reducible rfl
   try simp only [Act.put, List.setIfInBounds_toArray, List.set_cons_zero, List.set_cons_succ, Array.replicate]
   refine rA [4] (h := ?_)
   refine cA (h := fun K hK => ?_) (hs := ?_)
   ·go_simp
    refine hK _ _ ?_
    clear hK K
    try simp only [Act.put, List.setIfInBounds_toArray, List.set_cons_zero, List.set_cons_succ, Array.replicate]
    refine tA (i := 6) (v := ?_) (y := (Or.inl ⟨by rfl, ?_⟩)) (h := ?_)
    rotate_left
    ·intro w; go_simp; try with_reducible rfl
    try simp only [Act.put, List.setIfInBounds_toArray, List.set_cons_zero, List.set_cons_succ, Array.replicate]
    have s0 := Row.cell (Row.alloc K9.out (.cells #[.pointer (some ⟨p, 0, none⟩), .int .u64 (nx : Int)] 71)) 0; have s1 := Row.cell (Row.alloc K9.out (.cells #[.pointer (some ⟨p, 0, none⟩), .int .u64 (nx : Int)] 71)) 1; have s2 := Row.cell (Row.alloc K9.out (.cells #[.pointer (some ⟨p, 0, none⟩), .int .u64 (nx : Int)] 71)) 2; have s3 := Row.cell (Row.alloc K9.out (.cells #[.pointer (some ⟨p, 0, none⟩), .int .u64 (nx : Int)] 71)) 3; simp only [KepC, List.getElem?_cons_succ, List.getElem?_cons_zero] at s0 s1 s2 s3; have f0 := Row.frozen (Row.alloc K9.out (.cells #[.pointer (some ⟨p, 0, none⟩), .int .u64 (nx : Int)] 71)) 0; have f1 := Row.frozen (Row.alloc K9.out (.cells #[.pointer (some ⟨p, 0, none⟩), .int .u64 (nx : Int)] 71)) 1; have f2 := Row.frozen (Row.alloc K9.out (.cells #[.pointer (some ⟨p, 0, none⟩), .int .u64 (nx : Int)] 71)) 2; have f3 := Row.frozen (Row.alloc K9.out (.cells #[.pointer (some ⟨p, 0, none⟩), .int .u64 (nx : Int)] 71)) 3
    refine rA [7] (h := ?_)
    refine cA (h := fun K hK => ?_) (hs := ?_)
    ·go_simp
     refine hK _ _ ?_
     clear hK K
     try simp only [Act.put, List.setIfInBounds_toArray, List.set_cons_zero, List.set_cons_succ, Array.replicate]
     refine tA (i := 8) (v := ?_) (y := (Or.inl ⟨by rfl, ?_⟩)) (h := ?_)
     rotate_left
     ·intro w; go_simp; try with_reducible rfl
     try simp only [Act.put, List.setIfInBounds_toArray, List.set_cons_zero, List.set_cons_succ, Array.replicate]
     refine wpAny_done (by kernel_rfl) ?_ _
     go_wp2_with fail
     refine Open_retG _ _ (.pointer (some ⟨w9.heap.size, 0, none⟩)) (.int .i64 0) w.heap.size rfl rfl rfl rfl (rows4 (Row.alloc K9.out _) _ _ _ _) ?_
     exact OpenYes.fin p w.heap.size nx S2 has sb R w w3 w9 _ _ rfl D9.out HP.out S9.out K9.out L9.out SV9.out U9.out E4.out _ (sets4 _ _ _ _ _ _)
    exact AllReady.nil
   exact AllReady.nil
  exact AllReady.nil
 exact AllReady.nil
end Go.Proofs.Ytkghkpkiodghiaa
namespace Go.Proofs.Ytkghkpkiodghiaa
set_option linter.unusedVariables false
set_option linter.unusedSimpArgs false
set_option linter.unnecessarySimpa false
open Go.RowKit
set_option maxRecDepth 100000
set_option maxHeartbeats 4000000

theorem sync_bd (S : PD) (n : Int) : (S.sync n).1.lim = S.lim ∧ (S.sync n).1.left ≤ S.left ∧ (S.sync n).1.n0 = S.n0 ∧ (S.sync n).1.n1 = S.n1 := by
 have hl := leftC_le S.left
 unfold PD.sync
 by_cases h1 : S.dead = true ∨ S.left = 0
 ·rw [if_pos h1]; exact ⟨rfl, Int.le_refl _, rfl, rfl⟩
 ·rw [if_neg h1]
  by_cases h2 : n < 0 ∨ 1 < n
  ·rw [if_pos h2]; exact ⟨rfl, hl, rfl, rfl⟩
  ·rw [if_neg h2]
   by_cases h4 : n = 0
   ·rw [if_pos h4]; exact ⟨rfl, hl, rfl, rfl⟩
   ·rw [if_neg h4]; exact ⟨rfl, hl, rfl, rfl⟩
/-- A snapshot is put in the place of all: the disk, the error. -/
def PD.wsnap (S : PD) (n : Nat) (b : List UInt8) : PD × Nat :=
 if (S.replace 1 (frameB (enc n ++ b))).2 ≠ 0 then S.replace 1 (frameB (enc n ++ b))
 else if ((S.replace 1 (frameB (enc n ++ b))).1.sync 1).2 ≠ 0 then (S.replace 1 (frameB (enc n ++ b))).1.sync 1
 else if (((S.replace 1 (frameB (enc n ++ b))).1.sync 1).1.replace 0 []).2 ≠ 0 then ((S.replace 1 (frameB (enc n ++ b))).1.sync 1).1.replace 0 []
 else (((S.replace 1 (frameB (enc n ++ b))).1.sync 1).1.replace 0 []).1.sync 0
theorem frame_len (n : Nat) (b : List UInt8) (hn : n < 4611686018427387904) (hl : b.length ≤ 1000000) : (frameB (enc n ++ b)).length ≤ b.length + 30 := by
 have hel := enc_length n hn
 have hns := nsize_le n
 have hfl := frameB_length (enc n ++ b) (by rw [List.length_append]; omega)
 have hns2 := nsize_le (enc n ++ b).length
 rw [hfl, List.length_append]
 rw [List.length_append] at hns2
 omega
theorem Snap_any (q p n : Nat) (vb : Value) (b : List UInt8) (S : PD) (w : World) (hq : WalR w q p n) (hS : Dsk w p S) (hb : Sh w vb b) (hn : n < 4611686018427387903) (hl : b.length ≤ 1000000) (hpq : p ≠ q) (hm : S.left ≤ 9223372036854775807) (ht : S.n0.length + S.n1.length ≤ 10000000000) (hlim : -1000000000000 ≤ S.lim ∧ S.lim ≤ 1000000000000) :
  Calls Try.prog 19 #[.pointer (some ⟨q, 0, none⟩), vb] w fun e w' => e = .returned (.int .i64 ((S.wsnap n b).2 : Int)) ∧ Dsk w' p (S.wsnap n b).1 ∧ Upd p w w' := by
 have hfb := frame_len n b (by omega) hl
 unfold PD.wsnap
 have d1 := replace_bd S 1 (frameB (enc n ++ b))
 rcases h1 : S.replace 1 (frameB (enc n ++ b)) with ⟨S1, e1⟩
 rw [h1] at d1
 have d2 := sync_bd S1 1
 rcases h2 : S1.sync 1 with ⟨S2, e2⟩
 rw [h2] at d2
 have d3 := replace_bd S2 0 []
 rcases h3 : S2.replace 0 [] with ⟨S3, e3⟩
 rw [h3] at d3
 rcases h4 : S3.sync 0 with ⟨S4, e4⟩
 dsimp only at d1 d2 d3 ⊢

 obtain ⟨b11, b12, b13⟩ := d1
 obtain ⟨b21, b22, b23, b24⟩ := d2
 obtain ⟨b31, b32, b33⟩ := d3
 simp only [List.length_nil, Nat.add_zero] at b33
 rw [b23, b24] at b33
 have M1 := Lib.hid (show S1.left ≤ 9223372036854775807 by omega)
 have M2 := Lib.hid (show S2.left ≤ 9223372036854775807 by omega)
 have M3 := Lib.hid (show S3.left ≤ 9223372036854775807 by omega)
 have T0 := Lib.hid (show S.n0.length + S.n1.length ≤ 100000000000 by omega)
 have T1 := Lib.hid (show S1.n0.length + S1.n1.length ≤ 100000000000 by omega)
 have T2 := Lib.hid (show S2.n0.length + S2.n1.length ≤ 100000000000 by rw [b23, b24]; omega)
 have T3 := Lib.hid (show S3.n0.length + S3.n1.length ≤ 100000000000 by omega)
 have Q0 := Lib.hid hlim
 have Q1 := Lib.hid (show -1000000000000 ≤ S1.lim ∧ S1.lim ≤ 1000000000000 by rw [b11]; exact hlim)
 have Q2 := Lib.hid (show -1000000000000 ≤ S2.lim ∧ S2.lim ≤ 1000000000000 by rw [b21, b11]; exact hlim)
 have Q3 := Lib.hid (show -1000000000000 ≤ S3.lim ∧ S3.lim ≤ 1000000000000 by rw [b31, b21, b11]; exact hlim)
 have M0 := Lib.hid hm
 have FB := Lib.hid (show (frameB (enc n ++ b)).length ≤ 140737488355328 by omega)
 have HQ := Lib.hid hq
 have HS := Lib.hid hS
 have HB := Lib.hid hb
 have H1 := Lib.hid h1
 have H2 := Lib.hid h2
 have H3 := Lib.hid h3
 have H4 := Lib.hid h4
 have HPQ := Lib.hid hpq
 clear hq hS hb h1 h2 h3 h4 b11 b12 b13 b21 b22 b23 b24 b31 b32 b33 hm ht hlim hpq hfb
 have h0 := Row.cell HQ.out 0
 simp only [List.getElem?_cons_succ, List.getElem?_cons_zero] at h0
 by_cases he1 : e1 = 0
 ·subst he1
  rw [if_neg (by simp)]
  by_cases he2 : e2 = 0
  ·subst he2
   rw [if_neg (by simp)]
   by_cases he3 : e3 = 0
   ·subst he3
    rw [if_neg (by simp)]
    go_enter Try.func19, Try.ntmps19
    go_wp2_with (first
     | (go_at_call 26; refine (Sync_of p 0 S3 S4 e4 H4.out _ D6.out M3.out T3.out Q3.out).mono ?_; rintro e w7 ⟨rfl, hd, hu⟩; have R7 := Lib.hid (show WalR w7 q p n from hu.row R6.out HPQ.out.symm); have h07 := Row.cell R7.out 0; simp only [List.getElem?_cons_succ, List.getElem?_cons_zero] at h07; have D7 := Lib.hid hd; have U7 := Lib.hid (U6.out.trans hu); clear hd hu)
     | (go_at_call 25; refine (Replace_of p 0 _ [] S2 S3 0 H3.out _ D5.out (fun w' hu => Sh.nil _) M2.out T2.out (by simp) Q2.out).mono ?_; rintro e w6 ⟨rfl, hd, hu⟩; have R6 := Lib.hid (show WalR w6 q p n from hu.row R5.out HPQ.out.symm); have h06 := Row.cell R6.out 0; simp only [List.getElem?_cons_succ, List.getElem?_cons_zero] at h06; have D6 := Lib.hid hd; have U6 := Lib.hid (U5.out.trans hu); clear hd hu)
     | (go_at_call 26; refine (Sync_of p 1 S1 S2 0 H2.out _ D4.out M1.out T1.out Q1.out).mono ?_; rintro e w5 ⟨rfl, hd, hu⟩; have R5 := Lib.hid (show WalR w5 q p n from hu.row R4.out HPQ.out.symm); have h05 := Row.cell R5.out 0; simp only [List.getElem?_cons_succ, List.getElem?_cons_zero] at h05; have D5 := Lib.hid hd; have U5 := Lib.hid (U4.out.trans hu); clear hd hu)
     | (go_at_call 25; refine (Replace_of p 1 _ (frameB (enc n ++ b)) S S1 0 H1.out _ D3.out (fun w' hu => (hu.own O3.out D3.out.rowC.choose_spec (by decide)).sh) M0.out T0.out FB.out Q0.out).mono ?_; rintro e w4 ⟨rfl, hd, hu⟩; have R4 := Lib.hid (show WalR w4 q p n from hu.row R3.out HPQ.out.symm); have h04 := Row.cell R4.out 0; simp only [List.getElem?_cons_succ, List.getElem?_cons_zero] at h04; have D4 := Lib.hid hd; have U4 := Lib.hid (U3.out.trans hu); clear hd hu)
     | (go_at_call 27; refine (framed_any q p n _ b _ HQ.out HB.out (by omega) hl).mono ?_; rintro e w3 ⟨v3, rfl, ho3, hb3⟩; have R3 := Lib.hid (show WalR w3 q p n from HQ.out.keep hb3); have h03 := Row.cell R3.out 0; simp only [List.getElem?_cons_succ, List.getElem?_cons_zero] at h03; have O3 := Lib.hid ho3; have U3 := Lib.hid (Upd.of_below (p := p) hb3); have D3 := Lib.hid (HS.out.keepB hb3); clear ho3 hb3))
    go_ret
    exact ⟨rfl, D7.out, U7.out⟩
   ·have he3I : ¬ (e3 : Int) = 0 := by omega
    rw [if_pos (by simpa using he3)]
    clear he3
    go_enter Try.func19, Try.ntmps19
    go_wp2_with (first
     | (go_at_call 25; refine (Replace_of p 0 _ [] S2 S3 e3 H3.out _ D5.out (fun w' hu => Sh.nil _) M2.out T2.out (by simp) Q2.out).mono ?_; rintro e w6 ⟨rfl, hd, hu⟩; have R6 := Lib.hid (show WalR w6 q p n from hu.row R5.out HPQ.out.symm); have h06 := Row.cell R6.out 0; simp only [List.getElem?_cons_succ, List.getElem?_cons_zero] at h06; have D6 := Lib.hid hd; have U6 := Lib.hid (U5.out.trans hu); clear hd hu)
     | (go_at_call 26; refine (Sync_of p 1 S1 S2 0 H2.out _ D4.out M1.out T1.out Q1.out).mono ?_; rintro e w5 ⟨rfl, hd, hu⟩; have R5 := Lib.hid (show WalR w5 q p n from hu.row R4.out HPQ.out.symm); have h05 := Row.cell R5.out 0; simp only [List.getElem?_cons_succ, List.getElem?_cons_zero] at h05; have D5 := Lib.hid hd; have U5 := Lib.hid (U4.out.trans hu); clear hd hu)
     | (go_at_call 25; refine (Replace_of p 1 _ (frameB (enc n ++ b)) S S1 0 H1.out _ D3.out (fun w' hu => (hu.own O3.out D3.out.rowC.choose_spec (by decide)).sh) M0.out T0.out FB.out Q0.out).mono ?_; rintro e w4 ⟨rfl, hd, hu⟩; have R4 := Lib.hid (show WalR w4 q p n from hu.row R3.out HPQ.out.symm); have h04 := Row.cell R4.out 0; simp only [List.getElem?_cons_succ, List.getElem?_cons_zero] at h04; have D4 := Lib.hid hd; have U4 := Lib.hid (U3.out.trans hu); clear hd hu)
     | (go_at_call 27; refine (framed_any q p n _ b _ HQ.out HB.out (by omega) hl).mono ?_; rintro e w3 ⟨v3, rfl, ho3, hb3⟩; have R3 := Lib.hid (show WalR w3 q p n from HQ.out.keep hb3); have h03 := Row.cell R3.out 0; simp only [List.getElem?_cons_succ, List.getElem?_cons_zero] at h03; have O3 := Lib.hid ho3; have U3 := Lib.hid (Upd.of_below (p := p) hb3); have D3 := Lib.hid (HS.out.keepB hb3); clear ho3 hb3))
    go_ret
    exact ⟨rfl, D6.out, U6.out⟩
  ·have he2I : ¬ (e2 : Int) = 0 := by omega
   rw [if_pos (by simpa using he2)]
   clear he2
   go_enter Try.func19, Try.ntmps19
   go_wp2_with (first
    | (go_at_call 26; refine (Sync_of p 1 S1 S2 e2 H2.out _ D4.out M1.out T1.out Q1.out).mono ?_; rintro e w5 ⟨rfl, hd, hu⟩; have R5 := Lib.hid (show WalR w5 q p n from hu.row R4.out HPQ.out.symm); have h05 := Row.cell R5.out 0; simp only [List.getElem?_cons_succ, List.getElem?_cons_zero] at h05; have D5 := Lib.hid hd; have U5 := Lib.hid (U4.out.trans hu); clear hd hu)
    | (go_at_call 25; refine (Replace_of p 1 _ (frameB (enc n ++ b)) S S1 0 H1.out _ D3.out (fun w' hu => (hu.own O3.out D3.out.rowC.choose_spec (by decide)).sh) M0.out T0.out FB.out Q0.out).mono ?_; rintro e w4 ⟨rfl, hd, hu⟩; have R4 := Lib.hid (show WalR w4 q p n from hu.row R3.out HPQ.out.symm); have h04 := Row.cell R4.out 0; simp only [List.getElem?_cons_succ, List.getElem?_cons_zero] at h04; have D4 := Lib.hid hd; have U4 := Lib.hid (U3.out.trans hu); clear hd hu)
    | (go_at_call 27; refine (framed_any q p n _ b _ HQ.out HB.out (by omega) hl).mono ?_; rintro e w3 ⟨v3, rfl, ho3, hb3⟩; have R3 := Lib.hid (show WalR w3 q p n from HQ.out.keep hb3); have h03 := Row.cell R3.out 0; simp only [List.getElem?_cons_succ, List.getElem?_cons_zero] at h03; have O3 := Lib.hid ho3; have U3 := Lib.hid (Upd.of_below (p := p) hb3); have D3 := Lib.hid (HS.out.keepB hb3); clear ho3 hb3))
   go_ret
   exact ⟨rfl, D5.out, U5.out⟩
 ·have he1I : ¬ (e1 : Int) = 0 := by omega
  rw [if_pos (by simpa using he1)]
  clear he1
  go_enter Try.func19, Try.ntmps19
  go_wp2_with (first
   | (go_at_call 25; refine (Replace_of p 1 _ (frameB (enc n ++ b)) S S1 e1 H1.out _ D3.out (fun w' hu => (hu.own O3.out D3.out.rowC.choose_spec (by decide)).sh) M0.out T0.out FB.out Q0.out).mono ?_; rintro e w4 ⟨rfl, hd, hu⟩; have R4 := Lib.hid (show WalR w4 q p n from hu.row R3.out HPQ.out.symm); have h04 := Row.cell R4.out 0; simp only [List.getElem?_cons_succ, List.getElem?_cons_zero] at h04; have D4 := Lib.hid hd; have U4 := Lib.hid (U3.out.trans hu); clear hd hu)
   | (go_at_call 27; refine (framed_any q p n _ b _ HQ.out HB.out (by omega) hl).mono ?_; rintro e w3 ⟨v3, rfl, ho3, hb3⟩; have R3 := Lib.hid (show WalR w3 q p n from HQ.out.keep hb3); have h03 := Row.cell R3.out 0; simp only [List.getElem?_cons_succ, List.getElem?_cons_zero] at h03; have O3 := Lib.hid ho3; have U3 := Lib.hid (Upd.of_below (p := p) hb3); have D3 := Lib.hid (HS.out.keepB hb3); clear ho3 hb3))
  go_ret
  exact ⟨rfl, D4.out, U4.out⟩
end Go.Proofs.Ytkghkpkiodghiaa
namespace Go.Proofs.Ytkghkpkiodghiaa
set_option linter.unusedVariables false
set_option linter.unusedSimpArgs false
set_option linter.unnecessarySimpa false
set_option maxHeartbeats 4000000

end Go.Proofs.Ytkghkpkiodghiaa
namespace Go.Proofs.Ytkghkpkiodghiaa
set_option linter.unusedVariables false
set_option linter.unusedSimpArgs false
set_option linter.unnecessarySimpa false
open Go.RowKit
set_option maxRecDepth 100000
set_option maxHeartbeats 4000000

end Go.Proofs.Ytkghkpkiodghiaa
