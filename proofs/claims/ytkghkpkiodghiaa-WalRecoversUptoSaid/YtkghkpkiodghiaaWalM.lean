/- A log's snapshot as it is read, of any bytes. -/
import Derived.Test.YtkghkpkiodghiaaWal3
import Derived.Test.YtkghkpkiodghiaaWalQ
import Derived.Test.YtkghkpkiodghiaaDsk4
import Derived.Test.YtkghkpkiodghiaaDsk5
import Derived.Test.YtkghkpkiodghiaaWal7
namespace Go.Proofs.Ytkghkpkiodghiaa
set_option linter.unusedVariables false
set_option linter.unusedSimpArgs false
set_option linter.unnecessarySimpa false
open Go.RowKit
set_option maxRecDepth 100000
set_option maxHeartbeats 4000000

theorem snF_nil {l : List UInt8} (h : l.length = 0) : snF l = (false, [], 0, 0) := by unfold snF; rw [if_pos h]
theorem snF_bad {l : List UInt8} (h : l.length ≠ 0) (hb : ¬ ((scF (l.length + 1) l).2.2 = 0 ∧ (scF (l.length + 1) l).1.length = 1 ∧ (tk ((scF (l.length + 1) l).1.getD 0 [])).2.2 = 0)) : snF l = (false, [], 0, 4) := by
  unfold snF; rw [if_neg h, if_neg hb]
theorem snF_ok {l : List UInt8} (h : l.length ≠ 0) (hb : (scF (l.length + 1) l).2.2 = 0 ∧ (scF (l.length + 1) l).1.length = 1 ∧ (tk ((scF (l.length + 1) l).1.getD 0 [])).2.2 = 0) :
    snF l = (true, tkRest ((scF (l.length + 1) l).1.getD 0 []), (tk ((scF (l.length + 1) l).1.getD 0 [])).1, 0) := by
  unfold snF; rw [if_neg h, if_pos hb]
theorem snapshot_any (v : Value) (l : List UInt8) (h : Nat) (w : World) (hr : Row w h 31 (KepC false (.slice none 0 0) (.slice none 0 0) 0)) (hl : Sh w v l) (hlen : l.length ≤ 100000000) (T : Bool × List UInt8 × Nat × Nat) (hT : snF l = T) :
    Calls Try.prog 23 #[v, .pointer (some ⟨h, 0, none⟩)] w fun e w' => ∃ sv, e = .returned (.int .i64 (T.2.2.2 : Int)) ∧ Row w' h 31 (KepC T.1 sv (.slice none 0 0) T.2.2.1) ∧ Own w' 0 5 sv T.2.1 ∧ Upd h w w' := by
  by_cases h0 : l.length = 0
  · subst hT
    rw [snF_nil h0]
    exact (snapshot_nil v l h w hl h0).mono fun e w' ⟨he, hw⟩ => by subst hw; exact ⟨.slice none 0 0, he, hr, Own.nil _ _ _, Upd.refl _ _⟩
  · obtain ⟨S, hS⟩ : ∃ S, scF (l.length + 1) l = S := ⟨_, rfl⟩
    have hbad := snF_bad h0
    have hok := snF_ok h0
    rw [hS] at hbad hok
    rw [hT] at hbad hok
    have hle : ∀ i, i < S.1.length → (S.1.getD i []).length ≤ 1048576 := fun i hi => by
      have := scF_le (l.length + 1) l (S.1.getD i []) (by rw [hS, List.getD, List.getElem?_eq_getElem hi]; exact List.getElem_mem hi)
      exact this
    have h0I : ¬ (l.length : Int) = 0 := by omega
    obtain ⟨xl, cl, rfl, -⟩ := hl.open
    have HL := Lib.hid hl
    have HR := Lib.hid hr
    have HSS := Lib.hid hS
    have HLE := Lib.hid hle
    clear hl hr hS hle hT h0
    obtain ⟨Ls, at_, E⟩ := S
    dsimp only at hbad hok
    by_cases hE : E = 0
    · subst hE
      by_cases h1 : Ls.length = 1
      · obtain ⟨d, rfl⟩ : ∃ d, Ls = [d] := List.length_eq_one_iff.mp h1
        have hdl := HLE.out 0 (by simp)
        simp only [List.getD_cons_zero] at hdl hbad hok
        rcases htk : tk d with ⟨n, k, E2⟩
        rw [htk] at hbad hok
        dsimp only at hbad hok
        have hql : (tkRest d).length ≤ d.length := by
          unfold tkRest
          split <;> simp
        have HQL := Lib.hid (show (tkRest d).length ≤ 140737488355328 by omega)
        have HTK := Lib.hid htk
        have HDL := Lib.hid hdl
        clear htk hql hdl
        generalize hq : tkRest d = q at *
        have HQE := Lib.hid hq
        clear hq
        by_cases hE2 : E2 = 0
        · subst hE2
          have HOK := Lib.hid (hok (by simp))
          clear hok hbad
          rw [HOK.out]
          go_enter Try.func23, Try.ntmps23
          go_wp2_with (first
            | (go_at_call 40; refine (ScanO_any _ l _ HL.out (by omega)).mono ?_; rw [HSS.out]; rintro e w1 ⟨v1, rfl, ho1, hb1⟩; obtain ⟨x1, c1, rfl, -⟩ := ho1.bss.open; obtain ⟨b, off, rfl, -, hat⟩ := ho1.cells (by simp); obtain ⟨u, hu, hou⟩ := hat 0 (by simp); simp only [Nat.add_zero, List.getD_cons_zero] at hu hou; have HOU := Lib.hid hou; obtain ⟨xu, cu, rfl, -⟩ := hou.sh.open; have B1 := Lib.hid hb1; clear hat hou hb1)
            | (go_at_call 41; refine (Take_any _ d _ HOU.out.sh (by have := HDL.out; omega)).mono ?_; rw [HTK.out, HQE.out]; rintro e w3 ⟨v3, rfl, ho3, hb3⟩; have O3 := Lib.hid ho3; have B3 := Lib.hid hb3; clear ho3 hb3)
            | (go_at_call 37; refine (clone_any _ q _ O3.out.sh HQL.out).mono ?_; rintro e w5 ⟨v5, rfl, ho5, hb5⟩; obtain ⟨x5, c5, rfl, -⟩ := ho5.sh.open; have R5 := Lib.hid (((HR.out.keep B1.out).keep B3.out).keep hb5); have z0 := Row.cell R5.out 0; have z1 := Row.cell R5.out 1; have z3 := Row.cell R5.out 3; simp only [KepC, List.getElem?_cons_succ, List.getElem?_cons_zero] at z0 z1 z3; have f0 := Row.frozen R5.out 0; have f1 := Row.frozen R5.out 1; have f3 := Row.frozen R5.out 3; have O5 := Lib.hid ho5; have B5 := Lib.hid hb5; clear ho5 hb5))
          go_ret
          have U5 := (((Upd.set h 0 w5 (.bool true)).trans (Upd.set h 1 _ (.slice x5 q.length c5))).trans (Upd.set h 3 _ (.int .u64 (n : Int))))
          exact ⟨.slice x5 q.length c5, rfl, Row.set (Row.set (Row.set R5.out 0 _) 1 _) 3 _, U5.own (O5.out.mono (Nat.zero_le _)) R5.out (by decide), (((Upd.of_below B1.out).trans (Upd.of_below B3.out)).trans (Upd.of_below B5.out)).trans U5⟩
        · have HOK := Lib.hid (hbad (by simpa using hE2))
          have hE2I : ¬ (E2 : Int) = 0 := by omega
          clear hok hbad hE2
          rw [HOK.out]
          go_enter Try.func23, Try.ntmps23
          go_wp2_with (first
            | (go_at_call 40; refine (ScanO_any _ l _ HL.out (by omega)).mono ?_; rw [HSS.out]; rintro e w1 ⟨v1, rfl, ho1, hb1⟩; obtain ⟨x1, c1, rfl, -⟩ := ho1.bss.open; obtain ⟨b, off, rfl, -, hat⟩ := ho1.cells (by simp); obtain ⟨u, hu, hou⟩ := hat 0 (by simp); simp only [Nat.add_zero, List.getD_cons_zero] at hu hou; have HOU := Lib.hid hou; obtain ⟨xu, cu, rfl, -⟩ := hou.sh.open; have B1 := Lib.hid hb1; clear hat hou hb1)
            | (go_at_call 41; refine (Take_any _ d _ HOU.out.sh (by have := HDL.out; omega)).mono ?_; rw [HTK.out, HQE.out]; rintro e w3 ⟨v3, rfl, ho3, hb3⟩; have O3 := Lib.hid ho3; have B3 := Lib.hid hb3; clear ho3 hb3))
          go_ret
          exact ⟨.slice none 0 0, rfl, (HR.out.keep B1.out).keep B3.out, Own.nil _ _ _, (Upd.of_below B1.out).trans (Upd.of_below B3.out)⟩
      · have HOK := Lib.hid (hbad (fun h => h1 h.2.1))
        have h1I : ¬ (Ls.length : Int) = 1 := by omega
        clear hok hbad h1
        rw [HOK.out]
        go_enter Try.func23, Try.ntmps23
        go_wp2_with (go_at_call 40; refine (ScanO_any _ l _ HL.out (by omega)).mono ?_; rw [HSS.out]; rintro e w1 ⟨v1, rfl, ho1, hb1⟩; obtain ⟨x1, c1, rfl, -⟩ := ho1.bss.open)
        go_ret
        exact ⟨.slice none 0 0, rfl, HR.out.keep hb1, Own.nil _ _ _, Upd.of_below hb1⟩
    · have HOK := Lib.hid (hbad (by simp [hE]))
      have hEI : ¬ (E : Int) = 0 := by omega
      clear hok hbad hE
      rw [HOK.out]
      go_enter Try.func23, Try.ntmps23
      go_wp2_with (go_at_call 40; refine (ScanO_any _ l _ HL.out (by omega)).mono ?_; rw [HSS.out]; rintro e w1 ⟨v1, rfl, ho1, hb1⟩; obtain ⟨x1, c1, rfl, -⟩ := ho1.bss.open)
      go_ret
      exact ⟨.slice none 0 0, rfl, HR.out.keep hb1, Own.nil _ _ _, Upd.of_below hb1⟩
end Go.Proofs.Ytkghkpkiodghiaa
namespace Go.Proofs.Ytkghkpkiodghiaa
set_option linter.unusedVariables false
set_option linter.unusedSimpArgs false
set_option linter.unnecessarySimpa false
open Go.RowKit
set_option maxRecDepth 100000
set_option maxHeartbeats 4000000

theorem scF_count : ∀ (f : Nat) (l : List UInt8), (scF f l).1.length ≤ f := by
  intro f
  induction f with
  | zero => intro l; simp [scF]
  | succ f ih =>
    intro l
    unfold scF
    split
    · simp
    · split
      · simp
      · have := ih (l.drop (tkF l).2.1)
        simp only [List.length_cons]; omega
theorem scF_frames : ∀ (f : Nat) (l : List UInt8), (frames (scF f l).1).length ≤ l.length := by
  intro f
  induction f with
  | zero => intro l; simp [scF, frames]
  | succ f ih =>
    intro l
    unfold scF
    split
    · simp [frames]
    · split
      · simp [frames]
      · rename_i h1 h2
        obtain ⟨b, hb, he, r, hr⟩ := tkF_sound l (by omega)
        have h3 := ih (l.drop (tkF l).2.1)
        rw [he] at h3 ⊢
        simp only at h3 ⊢
        rw [frames_cons, List.length_append]
        have h4 : l.length = (frameB b).length + r.length := by rw [hr, List.length_append]
        rw [List.length_drop] at h3
        omega
theorem recF_at (first : Nat) (ds : List (List UInt8)) : ∀ a R nx, (recF first ds a R nx).1 ≤ a + (frames ds).length ∧ (recF first ds a R nx).2.2 ≤ nx + ds.length ∧ (recF first ds a R nx).2.1.length ≤ R.length + ds.length := by
  induction ds with
  | nil => intro a R nx; simp [recF, frames]
  | cons d ds ih =>
    intro a R nx
    unfold recF
    rw [frames_cons, List.length_append, List.length_cons]
    split
    · dsimp only; omega
    · split
      · have := ih (a + (frameB d).length) R nx; omega
      · split
        · have := ih (a + (frameB d).length) (R ++ [tkRest d]) (nx + 1)
          rw [List.length_append] at this
          simp only [List.length_cons, List.length_nil] at this
          omega
        · dsimp only; omega
theorem snF_num (l : List UInt8) : (snF l).2.2.1 ≤ 4611686018427387904 := by
  unfold snF
  split
  · simp
  · split
    · rename_i h1 h2
      dsimp only
      rcases tk_cases ((scF (l.length + 1) l).1.getD 0 []) with ⟨e, ht, -⟩ | ⟨n, k, ht, -, -, hn⟩
      · rw [ht]; simp
      · rw [ht]; dsimp only; omega
    · simp
/-- What Open's return reads. -/
theorem Open_retG {R : Ending → World → Prop} (act : Act) (w : World) (v2 v4 : Value) (g : Nat) {a b c d : Value} (hd : act.defers = []) (h2 : act.tmps.getD 2 undef = v2) (h3 : act.tmps.getD 3 undef = .pointer (some ⟨g, 0, none⟩)) (h4 : act.tmps.getD 4 undef = v4)
    (hrow : Row w g 31 [a, b, c, d]) (hR : R (.returned (.tuple #[v2, .agg #[a, b, c, d], v4])) w) : bodyPost Try.prog Try.f7 R .ret act w := by
  refine bodyPost_ret (v := .tuple #[v2, .agg #[a, b, c, d], v4]) ?_ hd hR
  have hl := run_loadVar_row (P := Try.prog) w g _ 31 #[a, b, c, d] (0, 0) _ hrow Try.underlying31 rfl (by kernel_rfl)
  rw [results_tct rfl, h2, h3, h4]
  simp [asAddr, Result.andThen, hl]
/-- What Open answers where it fails. -/
def openNo (k : Nat) : Ending := .returned (.tuple #[.pointer none, .agg #[.bool false, .slice none 0 0, .slice none 0 0, .int .u64 0], .int .i64 (k : Int)])
/-- What it answers else. -/
def OpenYes (w w' : World) (p : Nat) (e : Ending) (has : Bool) (sb : List UInt8) (R : List (List UInt8)) (nx : Nat) : Prop := ∃ q sv rv, e = .returned (.tuple #[.pointer (some ⟨q, 0, none⟩), .agg #[.bool has, sv, rv, .int .u64 (nx : Int)], .int .i64 0]) ∧ WalR w' q p nx ∧ Own w' 0 5 sv sb ∧ BOs w' w.heap.size rv R ∧ w.heap.size < q
theorem Upd.fresh {p g : Nat} {w a b : World} (h : Upd p w a) (hu : Upd g a b) (hg : w.heap.size ≤ g) : Upd p w b :=
  ⟨hu.os.trans h.os, hu.tape.trans h.tape, hu.output.trans h.output, Nat.le_trans h.size hu.size, fun i hi hp => (hu.block i (Nat.lt_of_lt_of_le hi h.size) (fun e => by simp at e; omega)).trans (h.block i hi hp)⟩
theorem Upd.then {p : Nat} {w a b : World} (h : Upd p w a) (hb : Below a.heap.size a b) : Upd p w b := h.trans (Upd.of_below hb)
theorem sets4 (w : World) (g : Nat) (a b c d : Value) : Upd g w ((((w.setCell ⟨g, 0, none⟩ (a)).setCell ⟨g, 1, none⟩ (b)).setCell ⟨g, 2, none⟩ (c)).setCell ⟨g, 3, none⟩ (d)) := (((Upd.set g 0 w a).trans (Upd.set g 1 _ b)).trans (Upd.set g 2 _ c)).trans (Upd.set g 3 _ d)
theorem rows4 {w : World} {g : Nat} {x0 x1 x2 x3 : Value} (h : Row w g 31 [x0, x1, x2, x3]) (a b c d : Value) : Row ((((w.setCell ⟨g, 0, none⟩ (a)).setCell ⟨g, 1, none⟩ (b)).setCell ⟨g, 2, none⟩ (c)).setCell ⟨g, 3, none⟩ (d)) g 31 [a, b, c, d] := Row.set (Row.set (Row.set (Row.set h 0 a) 1 b) 2 c) 3 d
theorem OpenYes.fin (p g nx : Nat) (S : PD) (has : Bool) (sb : List UInt8) (R : List (List UInt8)) (w w3 w5 : World) (sv rv : Value) (hg : w.heap.size = g) (hS : Dsk w5 p S) (hp : p < g) (hs : g + 1 < w5.heap.size) (hk : Row w5 g 31 (KepC false (.slice none 0 0) (.slice none 0 0) 0)) (hl : BOs w5 w3.heap.size rv R) (hsv : Own w5 0 5 sv sb) (hu : Upd p w w5) (he : g ≤ w3.heap.size) (W6 : World) (hW : Upd g (w5.alloc (.cells #[.pointer (some ⟨p, 0, none⟩), .int .u64 (nx : Int)] 71)) W6) :
    OpenYes w W6 p (.returned (.tuple #[.pointer (some ⟨w5.heap.size, 0, none⟩), .agg #[.bool has, sv, rv, .int .u64 (nx : Int)], .int .i64 0])) has sb R nx ∧ Dsk W6 p S ∧ Upd p w W6 := by
  have hba := balloc (Below.refl w5.heap.size w5) (.cells #[.pointer (some ⟨p, 0, none⟩), .int .u64 (nx : Int)] 71)
  have hka := Row.alloc hk (.cells #[.pointer (some ⟨p, 0, none⟩), .int .u64 (nx : Int)] 71)
  exact ⟨⟨w5.heap.size, sv, rv, rfl, hW.row (Row.new w5 71 [.pointer (some ⟨p, 0, none⟩), .int .u64 (nx : Int)]) (by omega), hW.own (hsv.below hba) hka (by decide), by rw [hg]; exact (hW.bos (hl.below hba) hka (by decide) (by decide)).mono he, by omega⟩, (hS.keepB hba).updO hka (by decide) (by omega) hW, (hu.then hba).fresh hW (by omega)⟩
theorem replace_bd (S : PD) (n : Int) (b : List UInt8) : (S.replace n b).1.lim = S.lim ∧ (S.replace n b).1.left ≤ S.left ∧ (S.replace n b).1.n0.length + (S.replace n b).1.n1.length ≤ S.n0.length + S.n1.length + b.length := by
  have hl := leftC_le S.left
  unfold PD.replace
  by_cases h1 : S.dead = true ∨ S.left = 0
  · rw [if_pos h1]; exact ⟨rfl, Int.le_refl _, Nat.le_add_right _ _⟩
  · rw [if_neg h1]
    by_cases h2 : n < 0 ∨ 1 < n
    · rw [if_pos h2]; exact ⟨rfl, hl, Nat.le_add_right _ _⟩
    · rw [if_neg h2]
      by_cases h3 : S.lim - (S.tot - ((if n = 0 then S.n0 else S.n1).length : Int)) < (b.length : Int)
      · rw [if_pos h3]; exact ⟨rfl, hl, Nat.le_add_right _ _⟩
      · rw [if_neg h3]
        by_cases h4 : n = 0
        · rw [if_pos h4]
          refine ⟨rfl, hl, ?_⟩
          show b.length + S.n1.length ≤ _
          omega
        · rw [if_neg h4]
          refine ⟨rfl, hl, ?_⟩
          show S.n0.length + b.length ≤ _
          omega
theorem Open_dead (p : Nat) (S : PD) (w : World) (hS : Dsk w p S) (hd : S.dead = true) (hl : S.n0.length + S.n1.length ≤ 100000000) :
    Calls Try.prog 7 #[.pointer (some ⟨p, 0, none⟩)] w fun e w' => e = openNo 140 ∧ Dsk w' p S ∧ Upd p w w' := by
  have hr1 : S.read 1 = ([], 140) := by unfold PD.read; rw [if_pos hd]
  have HR1 := Lib.hid hr1
  have HS := Lib.hid hS
  have HP := Lib.hid hS.lt
  have HT := Lib.hid (show S.n0.length + S.n1.length ≤ 100000000000 by omega)
  clear hr1 hS hd
  go_enter Try.func7, Try.ntmps7
  go_wp2_with fail
  refine (Read_any p 1 S _ (HS.out.keepB (balloc (balloc (Below.refl _ _) _) _)) HT.out).mono ?_
  rw [HR1.out]
  rintro e w1 ⟨v1, rfl, ho1, hb1⟩
  obtain ⟨x1, c1, rfl, -⟩ := ho1.sh.open
  have hB1 : Below w.heap.size w w1 := bstep (balloc (balloc (Below.refl _ _) _) _) hb1
  have K1 : Row w1 w.heap.size 31 (KepC false (.slice none 0 0) (.slice none 0 0) 0) := ((Row.new w 31 (KepC false (.slice none 0 0) (.slice none 0 0) 0)).alloc _).keep hb1
  have K1' : Row w1 (w.heap.size + 1) 31 (KepC false (.slice none 0 0) (.slice none 0 0) 0) := by
    have := (Row.new (w.alloc (.cells (KepC false (.slice none 0 0) (.slice none 0 0) 0).toArray 31)) 31 (KepC false (.slice none 0 0) (.slice none 0 0) 0)).keep hb1
    simpa using this
  have HB1 := Lib.hid hB1
  have HK1 := Lib.hid K1
  have HK1' := Lib.hid K1'
  clear ho1 hb1 hB1 K1 K1'
  have D1 := Lib.hid (HS.out.keepB HB1.out)
  have U1 := Lib.hid ((Upd.refl p w).then HB1.out)
  have z0 := Row.cell (HK1.out) 0
  have z1 := Row.cell (HK1.out) 1
  have z2 := Row.cell (HK1.out) 2
  have z3 := Row.cell (HK1.out) 3
  simp only [KepC, List.getElem?_cons_succ, List.getElem?_cons_zero] at z0 z1 z2 z3
  have zf0 := Row.frozen (HK1.out) 0
  have zf1 := Row.frozen (HK1.out) 1
  have zf2 := Row.frozen (HK1.out) 2
  have zf3 := Row.frozen (HK1.out) 3
  go_wp2_with fail
  refine Open_retG _ _ (.pointer none) (.int .i64 ((140 : Nat) : Int)) w.heap.size rfl rfl rfl rfl (rows4 HK1.out _ _ _ _) ?_
  exact ⟨rfl, D1.out.updO HK1.out (by decide) (by have := HP.out; omega) (sets4 _ _ _ _ _ _), U1.out.fresh (sets4 _ _ _ _ _ _) (Nat.le_refl _)⟩
theorem Open_form (p : Nat) (S : PD) (w : World) (has : Bool) (sb : List UInt8) (n1 te : Nat) (hS : Dsk w p S) (hd : S.dead = false) (hT : snF S.n1 = (has, sb, n1, te)) (hm : S.left ≤ 9223372036854775807) (h0l : S.n0.length ≤ 50000000) (h1l : S.n1.length ≤ 50000000) (hlim : -1000000000000 ≤ S.lim ∧ S.lim ≤ 1000000000000) (hte : te ≠ 0) :
    Calls Try.prog 7 #[.pointer (some ⟨p, 0, none⟩)] w fun e w' => e = openNo te ∧ Dsk w' p S ∧ Upd p w w' := by
  have hr1 : S.read 1 = (S.n1, 0) := by unfold PD.read; rw [if_neg (by simp [hd]), if_neg (by omega)]; simp
  have hr0 : S.read 0 = (S.n0, 0) := by unfold PD.read; rw [if_neg (by simp [hd]), if_neg (by omega)]; simp
  have HR1 := Lib.hid hr1
  have HR0 := Lib.hid hr0
  have HS := Lib.hid hS
  have HP := Lib.hid hS.lt
  have HT := Lib.hid (show S.n0.length + S.n1.length ≤ 100000000000 by omega)
  have HSN := Lib.hid hT
  have HM := Lib.hid hm
  have HLIM := Lib.hid hlim
  clear hr1 hr0 hS hd hT hm hlim
  have hteI : ¬ (te : Int) = 0 := by omega
  go_enter Try.func7, Try.ntmps7
  go_wp2_with fail
  refine (Read_any p 1 S _ (HS.out.keepB (balloc (balloc (Below.refl _ _) _) _)) HT.out).mono ?_
  rw [HR1.out]
  rintro e w1 ⟨v1, rfl, ho1, hb1⟩
  obtain ⟨x1, c1, rfl, -⟩ := ho1.sh.open
  have hB1 : Below w.heap.size w w1 := bstep (balloc (balloc (Below.refl _ _) _) _) hb1
  have K1 : Row w1 w.heap.size 31 (KepC false (.slice none 0 0) (.slice none 0 0) 0) := ((Row.new w 31 (KepC false (.slice none 0 0) (.slice none 0 0) 0)).alloc _).keep hb1
  have K1' : Row w1 (w.heap.size + 1) 31 (KepC false (.slice none 0 0) (.slice none 0 0) 0) := by
    have := (Row.new (w.alloc (.cells (KepC false (.slice none 0 0) (.slice none 0 0) 0).toArray 31)) 31 (KepC false (.slice none 0 0) (.slice none 0 0) 0)).keep hb1
    simpa using this
  have HB1 := Lib.hid hB1
  have HK1 := Lib.hid K1
  have HK1' := Lib.hid K1'
  have HO1 := Lib.hid ho1
  clear ho1 hb1 hB1 K1 K1'
  go_wp2_with (go_at_call 23; refine (snapshot_any _ S.n1 (w.heap.size + 1) w1 HK1'.out HO1.out.sh (by omega) _ HSN.out).mono ?_; rintro e w2 ⟨sv, rfl, hr2, hs2, hu2⟩; obtain ⟨xs, cs, rfl, -⟩ := hs2.sh.open; have K2 := Lib.hid (hu2.row HK1.out (by omega)); have R2 := Lib.hid hr2; have SV2 := Lib.hid hs2; have D2 := Lib.hid ((HS.out.keepB HB1.out).updO HK1'.out (by decide) (by have := HP.out; omega) hu2); have U2 := Lib.hid (((Upd.refl p w).then HB1.out).fresh hu2 (by omega)); have Z2 := Lib.hid (Nat.le_trans HB1.out.size hu2.sizeLe); have z0 := Row.cell (K2.out) 0; have z1 := Row.cell (K2.out) 1; have z2 := Row.cell (K2.out) 2; have z3 := Row.cell (K2.out) 3; simp only [KepC, List.getElem?_cons_succ, List.getElem?_cons_zero] at z0 z1 z2 z3; have zf0 := Row.frozen (K2.out) 0; have zf1 := Row.frozen (K2.out) 1; have zf2 := Row.frozen (K2.out) 2; have zf3 := Row.frozen (K2.out) 3; clear hr2 hs2 hu2)
  refine Open_retG _ _ (.pointer none) (.int .i64 (te : Int)) w.heap.size rfl rfl rfl rfl (rows4 K2.out _ _ _ _) ?_
  exact ⟨rfl, D2.out.updO K2.out (by decide) (by have := HP.out; omega) (sets4 _ _ _ _ _ _), U2.out.fresh (sets4 _ _ _ _ _ _) (Nat.le_refl _)⟩
theorem Open_kept (p : Nat) (S : PD) (w : World) (has : Bool) (sb : List UInt8) (n1 at_ nx : Nat) (R : List (List UInt8)) (hS : Dsk w p S) (hd : S.dead = false) (hT : snF S.n1 = (has, sb, n1, 0)) (hm : S.left ≤ 9223372036854775807) (h0l : S.n0.length ≤ 50000000) (h1l : S.n1.length ≤ 50000000) (hlim : -1000000000000 ≤ S.lim ∧ S.lim ≤ 1000000000000) (U : List (List UInt8) × Nat × Nat) (hU : scF (S.n0.length + 1) S.n0 = U) (hV : recF n1 U.1 0 [] n1 = (at_, R, nx)) (hk : at_ = S.n0.length) :
    Calls Try.prog 7 #[.pointer (some ⟨p, 0, none⟩)] w fun e w' => OpenYes w w' p e has sb R nx ∧ Dsk w' p S ∧ Upd p w w' := by
  have hr1 : S.read 1 = (S.n1, 0) := by unfold PD.read; rw [if_neg (by simp [hd]), if_neg (by omega)]; simp
  have hr0 : S.read 0 = (S.n0, 0) := by unfold PD.read; rw [if_neg (by simp [hd]), if_neg (by omega)]; simp
  have HR1 := Lib.hid hr1
  have HR0 := Lib.hid hr0
  have HS := Lib.hid hS
  have HP := Lib.hid hS.lt
  have HT := Lib.hid (show S.n0.length + S.n1.length ≤ 100000000000 by omega)
  have HSN := Lib.hid hT
  have HM := Lib.hid hm
  have HLIM := Lib.hid hlim
  clear hr1 hr0 hS hd hT hm hlim
  have hUl := scF_count (S.n0.length + 1) S.n0
  rw [hU] at hUl
  have hn1 := snF_num S.n1
  rw [HSN.out] at hn1
  dsimp only at hn1
  have hfr := scF_frames (S.n0.length + 1) S.n0
  rw [hU] at hfr
  have hat := recF_at n1 U.1 0 [] n1
  rw [hV] at hat
  obtain ⟨hat, hnx, hRl⟩ := hat
  dsimp only at hat hnx hRl
  have hat : at_ ≤ S.n0.length := by omega
  have HU := Lib.hid hU
  have HV := Lib.hid hV
  clear hU hV hfr
  subst hk
  go_enter Try.func7, Try.ntmps7
  go_wp2_with fail
  refine (Read_any p 1 S _ (HS.out.keepB (balloc (balloc (Below.refl _ _) _) _)) HT.out).mono ?_
  rw [HR1.out]
  rintro e w1 ⟨v1, rfl, ho1, hb1⟩
  obtain ⟨x1, c1, rfl, -⟩ := ho1.sh.open
  have hB1 : Below w.heap.size w w1 := bstep (balloc (balloc (Below.refl _ _) _) _) hb1
  have K1 : Row w1 w.heap.size 31 (KepC false (.slice none 0 0) (.slice none 0 0) 0) := ((Row.new w 31 (KepC false (.slice none 0 0) (.slice none 0 0) 0)).alloc _).keep hb1
  have K1' : Row w1 (w.heap.size + 1) 31 (KepC false (.slice none 0 0) (.slice none 0 0) 0) := by
    have := (Row.new (w.alloc (.cells (KepC false (.slice none 0 0) (.slice none 0 0) 0).toArray 31)) 31 (KepC false (.slice none 0 0) (.slice none 0 0) 0)).keep hb1
    simpa using this
  have HB1 := Lib.hid hB1
  have HK1 := Lib.hid K1
  have HK1' := Lib.hid K1'
  have HO1 := Lib.hid ho1
  clear ho1 hb1 hB1 K1 K1'
  go_wp2_with (go_at_call 23; refine (snapshot_any _ S.n1 (w.heap.size + 1) w1 HK1'.out HO1.out.sh (by omega) _ HSN.out).mono ?_; rintro e w2 ⟨sv, rfl, hr2, hs2, hu2⟩; obtain ⟨xs, cs, rfl, -⟩ := hs2.sh.open; have K2 := Lib.hid (hu2.row HK1.out (by omega)); have R2 := Lib.hid hr2; have SV2 := Lib.hid hs2; have D2 := Lib.hid ((HS.out.keepB HB1.out).updO HK1'.out (by decide) (by have := HP.out; omega) hu2); have U2 := Lib.hid (((Upd.refl p w).then HB1.out).fresh hu2 (by omega)); have Z2 := Lib.hid (Nat.le_trans HB1.out.size hu2.sizeLe); clear hr2 hs2 hu2)
  refine (Read_any p 0 S _ D2.out HT.out).mono ?_
  rw [HR0.out]
  rintro e w3 ⟨v3, rfl, ho3, hb3⟩
  obtain ⟨x3, c3, rfl, g1, g2, g3, -⟩ := ho3.sh.open
  have HO3 := Lib.hid ho3
  have HB3 := Lib.hid hb3
  clear ho3 hb3
  go_wp2_with (go_at_call 24; refine (records_any _ S.n0 (w.heap.size + 1) n1 has _ _ (R2.out.keep HB3.out) HO3.out.sh (by omega) hn1 U HU.out (by omega) _ HV.out).mono ?_; rintro e w4 ⟨rv, rfl, hr4, ho4, hu4⟩; dsimp only at hr4 ho4; obtain ⟨x4, c4, rfl, -⟩ := ho4.bss.open; have K4 := Lib.hid (hu4.row (K2.out.keep HB3.out) (by omega)); have R4 := Lib.hid hr4; have SV4 := Lib.hid (hu4.own (SV2.out.below HB3.out) (R2.out.keep HB3.out) (by decide)); have LG4 := Lib.hid (hu4.own HO3.out (R2.out.keep HB3.out) (by decide)); have L4 := Lib.hid ho4; have D4 := Lib.hid ((D2.out.keepB HB3.out).updO (R2.out.keep HB3.out) (by decide) (by have := HP.out; omega) hu4); have U4 := Lib.hid ((U2.out.then HB3.out).fresh hu4 (by omega)); have E4 := Lib.hid (Nat.le_trans Z2.out HB3.out.size); clear hr4 ho4 hu4)
  have R9 := Lib.hid (Row.drew R4.out)
  have K9 := Lib.hid (Row.drew K4.out)
  have L9 := Lib.hid (L4.out.below (Below.refl _ _).drew)
  have SV9 := Lib.hid (SV4.out.below (Below.refl _ _).drew)
  have D9 := Lib.hid (D4.out.keepB (Below.refl _ _).drew)
  have U9 := Lib.hid (U4.out.then (Below.refl _ _).drew)
  have S9 := Lib.hid (show w.heap.size + 1 < w4.drew.heap.size from R9.out.lt)
  refine wp_region_any (by kernel_rfl) ?_
  try (change wpAny _ _ _ _ _ _ _ (World.drew _))
  generalize World.drew w4 = w9 at *
  have k0 := Row.cell (R9.out) 0; have k1 := Row.cell (R9.out) 1; have k2 := Row.cell (R9.out) 2; have k3 := Row.cell (R9.out) 3; simp only [KepC, List.getElem?_cons_succ, List.getElem?_cons_zero] at k0 k1 k2 k3
  refine wpAny_take (i := 0) (v := ?_) (by simp only [List.getElem?_toArray, List.getElem?_cons_zero, List.getElem?_cons_succ] <;> rfl) (by kernel_rfl) (by kernel_rfl) (by kernel_rfl) (by intro _ _ _ h; exact h) (Or.inl ⟨by rfl, ?_⟩) ?_
  rotate_left
  · intro w; go_simp; try with_reducible rfl
  try simp only [Act.put, List.setIfInBounds_toArray, List.set_cons_zero, List.set_cons_succ, Array.replicate]
  refine wpAny_take (i := 1) (v := ?_) (by simp only [List.getElem?_toArray, List.getElem?_cons_zero, List.getElem?_cons_succ] <;> rfl) (by kernel_rfl) (by kernel_rfl) (by kernel_rfl) (by intro _ _ _ h; exact h) (Or.inl ⟨by rfl, ?_⟩) ?_
  rotate_left
  · intro w; go_simp; try with_reducible rfl
  try simp only [Act.put, List.setIfInBounds_toArray, List.set_cons_zero, List.set_cons_succ, Array.replicate]
  refine wpAny_ready (rs := [2, 5]) (by kernel_rfl) (by simp) ?_
  refine AllReady.cons (by simp only [List.getElem?_toArray, List.getElem?_cons_zero, List.getElem?_cons_succ] <;> rfl) (fun K hK => ?_) ?_
  · go_simp
    refine hK _ _ ?_
    clear hK K
    try simp only [Act.put, List.setIfInBounds_toArray, List.set_cons_zero, List.set_cons_succ, Array.replicate]
    refine wpAny_take (i := 3) (v := ?_) (by simp only [List.getElem?_toArray, List.getElem?_cons_zero, List.getElem?_cons_succ] <;> rfl) (by kernel_rfl) (by kernel_rfl) (by kernel_rfl) (by intro _ _ _ h; exact h) (Or.inl ⟨by rfl, ?_⟩) ?_
    rotate_left
    · intro w; go_simp; try with_reducible rfl
    try simp only [Act.put, List.setIfInBounds_toArray, List.set_cons_zero, List.set_cons_succ, Array.replicate]
    refine wpAny_ready (rs := [4, 5]) (by kernel_rfl) (by simp) ?_
    refine AllReady.cons (by simp only [List.getElem?_toArray, List.getElem?_cons_zero, List.getElem?_cons_succ] <;> rfl) (fun K hK => ?_) ?_
    · go_simp
      refine hK _ _ ?_
      clear hK K
      try simp only [Act.put, List.setIfInBounds_toArray, List.set_cons_zero, List.set_cons_succ, Array.replicate]
      refine wpAny_take (i := 6) (v := ?_) (by simp only [List.getElem?_toArray, List.getElem?_cons_zero, List.getElem?_cons_succ] <;> rfl) (by kernel_rfl) (by kernel_rfl) (by kernel_rfl) (by intro _ _ _ h; exact h) (Or.inl ⟨by rfl, ?_⟩) ?_
      rotate_left
      · intro w; go_simp; try with_reducible rfl
      try simp only [Act.put, List.setIfInBounds_toArray, List.set_cons_zero, List.set_cons_succ, Array.replicate]
      have a0 := Row.cell (Row.alloc R9.out (.cells #[.pointer (some ⟨p, 0, none⟩), .int .u64 (nx : Int)] 71)) 0; have a1 := Row.cell (Row.alloc R9.out (.cells #[.pointer (some ⟨p, 0, none⟩), .int .u64 (nx : Int)] 71)) 1; have a2 := Row.cell (Row.alloc R9.out (.cells #[.pointer (some ⟨p, 0, none⟩), .int .u64 (nx : Int)] 71)) 2; have a3 := Row.cell (Row.alloc R9.out (.cells #[.pointer (some ⟨p, 0, none⟩), .int .u64 (nx : Int)] 71)) 3; simp only [KepC, List.getElem?_cons_succ, List.getElem?_cons_zero] at a0 a1 a2 a3
      refine wpAny_ready (rs := [5]) (by kernel_rfl) (by simp) ?_
      refine AllReady.cons (by simp only [List.getElem?_toArray, List.getElem?_cons_zero, List.getElem?_cons_succ] <;> rfl) (fun K hK => ?_) ?_
      · go_simp
        refine hK _ _ ?_
        clear hK K
        try simp only [Act.put, List.setIfInBounds_toArray, List.set_cons_zero, List.set_cons_succ, Array.replicate]
        have s0 := Row.cell (Row.alloc K9.out (.cells #[.pointer (some ⟨p, 0, none⟩), .int .u64 (nx : Int)] 71)) 0; have s1 := Row.cell (Row.alloc K9.out (.cells #[.pointer (some ⟨p, 0, none⟩), .int .u64 (nx : Int)] 71)) 1; have s2 := Row.cell (Row.alloc K9.out (.cells #[.pointer (some ⟨p, 0, none⟩), .int .u64 (nx : Int)] 71)) 2; have s3 := Row.cell (Row.alloc K9.out (.cells #[.pointer (some ⟨p, 0, none⟩), .int .u64 (nx : Int)] 71)) 3; simp only [KepC, List.getElem?_cons_succ, List.getElem?_cons_zero] at s0 s1 s2 s3; have f0 := Row.frozen (Row.alloc K9.out (.cells #[.pointer (some ⟨p, 0, none⟩), .int .u64 (nx : Int)] 71)) 0; have f1 := Row.frozen (Row.alloc K9.out (.cells #[.pointer (some ⟨p, 0, none⟩), .int .u64 (nx : Int)] 71)) 1; have f2 := Row.frozen (Row.alloc K9.out (.cells #[.pointer (some ⟨p, 0, none⟩), .int .u64 (nx : Int)] 71)) 2; have f3 := Row.frozen (Row.alloc K9.out (.cells #[.pointer (some ⟨p, 0, none⟩), .int .u64 (nx : Int)] 71)) 3
        refine wpAny_ready (rs := [7]) (by kernel_rfl) (by simp) ?_
        refine AllReady.cons (by simp only [List.getElem?_toArray, List.getElem?_cons_zero, List.getElem?_cons_succ] <;> rfl) (fun K hK => ?_) ?_
        · go_simp
          refine hK _ _ ?_
          clear hK K
          try simp only [Act.put, List.setIfInBounds_toArray, List.set_cons_zero, List.set_cons_succ, Array.replicate]
          refine wpAny_take (i := 8) (v := ?_) (by simp only [List.getElem?_toArray, List.getElem?_cons_zero, List.getElem?_cons_succ] <;> rfl) (by kernel_rfl) (by kernel_rfl) (by kernel_rfl) (by intro _ _ _ h; exact h) (Or.inl ⟨by rfl, ?_⟩) ?_
          rotate_left
          · intro w; go_simp; try with_reducible rfl
          try simp only [Act.put, List.setIfInBounds_toArray, List.set_cons_zero, List.set_cons_succ, Array.replicate]
          refine wpAny_done (by kernel_rfl) ?_ _
          go_wp2_with fail
          refine Open_retG _ _ (.pointer (some ⟨w9.heap.size, 0, none⟩)) (.int .i64 0) w.heap.size rfl rfl rfl rfl (rows4 (Row.alloc K9.out _) _ _ _ _) ?_
          exact OpenYes.fin p w.heap.size nx S has sb R w w3 w9 _ _ rfl D9.out HP.out S9.out K9.out L9.out SV9.out U9.out E4.out _ (sets4 _ _ _ _ _ _)
        exact AllReady.nil
      exact AllReady.nil
    refine AllReady.cons (by simp only [List.getElem?_toArray, List.getElem?_cons_zero, List.getElem?_cons_succ] <;> rfl) (fun K hK => ?_) ?_
    · go_simp
      refine hK _ _ ?_
      clear hK K
      try simp only [Act.put, List.setIfInBounds_toArray, List.set_cons_zero, List.set_cons_succ, Array.replicate]
      refine wpAny_ready (rs := [4]) (by kernel_rfl) (by simp) ?_
      refine AllReady.cons (by simp only [List.getElem?_toArray, List.getElem?_cons_zero, List.getElem?_cons_succ] <;> rfl) (fun K hK => ?_) ?_
      · go_simp
        refine hK _ _ ?_
        clear hK K
        try simp only [Act.put, List.setIfInBounds_toArray, List.set_cons_zero, List.set_cons_succ, Array.replicate]
        refine wpAny_take (i := 6) (v := ?_) (by simp only [List.getElem?_toArray, List.getElem?_cons_zero, List.getElem?_cons_succ] <;> rfl) (by kernel_rfl) (by kernel_rfl) (by kernel_rfl) (by intro _ _ _ h; exact h) (Or.inl ⟨by rfl, ?_⟩) ?_
        rotate_left
        · intro w; go_simp; try with_reducible rfl
        try simp only [Act.put, List.setIfInBounds_toArray, List.set_cons_zero, List.set_cons_succ, Array.replicate]
        have s0 := Row.cell (Row.alloc K9.out (.cells #[.pointer (some ⟨p, 0, none⟩), .int .u64 (nx : Int)] 71)) 0; have s1 := Row.cell (Row.alloc K9.out (.cells #[.pointer (some ⟨p, 0, none⟩), .int .u64 (nx : Int)] 71)) 1; have s2 := Row.cell (Row.alloc K9.out (.cells #[.pointer (some ⟨p, 0, none⟩), .int .u64 (nx : Int)] 71)) 2; have s3 := Row.cell (Row.alloc K9.out (.cells #[.pointer (some ⟨p, 0, none⟩), .int .u64 (nx : Int)] 71)) 3; simp only [KepC, List.getElem?_cons_succ, List.getElem?_cons_zero] at s0 s1 s2 s3; have f0 := Row.frozen (Row.alloc K9.out (.cells #[.pointer (some ⟨p, 0, none⟩), .int .u64 (nx : Int)] 71)) 0; have f1 := Row.frozen (Row.alloc K9.out (.cells #[.pointer (some ⟨p, 0, none⟩), .int .u64 (nx : Int)] 71)) 1; have f2 := Row.frozen (Row.alloc K9.out (.cells #[.pointer (some ⟨p, 0, none⟩), .int .u64 (nx : Int)] 71)) 2; have f3 := Row.frozen (Row.alloc K9.out (.cells #[.pointer (some ⟨p, 0, none⟩), .int .u64 (nx : Int)] 71)) 3
        refine wpAny_ready (rs := [7]) (by kernel_rfl) (by simp) ?_
        refine AllReady.cons (by simp only [List.getElem?_toArray, List.getElem?_cons_zero, List.getElem?_cons_succ] <;> rfl) (fun K hK => ?_) ?_
        · go_simp
          refine hK _ _ ?_
          clear hK K
          try simp only [Act.put, List.setIfInBounds_toArray, List.set_cons_zero, List.set_cons_succ, Array.replicate]
          refine wpAny_take (i := 8) (v := ?_) (by simp only [List.getElem?_toArray, List.getElem?_cons_zero, List.getElem?_cons_succ] <;> rfl) (by kernel_rfl) (by kernel_rfl) (by kernel_rfl) (by intro _ _ _ h; exact h) (Or.inl ⟨by rfl, ?_⟩) ?_
          rotate_left
          · intro w; go_simp; try with_reducible rfl
          try simp only [Act.put, List.setIfInBounds_toArray, List.set_cons_zero, List.set_cons_succ, Array.replicate]
          refine wpAny_done (by kernel_rfl) ?_ _
          go_wp2_with fail
          refine Open_retG _ _ (.pointer (some ⟨w9.heap.size, 0, none⟩)) (.int .i64 0) w.heap.size rfl rfl rfl rfl (rows4 (Row.alloc K9.out _) _ _ _ _) ?_
          exact OpenYes.fin p w.heap.size nx S has sb R w w3 w9 _ _ rfl D9.out HP.out S9.out K9.out L9.out SV9.out U9.out E4.out _ (sets4 _ _ _ _ _ _)
        exact AllReady.nil
      exact AllReady.nil
    exact AllReady.nil
  refine AllReady.cons (by simp only [List.getElem?_toArray, List.getElem?_cons_zero, List.getElem?_cons_succ] <;> rfl) (fun K hK => ?_) ?_
  · go_simp
    refine hK _ _ ?_
    clear hK K
    try simp only [Act.put, List.setIfInBounds_toArray, List.set_cons_zero, List.set_cons_succ, Array.replicate]
    refine wpAny_ready (rs := [2]) (by kernel_rfl) (by simp) ?_
    refine AllReady.cons (by simp only [List.getElem?_toArray, List.getElem?_cons_zero, List.getElem?_cons_succ] <;> rfl) (fun K hK => ?_) ?_
    · go_simp
      refine hK _ _ ?_
      clear hK K
      try simp only [Act.put, List.setIfInBounds_toArray, List.set_cons_zero, List.set_cons_succ, Array.replicate]
      refine wpAny_take (i := 3) (v := ?_) (by simp only [List.getElem?_toArray, List.getElem?_cons_zero, List.getElem?_cons_succ] <;> rfl) (by kernel_rfl) (by kernel_rfl) (by kernel_rfl) (by intro _ _ _ h; exact h) (Or.inl ⟨by rfl, ?_⟩) ?_
      rotate_left
      · intro w; go_simp; try with_reducible rfl
      try simp only [Act.put, List.setIfInBounds_toArray, List.set_cons_zero, List.set_cons_succ, Array.replicate]
      refine wpAny_ready (rs := [4]) (by kernel_rfl) (by simp) ?_
      refine AllReady.cons (by simp only [List.getElem?_toArray, List.getElem?_cons_zero, List.getElem?_cons_succ] <;> rfl) (fun K hK => ?_) ?_
      · go_simp
        refine hK _ _ ?_
        clear hK K
        try simp only [Act.put, List.setIfInBounds_toArray, List.set_cons_zero, List.set_cons_succ, Array.replicate]
        refine wpAny_take (i := 6) (v := ?_) (by simp only [List.getElem?_toArray, List.getElem?_cons_zero, List.getElem?_cons_succ] <;> rfl) (by kernel_rfl) (by kernel_rfl) (by kernel_rfl) (by intro _ _ _ h; exact h) (Or.inl ⟨by rfl, ?_⟩) ?_
        rotate_left
        · intro w; go_simp; try with_reducible rfl
        try simp only [Act.put, List.setIfInBounds_toArray, List.set_cons_zero, List.set_cons_succ, Array.replicate]
        have s0 := Row.cell (Row.alloc K9.out (.cells #[.pointer (some ⟨p, 0, none⟩), .int .u64 (nx : Int)] 71)) 0; have s1 := Row.cell (Row.alloc K9.out (.cells #[.pointer (some ⟨p, 0, none⟩), .int .u64 (nx : Int)] 71)) 1; have s2 := Row.cell (Row.alloc K9.out (.cells #[.pointer (some ⟨p, 0, none⟩), .int .u64 (nx : Int)] 71)) 2; have s3 := Row.cell (Row.alloc K9.out (.cells #[.pointer (some ⟨p, 0, none⟩), .int .u64 (nx : Int)] 71)) 3; simp only [KepC, List.getElem?_cons_succ, List.getElem?_cons_zero] at s0 s1 s2 s3; have f0 := Row.frozen (Row.alloc K9.out (.cells #[.pointer (some ⟨p, 0, none⟩), .int .u64 (nx : Int)] 71)) 0; have f1 := Row.frozen (Row.alloc K9.out (.cells #[.pointer (some ⟨p, 0, none⟩), .int .u64 (nx : Int)] 71)) 1; have f2 := Row.frozen (Row.alloc K9.out (.cells #[.pointer (some ⟨p, 0, none⟩), .int .u64 (nx : Int)] 71)) 2; have f3 := Row.frozen (Row.alloc K9.out (.cells #[.pointer (some ⟨p, 0, none⟩), .int .u64 (nx : Int)] 71)) 3
        refine wpAny_ready (rs := [7]) (by kernel_rfl) (by simp) ?_
        refine AllReady.cons (by simp only [List.getElem?_toArray, List.getElem?_cons_zero, List.getElem?_cons_succ] <;> rfl) (fun K hK => ?_) ?_
        · go_simp
          refine hK _ _ ?_
          clear hK K
          try simp only [Act.put, List.setIfInBounds_toArray, List.set_cons_zero, List.set_cons_succ, Array.replicate]
          refine wpAny_take (i := 8) (v := ?_) (by simp only [List.getElem?_toArray, List.getElem?_cons_zero, List.getElem?_cons_succ] <;> rfl) (by kernel_rfl) (by kernel_rfl) (by kernel_rfl) (by intro _ _ _ h; exact h) (Or.inl ⟨by rfl, ?_⟩) ?_
          rotate_left
          · intro w; go_simp; try with_reducible rfl
          try simp only [Act.put, List.setIfInBounds_toArray, List.set_cons_zero, List.set_cons_succ, Array.replicate]
          refine wpAny_done (by kernel_rfl) ?_ _
          go_wp2_with fail
          refine Open_retG _ _ (.pointer (some ⟨w9.heap.size, 0, none⟩)) (.int .i64 0) w.heap.size rfl rfl rfl rfl (rows4 (Row.alloc K9.out _) _ _ _ _) ?_
          exact OpenYes.fin p w.heap.size nx S has sb R w w3 w9 _ _ rfl D9.out HP.out S9.out K9.out L9.out SV9.out U9.out E4.out _ (sets4 _ _ _ _ _ _)
        exact AllReady.nil
      exact AllReady.nil
    exact AllReady.nil
  exact AllReady.nil
theorem Open_mend0 (p : Nat) (S S1 : PD) (w : World) (has : Bool) (sb : List UInt8) (n1 at_ nx : Nat) (R : List (List UInt8)) (e1 : Nat) (hS : Dsk w p S) (hd : S.dead = false) (hT : snF S.n1 = (has, sb, n1, 0)) (hm : S.left ≤ 9223372036854775807) (h0l : S.n0.length ≤ 50000000) (h1l : S.n1.length ≤ 50000000) (hlim : -1000000000000 ≤ S.lim ∧ S.lim ≤ 1000000000000) (U : List (List UInt8) × Nat × Nat) (hU : scF (S.n0.length + 1) S.n0 = U) (hV : recF n1 U.1 0 [] n1 = (at_, R, nx)) (hk : at_ < S.n0.length) (hrep : S.replace 0 (S.n0.take at_) = (S1, e1)) (he1 : e1 ≠ 0) :
    Calls Try.prog 7 #[.pointer (some ⟨p, 0, none⟩)] w fun e w' => e = openNo e1 ∧ Dsk w' p S1 ∧ Upd p w w' := by
  have hr1 : S.read 1 = (S.n1, 0) := by unfold PD.read; rw [if_neg (by simp [hd]), if_neg (by omega)]; simp
  have hr0 : S.read 0 = (S.n0, 0) := by unfold PD.read; rw [if_neg (by simp [hd]), if_neg (by omega)]; simp
  have HR1 := Lib.hid hr1
  have HR0 := Lib.hid hr0
  have HS := Lib.hid hS
  have HP := Lib.hid hS.lt
  have HT := Lib.hid (show S.n0.length + S.n1.length ≤ 100000000000 by omega)
  have HSN := Lib.hid hT
  have HM := Lib.hid hm
  have HLIM := Lib.hid hlim
  clear hr1 hr0 hS hd hT hm hlim
  have hUl := scF_count (S.n0.length + 1) S.n0
  rw [hU] at hUl
  have hn1 := snF_num S.n1
  rw [HSN.out] at hn1
  dsimp only at hn1
  have hfr := scF_frames (S.n0.length + 1) S.n0
  rw [hU] at hfr
  have hat := recF_at n1 U.1 0 [] n1
  rw [hV] at hat
  obtain ⟨hat, hnx, hRl⟩ := hat
  dsimp only at hat hnx hRl
  have hat : at_ ≤ S.n0.length := by omega
  have HU := Lib.hid hU
  have HV := Lib.hid hV
  clear hU hV hfr
  have hmI : (at_ : Int) < (S.n0.length : Int) := by omega
  have HREP := Lib.hid hrep
  clear hrep
  have he1I : ¬ (e1 : Int) = 0 := by omega
  go_enter Try.func7, Try.ntmps7
  go_wp2_with fail
  refine (Read_any p 1 S _ (HS.out.keepB (balloc (balloc (Below.refl _ _) _) _)) HT.out).mono ?_
  rw [HR1.out]
  rintro e w1 ⟨v1, rfl, ho1, hb1⟩
  obtain ⟨x1, c1, rfl, -⟩ := ho1.sh.open
  have hB1 : Below w.heap.size w w1 := bstep (balloc (balloc (Below.refl _ _) _) _) hb1
  have K1 : Row w1 w.heap.size 31 (KepC false (.slice none 0 0) (.slice none 0 0) 0) := ((Row.new w 31 (KepC false (.slice none 0 0) (.slice none 0 0) 0)).alloc _).keep hb1
  have K1' : Row w1 (w.heap.size + 1) 31 (KepC false (.slice none 0 0) (.slice none 0 0) 0) := by
    have := (Row.new (w.alloc (.cells (KepC false (.slice none 0 0) (.slice none 0 0) 0).toArray 31)) 31 (KepC false (.slice none 0 0) (.slice none 0 0) 0)).keep hb1
    simpa using this
  have HB1 := Lib.hid hB1
  have HK1 := Lib.hid K1
  have HK1' := Lib.hid K1'
  have HO1 := Lib.hid ho1
  clear ho1 hb1 hB1 K1 K1'
  go_wp2_with (go_at_call 23; refine (snapshot_any _ S.n1 (w.heap.size + 1) w1 HK1'.out HO1.out.sh (by omega) _ HSN.out).mono ?_; rintro e w2 ⟨sv, rfl, hr2, hs2, hu2⟩; obtain ⟨xs, cs, rfl, -⟩ := hs2.sh.open; have K2 := Lib.hid (hu2.row HK1.out (by omega)); have R2 := Lib.hid hr2; have SV2 := Lib.hid hs2; have D2 := Lib.hid ((HS.out.keepB HB1.out).updO HK1'.out (by decide) (by have := HP.out; omega) hu2); have U2 := Lib.hid (((Upd.refl p w).then HB1.out).fresh hu2 (by omega)); have Z2 := Lib.hid (Nat.le_trans HB1.out.size hu2.sizeLe); clear hr2 hs2 hu2)
  refine (Read_any p 0 S _ D2.out HT.out).mono ?_
  rw [HR0.out]
  rintro e w3 ⟨v3, rfl, ho3, hb3⟩
  obtain ⟨x3, c3, rfl, g1, g2, g3, -⟩ := ho3.sh.open
  have HO3 := Lib.hid ho3
  have HB3 := Lib.hid hb3
  clear ho3 hb3
  go_wp2_with (first
    | (go_at_call 24; refine (records_any _ S.n0 (w.heap.size + 1) n1 has _ _ (R2.out.keep HB3.out) HO3.out.sh (by omega) hn1 U HU.out (by omega) _ HV.out).mono ?_; rintro e w4 ⟨rv, rfl, hr4, ho4, hu4⟩; dsimp only at hr4 ho4; obtain ⟨x4, c4, rfl, -⟩ := ho4.bss.open; have K4 := Lib.hid (hu4.row (K2.out.keep HB3.out) (by omega)); have R4 := Lib.hid hr4; have SV4 := Lib.hid (hu4.own (SV2.out.below HB3.out) (R2.out.keep HB3.out) (by decide)); have LG4 := Lib.hid (hu4.own HO3.out (R2.out.keep HB3.out) (by decide)); have L4 := Lib.hid ho4; have D4 := Lib.hid ((D2.out.keepB HB3.out).updO (R2.out.keep HB3.out) (by decide) (by have := HP.out; omega) hu4); have U4 := Lib.hid ((U2.out.then HB3.out).fresh hu4 (by omega)); have E4 := Lib.hid (Nat.le_trans Z2.out HB3.out.size); clear hr4 ho4 hu4)
    | (go_at_call 25; refine (Replace_of p 0 _ (S.n0.take at_) S S1 e1 HREP.out _ D4.out (fun w' hu => (hu.own LG4.out D4.out.rowC.choose_spec (by decide)).sh.take at_ hat) HM.out HT.out (by rw [List.length_take]; omega) HLIM.out).mono ?_; rintro e w5 ⟨rfl, hd5, hu5⟩; have K5 := Lib.hid (hu5.row K4.out (by have := HP.out; omega)); have R5 := Lib.hid (hu5.row R4.out (by have := HP.out; omega)); have SV5 := Lib.hid (hu5.own SV4.out D4.out.rowC.choose_spec (by decide)); have L5 := Lib.hid (hu5.bos L4.out D4.out.rowC.choose_spec (by decide) (by decide)); have D5 := Lib.hid hd5; have U5 := Lib.hid (U4.out.trans hu5); have z0 := Row.cell (K5.out) 0; have z1 := Row.cell (K5.out) 1; have z2 := Row.cell (K5.out) 2; have z3 := Row.cell (K5.out) 3; simp only [KepC, List.getElem?_cons_succ, List.getElem?_cons_zero] at z0 z1 z2 z3; have zf0 := Row.frozen (K5.out) 0; have zf1 := Row.frozen (K5.out) 1; have zf2 := Row.frozen (K5.out) 2; have zf3 := Row.frozen (K5.out) 3; clear hd5 hu5))
  refine Open_retG _ _ (.pointer none) (.int .i64 (e1 : Int)) w.heap.size rfl rfl rfl rfl (rows4 K5.out _ _ _ _) ?_
  exact ⟨rfl, D5.out.updO K5.out (by decide) (by have := HP.out; omega) (sets4 _ _ _ _ _ _), U5.out.fresh (sets4 _ _ _ _ _ _) (Nat.le_refl _)⟩
theorem Open_mend1 (p : Nat) (S S1 S2 : PD) (w : World) (has : Bool) (sb : List UInt8) (n1 at_ nx : Nat) (R : List (List UInt8)) (e2 : Nat) (hS : Dsk w p S) (hd : S.dead = false) (hT : snF S.n1 = (has, sb, n1, 0)) (hm : S.left ≤ 9223372036854775807) (h0l : S.n0.length ≤ 50000000) (h1l : S.n1.length ≤ 50000000) (hlim : -1000000000000 ≤ S.lim ∧ S.lim ≤ 1000000000000) (U : List (List UInt8) × Nat × Nat) (hU : scF (S.n0.length + 1) S.n0 = U) (hV : recF n1 U.1 0 [] n1 = (at_, R, nx)) (hk : at_ < S.n0.length) (hrep : S.replace 0 (S.n0.take at_) = (S1, 0)) (hsyn : S1.sync 0 = (S2, e2)) (he2 : e2 ≠ 0) :
    Calls Try.prog 7 #[.pointer (some ⟨p, 0, none⟩)] w fun e w' => e = openNo e2 ∧ Dsk w' p S2 ∧ Upd p w w' := by
  have hbd := replace_bd S 0 (S.n0.take at_)
  rw [hrep] at hbd
  obtain ⟨hb1, hb2, hb3⟩ := hbd
  dsimp only at hb1 hb2 hb3
  rw [List.length_take] at hb3
  have HB1' := Lib.hid hb1
  have HB2 := Lib.hid hb2
  have HB3' := Lib.hid (show S1.n0.length + S1.n1.length ≤ S.n0.length + S.n1.length + S.n0.length by omega)
  have HSYN := Lib.hid hsyn
  clear hb1 hb2 hb3 hsyn
  have hr1 : S.read 1 = (S.n1, 0) := by unfold PD.read; rw [if_neg (by simp [hd]), if_neg (by omega)]; simp
  have hr0 : S.read 0 = (S.n0, 0) := by unfold PD.read; rw [if_neg (by simp [hd]), if_neg (by omega)]; simp
  have HR1 := Lib.hid hr1
  have HR0 := Lib.hid hr0
  have HS := Lib.hid hS
  have HP := Lib.hid hS.lt
  have HT := Lib.hid (show S.n0.length + S.n1.length ≤ 100000000000 by omega)
  have HSN := Lib.hid hT
  have HM := Lib.hid hm
  have HLIM := Lib.hid hlim
  clear hr1 hr0 hS hd hT hm hlim
  have hUl := scF_count (S.n0.length + 1) S.n0
  rw [hU] at hUl
  have hn1 := snF_num S.n1
  rw [HSN.out] at hn1
  dsimp only at hn1
  have hfr := scF_frames (S.n0.length + 1) S.n0
  rw [hU] at hfr
  have hat := recF_at n1 U.1 0 [] n1
  rw [hV] at hat
  obtain ⟨hat, hnx, hRl⟩ := hat
  dsimp only at hat hnx hRl
  have hat : at_ ≤ S.n0.length := by omega
  have HU := Lib.hid hU
  have HV := Lib.hid hV
  clear hU hV hfr
  have hmI : (at_ : Int) < (S.n0.length : Int) := by omega
  have HREP := Lib.hid hrep
  clear hrep
  have he2I : ¬ (e2 : Int) = 0 := by omega
  go_enter Try.func7, Try.ntmps7
  go_wp2_with fail
  refine (Read_any p 1 S _ (HS.out.keepB (balloc (balloc (Below.refl _ _) _) _)) HT.out).mono ?_
  rw [HR1.out]
  rintro e w1 ⟨v1, rfl, ho1, hb1⟩
  obtain ⟨x1, c1, rfl, -⟩ := ho1.sh.open
  have hB1 : Below w.heap.size w w1 := bstep (balloc (balloc (Below.refl _ _) _) _) hb1
  have K1 : Row w1 w.heap.size 31 (KepC false (.slice none 0 0) (.slice none 0 0) 0) := ((Row.new w 31 (KepC false (.slice none 0 0) (.slice none 0 0) 0)).alloc _).keep hb1
  have K1' : Row w1 (w.heap.size + 1) 31 (KepC false (.slice none 0 0) (.slice none 0 0) 0) := by
    have := (Row.new (w.alloc (.cells (KepC false (.slice none 0 0) (.slice none 0 0) 0).toArray 31)) 31 (KepC false (.slice none 0 0) (.slice none 0 0) 0)).keep hb1
    simpa using this
  have HB1 := Lib.hid hB1
  have HK1 := Lib.hid K1
  have HK1' := Lib.hid K1'
  have HO1 := Lib.hid ho1
  clear ho1 hb1 hB1 K1 K1'
  go_wp2_with (go_at_call 23; refine (snapshot_any _ S.n1 (w.heap.size + 1) w1 HK1'.out HO1.out.sh (by omega) _ HSN.out).mono ?_; rintro e w2 ⟨sv, rfl, hr2, hs2, hu2⟩; obtain ⟨xs, cs, rfl, -⟩ := hs2.sh.open; have K2 := Lib.hid (hu2.row HK1.out (by omega)); have R2 := Lib.hid hr2; have SV2 := Lib.hid hs2; have D2 := Lib.hid ((HS.out.keepB HB1.out).updO HK1'.out (by decide) (by have := HP.out; omega) hu2); have U2 := Lib.hid (((Upd.refl p w).then HB1.out).fresh hu2 (by omega)); have Z2 := Lib.hid (Nat.le_trans HB1.out.size hu2.sizeLe); clear hr2 hs2 hu2)
  refine (Read_any p 0 S _ D2.out HT.out).mono ?_
  rw [HR0.out]
  rintro e w3 ⟨v3, rfl, ho3, hb3⟩
  obtain ⟨x3, c3, rfl, g1, g2, g3, -⟩ := ho3.sh.open
  have HO3 := Lib.hid ho3
  have HB3 := Lib.hid hb3
  clear ho3 hb3
  go_wp2_with (first
    | (go_at_call 24; refine (records_any _ S.n0 (w.heap.size + 1) n1 has _ _ (R2.out.keep HB3.out) HO3.out.sh (by omega) hn1 U HU.out (by omega) _ HV.out).mono ?_; rintro e w4 ⟨rv, rfl, hr4, ho4, hu4⟩; dsimp only at hr4 ho4; obtain ⟨x4, c4, rfl, -⟩ := ho4.bss.open; have K4 := Lib.hid (hu4.row (K2.out.keep HB3.out) (by omega)); have R4 := Lib.hid hr4; have SV4 := Lib.hid (hu4.own (SV2.out.below HB3.out) (R2.out.keep HB3.out) (by decide)); have LG4 := Lib.hid (hu4.own HO3.out (R2.out.keep HB3.out) (by decide)); have L4 := Lib.hid ho4; have D4 := Lib.hid ((D2.out.keepB HB3.out).updO (R2.out.keep HB3.out) (by decide) (by have := HP.out; omega) hu4); have U4 := Lib.hid ((U2.out.then HB3.out).fresh hu4 (by omega)); have E4 := Lib.hid (Nat.le_trans Z2.out HB3.out.size); clear hr4 ho4 hu4)
    | (go_at_call 25; refine (Replace_of p 0 _ (S.n0.take at_) S S1 0 HREP.out _ D4.out (fun w' hu => (hu.own LG4.out D4.out.rowC.choose_spec (by decide)).sh.take at_ hat) HM.out HT.out (by rw [List.length_take]; omega) HLIM.out).mono ?_; rintro e w5 ⟨rfl, hd5, hu5⟩; have K5 := Lib.hid (hu5.row K4.out (by have := HP.out; omega)); have R5 := Lib.hid (hu5.row R4.out (by have := HP.out; omega)); have SV5 := Lib.hid (hu5.own SV4.out D4.out.rowC.choose_spec (by decide)); have L5 := Lib.hid (hu5.bos L4.out D4.out.rowC.choose_spec (by decide) (by decide)); have D5 := Lib.hid hd5; have U5 := Lib.hid (U4.out.trans hu5); clear hd5 hu5)
    | (go_at_call 26; (refine (Sync_of p 0 S1 S2 e2 HSYN.out _ D5.out (by have := HB2.out; have := HM.out; omega) (by have := HT.out; have := HB3'.out; omega) (by rw [HB1'.out]; exact HLIM.out)).mono ?_; rintro e w6 ⟨rfl, hd6, hu6⟩; have K6 := Lib.hid (hu6.row K5.out (by have := HP.out; omega)); have R6 := Lib.hid (hu6.row R5.out (by have := HP.out; omega)); have SV6 := Lib.hid (hu6.own SV5.out D5.out.rowC.choose_spec (by decide)); have L6 := Lib.hid (hu6.bos L5.out D5.out.rowC.choose_spec (by decide) (by decide)); have D6 := Lib.hid hd6; have U6 := Lib.hid (U5.out.trans hu6); have z0 := Row.cell (K6.out) 0; have z1 := Row.cell (K6.out) 1; have z2 := Row.cell (K6.out) 2; have z3 := Row.cell (K6.out) 3; simp only [KepC, List.getElem?_cons_succ, List.getElem?_cons_zero] at z0 z1 z2 z3; have zf0 := Row.frozen (K6.out) 0; have zf1 := Row.frozen (K6.out) 1; have zf2 := Row.frozen (K6.out) 2; have zf3 := Row.frozen (K6.out) 3; clear hd6 hu6)))
  refine Open_retG _ _ (.pointer none) (.int .i64 (e2 : Int)) w.heap.size rfl rfl rfl rfl (rows4 K6.out _ _ _ _) ?_
  exact ⟨rfl, D6.out.updO K6.out (by decide) (by have := HP.out; omega) (sets4 _ _ _ _ _ _), U6.out.fresh (sets4 _ _ _ _ _ _) (Nat.le_refl _)⟩
theorem Open_mend (p : Nat) (S S1 S2 : PD) (w : World) (has : Bool) (sb : List UInt8) (n1 at_ nx : Nat) (R : List (List UInt8)) (hS : Dsk w p S) (hd : S.dead = false) (hT : snF S.n1 = (has, sb, n1, 0)) (hm : S.left ≤ 9223372036854775807) (h0l : S.n0.length ≤ 50000000) (h1l : S.n1.length ≤ 50000000) (hlim : -1000000000000 ≤ S.lim ∧ S.lim ≤ 1000000000000) (U : List (List UInt8) × Nat × Nat) (hU : scF (S.n0.length + 1) S.n0 = U) (hV : recF n1 U.1 0 [] n1 = (at_, R, nx)) (hk : at_ < S.n0.length) (hrep : S.replace 0 (S.n0.take at_) = (S1, 0)) (hsyn : S1.sync 0 = (S2, 0)) :
    Calls Try.prog 7 #[.pointer (some ⟨p, 0, none⟩)] w fun e w' => OpenYes w w' p e has sb R nx ∧ Dsk w' p S2 ∧ Upd p w w' := by
  have hbd := replace_bd S 0 (S.n0.take at_)
  rw [hrep] at hbd
  obtain ⟨hb1, hb2, hb3⟩ := hbd
  dsimp only at hb1 hb2 hb3
  rw [List.length_take] at hb3
  have HB1' := Lib.hid hb1
  have HB2 := Lib.hid hb2
  have HB3' := Lib.hid (show S1.n0.length + S1.n1.length ≤ S.n0.length + S.n1.length + S.n0.length by omega)
  have HSYN := Lib.hid hsyn
  clear hb1 hb2 hb3 hsyn
  have hr1 : S.read 1 = (S.n1, 0) := by unfold PD.read; rw [if_neg (by simp [hd]), if_neg (by omega)]; simp
  have hr0 : S.read 0 = (S.n0, 0) := by unfold PD.read; rw [if_neg (by simp [hd]), if_neg (by omega)]; simp
  have HR1 := Lib.hid hr1
  have HR0 := Lib.hid hr0
  have HS := Lib.hid hS
  have HP := Lib.hid hS.lt
  have HT := Lib.hid (show S.n0.length + S.n1.length ≤ 100000000000 by omega)
  have HSN := Lib.hid hT
  have HM := Lib.hid hm
  have HLIM := Lib.hid hlim
  clear hr1 hr0 hS hd hT hm hlim
  have hUl := scF_count (S.n0.length + 1) S.n0
  rw [hU] at hUl
  have hn1 := snF_num S.n1
  rw [HSN.out] at hn1
  dsimp only at hn1
  have hfr := scF_frames (S.n0.length + 1) S.n0
  rw [hU] at hfr
  have hat := recF_at n1 U.1 0 [] n1
  rw [hV] at hat
  obtain ⟨hat, hnx, hRl⟩ := hat
  dsimp only at hat hnx hRl
  have hat : at_ ≤ S.n0.length := by omega
  have HU := Lib.hid hU
  have HV := Lib.hid hV
  clear hU hV hfr
  have hmI : (at_ : Int) < (S.n0.length : Int) := by omega
  have HREP := Lib.hid hrep
  clear hrep
  go_enter Try.func7, Try.ntmps7
  go_wp2_with fail
  refine (Read_any p 1 S _ (HS.out.keepB (balloc (balloc (Below.refl _ _) _) _)) HT.out).mono ?_
  rw [HR1.out]
  rintro e w1 ⟨v1, rfl, ho1, hb1⟩
  obtain ⟨x1, c1, rfl, -⟩ := ho1.sh.open
  have hB1 : Below w.heap.size w w1 := bstep (balloc (balloc (Below.refl _ _) _) _) hb1
  have K1 : Row w1 w.heap.size 31 (KepC false (.slice none 0 0) (.slice none 0 0) 0) := ((Row.new w 31 (KepC false (.slice none 0 0) (.slice none 0 0) 0)).alloc _).keep hb1
  have K1' : Row w1 (w.heap.size + 1) 31 (KepC false (.slice none 0 0) (.slice none 0 0) 0) := by
    have := (Row.new (w.alloc (.cells (KepC false (.slice none 0 0) (.slice none 0 0) 0).toArray 31)) 31 (KepC false (.slice none 0 0) (.slice none 0 0) 0)).keep hb1
    simpa using this
  have HB1 := Lib.hid hB1
  have HK1 := Lib.hid K1
  have HK1' := Lib.hid K1'
  have HO1 := Lib.hid ho1
  clear ho1 hb1 hB1 K1 K1'
  go_wp2_with (go_at_call 23; refine (snapshot_any _ S.n1 (w.heap.size + 1) w1 HK1'.out HO1.out.sh (by omega) _ HSN.out).mono ?_; rintro e w2 ⟨sv, rfl, hr2, hs2, hu2⟩; obtain ⟨xs, cs, rfl, -⟩ := hs2.sh.open; have K2 := Lib.hid (hu2.row HK1.out (by omega)); have R2 := Lib.hid hr2; have SV2 := Lib.hid hs2; have D2 := Lib.hid ((HS.out.keepB HB1.out).updO HK1'.out (by decide) (by have := HP.out; omega) hu2); have U2 := Lib.hid (((Upd.refl p w).then HB1.out).fresh hu2 (by omega)); have Z2 := Lib.hid (Nat.le_trans HB1.out.size hu2.sizeLe); clear hr2 hs2 hu2)
  refine (Read_any p 0 S _ D2.out HT.out).mono ?_
  rw [HR0.out]
  rintro e w3 ⟨v3, rfl, ho3, hb3⟩
  obtain ⟨x3, c3, rfl, g1, g2, g3, -⟩ := ho3.sh.open
  have HO3 := Lib.hid ho3
  have HB3 := Lib.hid hb3
  clear ho3 hb3
  go_wp2_with (first
    | (go_at_call 24; refine (records_any _ S.n0 (w.heap.size + 1) n1 has _ _ (R2.out.keep HB3.out) HO3.out.sh (by omega) hn1 U HU.out (by omega) _ HV.out).mono ?_; rintro e w4 ⟨rv, rfl, hr4, ho4, hu4⟩; dsimp only at hr4 ho4; obtain ⟨x4, c4, rfl, -⟩ := ho4.bss.open; have K4 := Lib.hid (hu4.row (K2.out.keep HB3.out) (by omega)); have R4 := Lib.hid hr4; have SV4 := Lib.hid (hu4.own (SV2.out.below HB3.out) (R2.out.keep HB3.out) (by decide)); have LG4 := Lib.hid (hu4.own HO3.out (R2.out.keep HB3.out) (by decide)); have L4 := Lib.hid ho4; have D4 := Lib.hid ((D2.out.keepB HB3.out).updO (R2.out.keep HB3.out) (by decide) (by have := HP.out; omega) hu4); have U4 := Lib.hid ((U2.out.then HB3.out).fresh hu4 (by omega)); have E4 := Lib.hid (Nat.le_trans Z2.out HB3.out.size); clear hr4 ho4 hu4)
    | (go_at_call 25; refine (Replace_of p 0 _ (S.n0.take at_) S S1 0 HREP.out _ D4.out (fun w' hu => (hu.own LG4.out D4.out.rowC.choose_spec (by decide)).sh.take at_ hat) HM.out HT.out (by rw [List.length_take]; omega) HLIM.out).mono ?_; rintro e w5 ⟨rfl, hd5, hu5⟩; have K5 := Lib.hid (hu5.row K4.out (by have := HP.out; omega)); have R5 := Lib.hid (hu5.row R4.out (by have := HP.out; omega)); have SV5 := Lib.hid (hu5.own SV4.out D4.out.rowC.choose_spec (by decide)); have L5 := Lib.hid (hu5.bos L4.out D4.out.rowC.choose_spec (by decide) (by decide)); have D5 := Lib.hid hd5; have U5 := Lib.hid (U4.out.trans hu5); clear hd5 hu5)
    | (go_at_call 26; (refine (Sync_of p 0 S1 S2 0 HSYN.out _ D5.out (by have := HB2.out; have := HM.out; omega) (by have := HT.out; have := HB3'.out; omega) (by rw [HB1'.out]; exact HLIM.out)).mono ?_; rintro e w6 ⟨rfl, hd6, hu6⟩; have K6 := Lib.hid (hu6.row K5.out (by have := HP.out; omega)); have R6 := Lib.hid (hu6.row R5.out (by have := HP.out; omega)); have SV6 := Lib.hid (hu6.own SV5.out D5.out.rowC.choose_spec (by decide)); have L6 := Lib.hid (hu6.bos L5.out D5.out.rowC.choose_spec (by decide) (by decide)); have D6 := Lib.hid hd6; have U6 := Lib.hid (U5.out.trans hu6); clear hd6 hu6)))
  have R9 := Lib.hid (Row.drew R6.out)
  have K9 := Lib.hid (Row.drew K6.out)
  have L9 := Lib.hid (L6.out.below (Below.refl _ _).drew)
  have SV9 := Lib.hid (SV6.out.below (Below.refl _ _).drew)
  have D9 := Lib.hid (D6.out.keepB (Below.refl _ _).drew)
  have U9 := Lib.hid (U6.out.then (Below.refl _ _).drew)
  have S9 := Lib.hid (show w.heap.size + 1 < w6.drew.heap.size from R9.out.lt)
  refine wp_region_any (by kernel_rfl) ?_
  try (change wpAny _ _ _ _ _ _ _ (World.drew _))
  generalize World.drew w6 = w9 at *
  have k0 := Row.cell (R9.out) 0; have k1 := Row.cell (R9.out) 1; have k2 := Row.cell (R9.out) 2; have k3 := Row.cell (R9.out) 3; simp only [KepC, List.getElem?_cons_succ, List.getElem?_cons_zero] at k0 k1 k2 k3
  refine wpAny_take (i := 0) (v := ?_) (by simp only [List.getElem?_toArray, List.getElem?_cons_zero, List.getElem?_cons_succ] <;> rfl) (by kernel_rfl) (by kernel_rfl) (by kernel_rfl) (by intro _ _ _ h; exact h) (Or.inl ⟨by rfl, ?_⟩) ?_
  rotate_left
  · intro w; go_simp; try with_reducible rfl
  try simp only [Act.put, List.setIfInBounds_toArray, List.set_cons_zero, List.set_cons_succ, Array.replicate]
  refine wpAny_take (i := 1) (v := ?_) (by simp only [List.getElem?_toArray, List.getElem?_cons_zero, List.getElem?_cons_succ] <;> rfl) (by kernel_rfl) (by kernel_rfl) (by kernel_rfl) (by intro _ _ _ h; exact h) (Or.inl ⟨by rfl, ?_⟩) ?_
  rotate_left
  · intro w; go_simp; try with_reducible rfl
  try simp only [Act.put, List.setIfInBounds_toArray, List.set_cons_zero, List.set_cons_succ, Array.replicate]
  refine wpAny_ready (rs := [2, 5]) (by kernel_rfl) (by simp) ?_
  refine AllReady.cons (by simp only [List.getElem?_toArray, List.getElem?_cons_zero, List.getElem?_cons_succ] <;> rfl) (fun K hK => ?_) ?_
  · go_simp
    refine hK _ _ ?_
    clear hK K
    try simp only [Act.put, List.setIfInBounds_toArray, List.set_cons_zero, List.set_cons_succ, Array.replicate]
    refine wpAny_take (i := 3) (v := ?_) (by simp only [List.getElem?_toArray, List.getElem?_cons_zero, List.getElem?_cons_succ] <;> rfl) (by kernel_rfl) (by kernel_rfl) (by kernel_rfl) (by intro _ _ _ h; exact h) (Or.inl ⟨by rfl, ?_⟩) ?_
    rotate_left
    · intro w; go_simp; try with_reducible rfl
    try simp only [Act.put, List.setIfInBounds_toArray, List.set_cons_zero, List.set_cons_succ, Array.replicate]
    refine wpAny_ready (rs := [4, 5]) (by kernel_rfl) (by simp) ?_
    refine AllReady.cons (by simp only [List.getElem?_toArray, List.getElem?_cons_zero, List.getElem?_cons_succ] <;> rfl) (fun K hK => ?_) ?_
    · go_simp
      refine hK _ _ ?_
      clear hK K
      try simp only [Act.put, List.setIfInBounds_toArray, List.set_cons_zero, List.set_cons_succ, Array.replicate]
      refine wpAny_take (i := 6) (v := ?_) (by simp only [List.getElem?_toArray, List.getElem?_cons_zero, List.getElem?_cons_succ] <;> rfl) (by kernel_rfl) (by kernel_rfl) (by kernel_rfl) (by intro _ _ _ h; exact h) (Or.inl ⟨by rfl, ?_⟩) ?_
      rotate_left
      · intro w; go_simp; try with_reducible rfl
      try simp only [Act.put, List.setIfInBounds_toArray, List.set_cons_zero, List.set_cons_succ, Array.replicate]
      have a0 := Row.cell (Row.alloc R9.out (.cells #[.pointer (some ⟨p, 0, none⟩), .int .u64 (nx : Int)] 71)) 0; have a1 := Row.cell (Row.alloc R9.out (.cells #[.pointer (some ⟨p, 0, none⟩), .int .u64 (nx : Int)] 71)) 1; have a2 := Row.cell (Row.alloc R9.out (.cells #[.pointer (some ⟨p, 0, none⟩), .int .u64 (nx : Int)] 71)) 2; have a3 := Row.cell (Row.alloc R9.out (.cells #[.pointer (some ⟨p, 0, none⟩), .int .u64 (nx : Int)] 71)) 3; simp only [KepC, List.getElem?_cons_succ, List.getElem?_cons_zero] at a0 a1 a2 a3
      refine wpAny_ready (rs := [5]) (by kernel_rfl) (by simp) ?_
      refine AllReady.cons (by simp only [List.getElem?_toArray, List.getElem?_cons_zero, List.getElem?_cons_succ] <;> rfl) (fun K hK => ?_) ?_
      · go_simp
        refine hK _ _ ?_
        clear hK K
        try simp only [Act.put, List.setIfInBounds_toArray, List.set_cons_zero, List.set_cons_succ, Array.replicate]
        have s0 := Row.cell (Row.alloc K9.out (.cells #[.pointer (some ⟨p, 0, none⟩), .int .u64 (nx : Int)] 71)) 0; have s1 := Row.cell (Row.alloc K9.out (.cells #[.pointer (some ⟨p, 0, none⟩), .int .u64 (nx : Int)] 71)) 1; have s2 := Row.cell (Row.alloc K9.out (.cells #[.pointer (some ⟨p, 0, none⟩), .int .u64 (nx : Int)] 71)) 2; have s3 := Row.cell (Row.alloc K9.out (.cells #[.pointer (some ⟨p, 0, none⟩), .int .u64 (nx : Int)] 71)) 3; simp only [KepC, List.getElem?_cons_succ, List.getElem?_cons_zero] at s0 s1 s2 s3; have f0 := Row.frozen (Row.alloc K9.out (.cells #[.pointer (some ⟨p, 0, none⟩), .int .u64 (nx : Int)] 71)) 0; have f1 := Row.frozen (Row.alloc K9.out (.cells #[.pointer (some ⟨p, 0, none⟩), .int .u64 (nx : Int)] 71)) 1; have f2 := Row.frozen (Row.alloc K9.out (.cells #[.pointer (some ⟨p, 0, none⟩), .int .u64 (nx : Int)] 71)) 2; have f3 := Row.frozen (Row.alloc K9.out (.cells #[.pointer (some ⟨p, 0, none⟩), .int .u64 (nx : Int)] 71)) 3
        refine wpAny_ready (rs := [7]) (by kernel_rfl) (by simp) ?_
        refine AllReady.cons (by simp only [List.getElem?_toArray, List.getElem?_cons_zero, List.getElem?_cons_succ] <;> rfl) (fun K hK => ?_) ?_
        · go_simp
          refine hK _ _ ?_
          clear hK K
          try simp only [Act.put, List.setIfInBounds_toArray, List.set_cons_zero, List.set_cons_succ, Array.replicate]
          refine wpAny_take (i := 8) (v := ?_) (by simp only [List.getElem?_toArray, List.getElem?_cons_zero, List.getElem?_cons_succ] <;> rfl) (by kernel_rfl) (by kernel_rfl) (by kernel_rfl) (by intro _ _ _ h; exact h) (Or.inl ⟨by rfl, ?_⟩) ?_
          rotate_left
          · intro w; go_simp; try with_reducible rfl
          try simp only [Act.put, List.setIfInBounds_toArray, List.set_cons_zero, List.set_cons_succ, Array.replicate]
          refine wpAny_done (by kernel_rfl) ?_ _
          go_wp2_with fail
          refine Open_retG _ _ (.pointer (some ⟨w9.heap.size, 0, none⟩)) (.int .i64 0) w.heap.size rfl rfl rfl rfl (rows4 (Row.alloc K9.out _) _ _ _ _) ?_
          exact OpenYes.fin p w.heap.size nx S2 has sb R w w3 w9 _ _ rfl D9.out HP.out S9.out K9.out L9.out SV9.out U9.out E4.out _ (sets4 _ _ _ _ _ _)
        exact AllReady.nil
      exact AllReady.nil
    refine AllReady.cons (by simp only [List.getElem?_toArray, List.getElem?_cons_zero, List.getElem?_cons_succ] <;> rfl) (fun K hK => ?_) ?_
    · go_simp
      refine hK _ _ ?_
      clear hK K
      try simp only [Act.put, List.setIfInBounds_toArray, List.set_cons_zero, List.set_cons_succ, Array.replicate]
      refine wpAny_ready (rs := [4]) (by kernel_rfl) (by simp) ?_
      refine AllReady.cons (by simp only [List.getElem?_toArray, List.getElem?_cons_zero, List.getElem?_cons_succ] <;> rfl) (fun K hK => ?_) ?_
      · go_simp
        refine hK _ _ ?_
        clear hK K
        try simp only [Act.put, List.setIfInBounds_toArray, List.set_cons_zero, List.set_cons_succ, Array.replicate]
        refine wpAny_take (i := 6) (v := ?_) (by simp only [List.getElem?_toArray, List.getElem?_cons_zero, List.getElem?_cons_succ] <;> rfl) (by kernel_rfl) (by kernel_rfl) (by kernel_rfl) (by intro _ _ _ h; exact h) (Or.inl ⟨by rfl, ?_⟩) ?_
        rotate_left
        · intro w; go_simp; try with_reducible rfl
        try simp only [Act.put, List.setIfInBounds_toArray, List.set_cons_zero, List.set_cons_succ, Array.replicate]
        have s0 := Row.cell (Row.alloc K9.out (.cells #[.pointer (some ⟨p, 0, none⟩), .int .u64 (nx : Int)] 71)) 0; have s1 := Row.cell (Row.alloc K9.out (.cells #[.pointer (some ⟨p, 0, none⟩), .int .u64 (nx : Int)] 71)) 1; have s2 := Row.cell (Row.alloc K9.out (.cells #[.pointer (some ⟨p, 0, none⟩), .int .u64 (nx : Int)] 71)) 2; have s3 := Row.cell (Row.alloc K9.out (.cells #[.pointer (some ⟨p, 0, none⟩), .int .u64 (nx : Int)] 71)) 3; simp only [KepC, List.getElem?_cons_succ, List.getElem?_cons_zero] at s0 s1 s2 s3; have f0 := Row.frozen (Row.alloc K9.out (.cells #[.pointer (some ⟨p, 0, none⟩), .int .u64 (nx : Int)] 71)) 0; have f1 := Row.frozen (Row.alloc K9.out (.cells #[.pointer (some ⟨p, 0, none⟩), .int .u64 (nx : Int)] 71)) 1; have f2 := Row.frozen (Row.alloc K9.out (.cells #[.pointer (some ⟨p, 0, none⟩), .int .u64 (nx : Int)] 71)) 2; have f3 := Row.frozen (Row.alloc K9.out (.cells #[.pointer (some ⟨p, 0, none⟩), .int .u64 (nx : Int)] 71)) 3
        refine wpAny_ready (rs := [7]) (by kernel_rfl) (by simp) ?_
        refine AllReady.cons (by simp only [List.getElem?_toArray, List.getElem?_cons_zero, List.getElem?_cons_succ] <;> rfl) (fun K hK => ?_) ?_
        · go_simp
          refine hK _ _ ?_
          clear hK K
          try simp only [Act.put, List.setIfInBounds_toArray, List.set_cons_zero, List.set_cons_succ, Array.replicate]
          refine wpAny_take (i := 8) (v := ?_) (by simp only [List.getElem?_toArray, List.getElem?_cons_zero, List.getElem?_cons_succ] <;> rfl) (by kernel_rfl) (by kernel_rfl) (by kernel_rfl) (by intro _ _ _ h; exact h) (Or.inl ⟨by rfl, ?_⟩) ?_
          rotate_left
          · intro w; go_simp; try with_reducible rfl
          try simp only [Act.put, List.setIfInBounds_toArray, List.set_cons_zero, List.set_cons_succ, Array.replicate]
          refine wpAny_done (by kernel_rfl) ?_ _
          go_wp2_with fail
          refine Open_retG _ _ (.pointer (some ⟨w9.heap.size, 0, none⟩)) (.int .i64 0) w.heap.size rfl rfl rfl rfl (rows4 (Row.alloc K9.out _) _ _ _ _) ?_
          exact OpenYes.fin p w.heap.size nx S2 has sb R w w3 w9 _ _ rfl D9.out HP.out S9.out K9.out L9.out SV9.out U9.out E4.out _ (sets4 _ _ _ _ _ _)
        exact AllReady.nil
      exact AllReady.nil
    exact AllReady.nil
  refine AllReady.cons (by simp only [List.getElem?_toArray, List.getElem?_cons_zero, List.getElem?_cons_succ] <;> rfl) (fun K hK => ?_) ?_
  · go_simp
    refine hK _ _ ?_
    clear hK K
    try simp only [Act.put, List.setIfInBounds_toArray, List.set_cons_zero, List.set_cons_succ, Array.replicate]
    refine wpAny_ready (rs := [2]) (by kernel_rfl) (by simp) ?_
    refine AllReady.cons (by simp only [List.getElem?_toArray, List.getElem?_cons_zero, List.getElem?_cons_succ] <;> rfl) (fun K hK => ?_) ?_
    · go_simp
      refine hK _ _ ?_
      clear hK K
      try simp only [Act.put, List.setIfInBounds_toArray, List.set_cons_zero, List.set_cons_succ, Array.replicate]
      refine wpAny_take (i := 3) (v := ?_) (by simp only [List.getElem?_toArray, List.getElem?_cons_zero, List.getElem?_cons_succ] <;> rfl) (by kernel_rfl) (by kernel_rfl) (by kernel_rfl) (by intro _ _ _ h; exact h) (Or.inl ⟨by rfl, ?_⟩) ?_
      rotate_left
      · intro w; go_simp; try with_reducible rfl
      try simp only [Act.put, List.setIfInBounds_toArray, List.set_cons_zero, List.set_cons_succ, Array.replicate]
      refine wpAny_ready (rs := [4]) (by kernel_rfl) (by simp) ?_
      refine AllReady.cons (by simp only [List.getElem?_toArray, List.getElem?_cons_zero, List.getElem?_cons_succ] <;> rfl) (fun K hK => ?_) ?_
      · go_simp
        refine hK _ _ ?_
        clear hK K
        try simp only [Act.put, List.setIfInBounds_toArray, List.set_cons_zero, List.set_cons_succ, Array.replicate]
        refine wpAny_take (i := 6) (v := ?_) (by simp only [List.getElem?_toArray, List.getElem?_cons_zero, List.getElem?_cons_succ] <;> rfl) (by kernel_rfl) (by kernel_rfl) (by kernel_rfl) (by intro _ _ _ h; exact h) (Or.inl ⟨by rfl, ?_⟩) ?_
        rotate_left
        · intro w; go_simp; try with_reducible rfl
        try simp only [Act.put, List.setIfInBounds_toArray, List.set_cons_zero, List.set_cons_succ, Array.replicate]
        have s0 := Row.cell (Row.alloc K9.out (.cells #[.pointer (some ⟨p, 0, none⟩), .int .u64 (nx : Int)] 71)) 0; have s1 := Row.cell (Row.alloc K9.out (.cells #[.pointer (some ⟨p, 0, none⟩), .int .u64 (nx : Int)] 71)) 1; have s2 := Row.cell (Row.alloc K9.out (.cells #[.pointer (some ⟨p, 0, none⟩), .int .u64 (nx : Int)] 71)) 2; have s3 := Row.cell (Row.alloc K9.out (.cells #[.pointer (some ⟨p, 0, none⟩), .int .u64 (nx : Int)] 71)) 3; simp only [KepC, List.getElem?_cons_succ, List.getElem?_cons_zero] at s0 s1 s2 s3; have f0 := Row.frozen (Row.alloc K9.out (.cells #[.pointer (some ⟨p, 0, none⟩), .int .u64 (nx : Int)] 71)) 0; have f1 := Row.frozen (Row.alloc K9.out (.cells #[.pointer (some ⟨p, 0, none⟩), .int .u64 (nx : Int)] 71)) 1; have f2 := Row.frozen (Row.alloc K9.out (.cells #[.pointer (some ⟨p, 0, none⟩), .int .u64 (nx : Int)] 71)) 2; have f3 := Row.frozen (Row.alloc K9.out (.cells #[.pointer (some ⟨p, 0, none⟩), .int .u64 (nx : Int)] 71)) 3
        refine wpAny_ready (rs := [7]) (by kernel_rfl) (by simp) ?_
        refine AllReady.cons (by simp only [List.getElem?_toArray, List.getElem?_cons_zero, List.getElem?_cons_succ] <;> rfl) (fun K hK => ?_) ?_
        · go_simp
          refine hK _ _ ?_
          clear hK K
          try simp only [Act.put, List.setIfInBounds_toArray, List.set_cons_zero, List.set_cons_succ, Array.replicate]
          refine wpAny_take (i := 8) (v := ?_) (by simp only [List.getElem?_toArray, List.getElem?_cons_zero, List.getElem?_cons_succ] <;> rfl) (by kernel_rfl) (by kernel_rfl) (by kernel_rfl) (by intro _ _ _ h; exact h) (Or.inl ⟨by rfl, ?_⟩) ?_
          rotate_left
          · intro w; go_simp; try with_reducible rfl
          try simp only [Act.put, List.setIfInBounds_toArray, List.set_cons_zero, List.set_cons_succ, Array.replicate]
          refine wpAny_done (by kernel_rfl) ?_ _
          go_wp2_with fail
          refine Open_retG _ _ (.pointer (some ⟨w9.heap.size, 0, none⟩)) (.int .i64 0) w.heap.size rfl rfl rfl rfl (rows4 (Row.alloc K9.out _) _ _ _ _) ?_
          exact OpenYes.fin p w.heap.size nx S2 has sb R w w3 w9 _ _ rfl D9.out HP.out S9.out K9.out L9.out SV9.out U9.out E4.out _ (sets4 _ _ _ _ _ _)
        exact AllReady.nil
      exact AllReady.nil
    exact AllReady.nil
  exact AllReady.nil
end Go.Proofs.Ytkghkpkiodghiaa
namespace Go.Proofs.Ytkghkpkiodghiaa
set_option linter.unusedVariables false
set_option linter.unusedSimpArgs false
set_option linter.unnecessarySimpa false
open Go.RowKit
set_option maxRecDepth 100000
set_option maxHeartbeats 4000000

theorem sync_bd (S : PD) (n : Int) : (S.sync n).1.lim = S.lim ∧ (S.sync n).1.left ≤ S.left ∧ (S.sync n).1.n0 = S.n0 ∧ (S.sync n).1.n1 = S.n1 := by
  have hl := leftC_le S.left
  unfold PD.sync
  by_cases h1 : S.dead = true ∨ S.left = 0
  · rw [if_pos h1]; exact ⟨rfl, Int.le_refl _, rfl, rfl⟩
  · rw [if_neg h1]
    by_cases h2 : n < 0 ∨ 1 < n
    · rw [if_pos h2]; exact ⟨rfl, hl, rfl, rfl⟩
    · rw [if_neg h2]
      by_cases h4 : n = 0
      · rw [if_pos h4]; exact ⟨rfl, hl, rfl, rfl⟩
      · rw [if_neg h4]; exact ⟨rfl, hl, rfl, rfl⟩
/-- A snapshot is put in the place of all: the disk, the error. -/
def PD.wsnap (S : PD) (n : Nat) (b : List UInt8) : PD × Nat :=
  if (S.replace 1 (frameB (enc n ++ b))).2 ≠ 0 then S.replace 1 (frameB (enc n ++ b))
  else if ((S.replace 1 (frameB (enc n ++ b))).1.sync 1).2 ≠ 0 then (S.replace 1 (frameB (enc n ++ b))).1.sync 1
  else if (((S.replace 1 (frameB (enc n ++ b))).1.sync 1).1.replace 0 []).2 ≠ 0 then ((S.replace 1 (frameB (enc n ++ b))).1.sync 1).1.replace 0 []
  else (((S.replace 1 (frameB (enc n ++ b))).1.sync 1).1.replace 0 []).1.sync 0
theorem frame_len (n : Nat) (b : List UInt8) (hn : n < 4611686018427387904) (hl : b.length ≤ 1000000) : (frameB (enc n ++ b)).length ≤ b.length + 30 := by
  have hel := enc_length n hn
  have hns := nsize_le n
  have hfl := frameB_length (enc n ++ b) (by rw [List.length_append]; omega)
  have hns2 := nsize_le (enc n ++ b).length
  rw [hfl, List.length_append]
  rw [List.length_append] at hns2
  omega
theorem Snap_any (q p n : Nat) (vb : Value) (b : List UInt8) (S : PD) (w : World) (hq : WalR w q p n) (hS : Dsk w p S) (hb : Sh w vb b) (hn : n < 4611686018427387903) (hl : b.length ≤ 1000000) (hpq : p ≠ q) (hm : S.left ≤ 9223372036854775807) (ht : S.n0.length + S.n1.length ≤ 10000000000) (hlim : -1000000000000 ≤ S.lim ∧ S.lim ≤ 1000000000000) :
    Calls Try.prog 19 #[.pointer (some ⟨q, 0, none⟩), vb] w fun e w' => e = .returned (.int .i64 ((S.wsnap n b).2 : Int)) ∧ Dsk w' p (S.wsnap n b).1 ∧ Upd p w w' := by
  have hfb := frame_len n b (by omega) hl
  unfold PD.wsnap
  have d1 := replace_bd S 1 (frameB (enc n ++ b))
  rcases h1 : S.replace 1 (frameB (enc n ++ b)) with ⟨S1, e1⟩
  rw [h1] at d1
  have d2 := sync_bd S1 1
  rcases h2 : S1.sync 1 with ⟨S2, e2⟩
  rw [h2] at d2
  have d3 := replace_bd S2 0 []
  rcases h3 : S2.replace 0 [] with ⟨S3, e3⟩
  rw [h3] at d3
  rcases h4 : S3.sync 0 with ⟨S4, e4⟩
  dsimp only at d1 d2 d3 ⊢

  obtain ⟨b11, b12, b13⟩ := d1
  obtain ⟨b21, b22, b23, b24⟩ := d2
  obtain ⟨b31, b32, b33⟩ := d3
  simp only [List.length_nil, Nat.add_zero] at b33
  rw [b23, b24] at b33
  have M1 := Lib.hid (show S1.left ≤ 9223372036854775807 by omega)
  have M2 := Lib.hid (show S2.left ≤ 9223372036854775807 by omega)
  have M3 := Lib.hid (show S3.left ≤ 9223372036854775807 by omega)
  have T0 := Lib.hid (show S.n0.length + S.n1.length ≤ 100000000000 by omega)
  have T1 := Lib.hid (show S1.n0.length + S1.n1.length ≤ 100000000000 by omega)
  have T2 := Lib.hid (show S2.n0.length + S2.n1.length ≤ 100000000000 by rw [b23, b24]; omega)
  have T3 := Lib.hid (show S3.n0.length + S3.n1.length ≤ 100000000000 by omega)
  have Q0 := Lib.hid hlim
  have Q1 := Lib.hid (show -1000000000000 ≤ S1.lim ∧ S1.lim ≤ 1000000000000 by rw [b11]; exact hlim)
  have Q2 := Lib.hid (show -1000000000000 ≤ S2.lim ∧ S2.lim ≤ 1000000000000 by rw [b21, b11]; exact hlim)
  have Q3 := Lib.hid (show -1000000000000 ≤ S3.lim ∧ S3.lim ≤ 1000000000000 by rw [b31, b21, b11]; exact hlim)
  have M0 := Lib.hid hm
  have FB := Lib.hid (show (frameB (enc n ++ b)).length ≤ 140737488355328 by omega)
  have HQ := Lib.hid hq
  have HS := Lib.hid hS
  have HB := Lib.hid hb
  have H1 := Lib.hid h1
  have H2 := Lib.hid h2
  have H3 := Lib.hid h3
  have H4 := Lib.hid h4
  have HPQ := Lib.hid hpq
  clear hq hS hb h1 h2 h3 h4 b11 b12 b13 b21 b22 b23 b24 b31 b32 b33 hm ht hlim hpq hfb
  have h0 := Row.cell HQ.out 0
  simp only [List.getElem?_cons_succ, List.getElem?_cons_zero] at h0
  by_cases he1 : e1 = 0
  · subst he1
    rw [if_neg (by simp)]
    by_cases he2 : e2 = 0
    · subst he2
      rw [if_neg (by simp)]
      by_cases he3 : e3 = 0
      · subst he3
        rw [if_neg (by simp)]
        go_enter Try.func19, Try.ntmps19
        go_wp2_with (first
          | (go_at_call 26; refine (Sync_of p 0 S3 S4 e4 H4.out _ D6.out M3.out T3.out Q3.out).mono ?_; rintro e w7 ⟨rfl, hd, hu⟩; have R7 := Lib.hid (show WalR w7 q p n from hu.row R6.out HPQ.out.symm); have h07 := Row.cell R7.out 0; simp only [List.getElem?_cons_succ, List.getElem?_cons_zero] at h07; have D7 := Lib.hid hd; have U7 := Lib.hid (U6.out.trans hu); clear hd hu)
          | (go_at_call 25; refine (Replace_of p 0 _ [] S2 S3 0 H3.out _ D5.out (fun w' hu => Sh.nil _) M2.out T2.out (by simp) Q2.out).mono ?_; rintro e w6 ⟨rfl, hd, hu⟩; have R6 := Lib.hid (show WalR w6 q p n from hu.row R5.out HPQ.out.symm); have h06 := Row.cell R6.out 0; simp only [List.getElem?_cons_succ, List.getElem?_cons_zero] at h06; have D6 := Lib.hid hd; have U6 := Lib.hid (U5.out.trans hu); clear hd hu)
          | (go_at_call 26; refine (Sync_of p 1 S1 S2 0 H2.out _ D4.out M1.out T1.out Q1.out).mono ?_; rintro e w5 ⟨rfl, hd, hu⟩; have R5 := Lib.hid (show WalR w5 q p n from hu.row R4.out HPQ.out.symm); have h05 := Row.cell R5.out 0; simp only [List.getElem?_cons_succ, List.getElem?_cons_zero] at h05; have D5 := Lib.hid hd; have U5 := Lib.hid (U4.out.trans hu); clear hd hu)
          | (go_at_call 25; refine (Replace_of p 1 _ (frameB (enc n ++ b)) S S1 0 H1.out _ D3.out (fun w' hu => (hu.own O3.out D3.out.rowC.choose_spec (by decide)).sh) M0.out T0.out FB.out Q0.out).mono ?_; rintro e w4 ⟨rfl, hd, hu⟩; have R4 := Lib.hid (show WalR w4 q p n from hu.row R3.out HPQ.out.symm); have h04 := Row.cell R4.out 0; simp only [List.getElem?_cons_succ, List.getElem?_cons_zero] at h04; have D4 := Lib.hid hd; have U4 := Lib.hid (U3.out.trans hu); clear hd hu)
          | (go_at_call 27; refine (framed_any q p n _ b _ HQ.out HB.out (by omega) hl).mono ?_; rintro e w3 ⟨v3, rfl, ho3, hb3⟩; have R3 := Lib.hid (show WalR w3 q p n from HQ.out.keep hb3); have h03 := Row.cell R3.out 0; simp only [List.getElem?_cons_succ, List.getElem?_cons_zero] at h03; have O3 := Lib.hid ho3; have U3 := Lib.hid (Upd.of_below (p := p) hb3); have D3 := Lib.hid (HS.out.keepB hb3); clear ho3 hb3))
        go_ret
        exact ⟨rfl, D7.out, U7.out⟩
      · have he3I : ¬ (e3 : Int) = 0 := by omega
        rw [if_pos (by simpa using he3)]
        clear he3
        go_enter Try.func19, Try.ntmps19
        go_wp2_with (first
          | (go_at_call 25; refine (Replace_of p 0 _ [] S2 S3 e3 H3.out _ D5.out (fun w' hu => Sh.nil _) M2.out T2.out (by simp) Q2.out).mono ?_; rintro e w6 ⟨rfl, hd, hu⟩; have R6 := Lib.hid (show WalR w6 q p n from hu.row R5.out HPQ.out.symm); have h06 := Row.cell R6.out 0; simp only [List.getElem?_cons_succ, List.getElem?_cons_zero] at h06; have D6 := Lib.hid hd; have U6 := Lib.hid (U5.out.trans hu); clear hd hu)
          | (go_at_call 26; refine (Sync_of p 1 S1 S2 0 H2.out _ D4.out M1.out T1.out Q1.out).mono ?_; rintro e w5 ⟨rfl, hd, hu⟩; have R5 := Lib.hid (show WalR w5 q p n from hu.row R4.out HPQ.out.symm); have h05 := Row.cell R5.out 0; simp only [List.getElem?_cons_succ, List.getElem?_cons_zero] at h05; have D5 := Lib.hid hd; have U5 := Lib.hid (U4.out.trans hu); clear hd hu)
          | (go_at_call 25; refine (Replace_of p 1 _ (frameB (enc n ++ b)) S S1 0 H1.out _ D3.out (fun w' hu => (hu.own O3.out D3.out.rowC.choose_spec (by decide)).sh) M0.out T0.out FB.out Q0.out).mono ?_; rintro e w4 ⟨rfl, hd, hu⟩; have R4 := Lib.hid (show WalR w4 q p n from hu.row R3.out HPQ.out.symm); have h04 := Row.cell R4.out 0; simp only [List.getElem?_cons_succ, List.getElem?_cons_zero] at h04; have D4 := Lib.hid hd; have U4 := Lib.hid (U3.out.trans hu); clear hd hu)
          | (go_at_call 27; refine (framed_any q p n _ b _ HQ.out HB.out (by omega) hl).mono ?_; rintro e w3 ⟨v3, rfl, ho3, hb3⟩; have R3 := Lib.hid (show WalR w3 q p n from HQ.out.keep hb3); have h03 := Row.cell R3.out 0; simp only [List.getElem?_cons_succ, List.getElem?_cons_zero] at h03; have O3 := Lib.hid ho3; have U3 := Lib.hid (Upd.of_below (p := p) hb3); have D3 := Lib.hid (HS.out.keepB hb3); clear ho3 hb3))
        go_ret
        exact ⟨rfl, D6.out, U6.out⟩
    · have he2I : ¬ (e2 : Int) = 0 := by omega
      rw [if_pos (by simpa using he2)]
      clear he2
      go_enter Try.func19, Try.ntmps19
      go_wp2_with (first
        | (go_at_call 26; refine (Sync_of p 1 S1 S2 e2 H2.out _ D4.out M1.out T1.out Q1.out).mono ?_; rintro e w5 ⟨rfl, hd, hu⟩; have R5 := Lib.hid (show WalR w5 q p n from hu.row R4.out HPQ.out.symm); have h05 := Row.cell R5.out 0; simp only [List.getElem?_cons_succ, List.getElem?_cons_zero] at h05; have D5 := Lib.hid hd; have U5 := Lib.hid (U4.out.trans hu); clear hd hu)
        | (go_at_call 25; refine (Replace_of p 1 _ (frameB (enc n ++ b)) S S1 0 H1.out _ D3.out (fun w' hu => (hu.own O3.out D3.out.rowC.choose_spec (by decide)).sh) M0.out T0.out FB.out Q0.out).mono ?_; rintro e w4 ⟨rfl, hd, hu⟩; have R4 := Lib.hid (show WalR w4 q p n from hu.row R3.out HPQ.out.symm); have h04 := Row.cell R4.out 0; simp only [List.getElem?_cons_succ, List.getElem?_cons_zero] at h04; have D4 := Lib.hid hd; have U4 := Lib.hid (U3.out.trans hu); clear hd hu)
        | (go_at_call 27; refine (framed_any q p n _ b _ HQ.out HB.out (by omega) hl).mono ?_; rintro e w3 ⟨v3, rfl, ho3, hb3⟩; have R3 := Lib.hid (show WalR w3 q p n from HQ.out.keep hb3); have h03 := Row.cell R3.out 0; simp only [List.getElem?_cons_succ, List.getElem?_cons_zero] at h03; have O3 := Lib.hid ho3; have U3 := Lib.hid (Upd.of_below (p := p) hb3); have D3 := Lib.hid (HS.out.keepB hb3); clear ho3 hb3))
      go_ret
      exact ⟨rfl, D5.out, U5.out⟩
  · have he1I : ¬ (e1 : Int) = 0 := by omega
    rw [if_pos (by simpa using he1)]
    clear he1
    go_enter Try.func19, Try.ntmps19
    go_wp2_with (first
      | (go_at_call 25; refine (Replace_of p 1 _ (frameB (enc n ++ b)) S S1 e1 H1.out _ D3.out (fun w' hu => (hu.own O3.out D3.out.rowC.choose_spec (by decide)).sh) M0.out T0.out FB.out Q0.out).mono ?_; rintro e w4 ⟨rfl, hd, hu⟩; have R4 := Lib.hid (show WalR w4 q p n from hu.row R3.out HPQ.out.symm); have h04 := Row.cell R4.out 0; simp only [List.getElem?_cons_succ, List.getElem?_cons_zero] at h04; have D4 := Lib.hid hd; have U4 := Lib.hid (U3.out.trans hu); clear hd hu)
      | (go_at_call 27; refine (framed_any q p n _ b _ HQ.out HB.out (by omega) hl).mono ?_; rintro e w3 ⟨v3, rfl, ho3, hb3⟩; have R3 := Lib.hid (show WalR w3 q p n from HQ.out.keep hb3); have h03 := Row.cell R3.out 0; simp only [List.getElem?_cons_succ, List.getElem?_cons_zero] at h03; have O3 := Lib.hid ho3; have U3 := Lib.hid (Upd.of_below (p := p) hb3); have D3 := Lib.hid (HS.out.keepB hb3); clear ho3 hb3))
    go_ret
    exact ⟨rfl, D4.out, U4.out⟩
end Go.Proofs.Ytkghkpkiodghiaa
namespace Go.Proofs.Ytkghkpkiodghiaa
set_option linter.unusedVariables false
set_option linter.unusedSimpArgs false
set_option linter.unnecessarySimpa false
set_option maxHeartbeats 4000000

/-- What lies on a disk: a snapshot with its number, records of which the first ones are older, and what is no frame. -/
structure LogM (S : PD) (has : Bool) (sn : List UInt8) (s : Nat) (old L : List (List UInt8)) (junk : List UInt8) (B : Nat) : Prop where
  n1 : (has = false ∧ sn = [] ∧ S.n1 = [] ∧ s + old.length = 0) ∨ (has = true ∧ S.n1 = frameB (enc (s + old.length) ++ sn))
  n0 : S.n0 = frames (bods s (old ++ L)) ++ junk
  jk : Junk junk
  ro : ∀ r ∈ old ++ L, r.length ≤ 3000
  sl : sn.length ≤ 3000
  cnt : s + old.length + L.length ≤ 1000
  size : (frames (bods s (old ++ L))).length + S.n1.length ≤ B
theorem LogM.snf {S : PD} {has : Bool} {sn : List UInt8} {s : Nat} {old L : List (List UInt8)} {junk : List UInt8} {B : Nat} (h : LogM S has sn s old L junk B) : snF S.n1 = (has, sn, s + old.length, 0) := by
  have hsl := h.sl
  have hc := h.cnt
  rcases h.n1 with ⟨rfl, rfl, h1, h2⟩ | ⟨rfl, h1⟩
  · rw [h1, h2]; rfl
  · have hb : (enc (s + old.length) ++ sn).length ≤ 1048576 := by
      have := enc_length (s + old.length) (by omega)
      have := nsize_le (s + old.length)
      rw [List.length_append]; omega
    have hf : S.n1 = frames [enc (s + old.length) ++ sn] := by rw [h1]; simp [frames]
    have hs := scF_all [enc (s + old.length) ++ sn] (fun d hd => by simp only [List.mem_singleton] at hd; rw [hd]; exact hb)
    rw [← hf] at hs
    obtain ⟨t1, t2⟩ := body_take (s + old.length) sn (by omega)
    have hl0 : S.n1.length ≠ 0 := by
      have := frameB_length _ hb
      rw [h1, this]; omega
    rw [snF_ok hl0 (by rw [hs]; simp [t1]), hs]
    simp [t1, t2]
theorem LogM.scan {S : PD} {has : Bool} {sn : List UInt8} {s : Nat} {old L : List (List UInt8)} {junk : List UInt8} {B : Nat} (h : LogM S has sn s old L junk B) :
    ∃ e, scF (S.n0.length + 1) S.n0 = (bods s (old ++ L), (frames (bods s (old ++ L))).length, e) := by
  rw [h.n0]
  exact scan_junk (old ++ L) s junk (fun r hr => by have := h.ro r hr; omega) (by have := h.cnt; rw [List.length_append]; omega) h.jk
theorem LogM.recs {S : PD} {has : Bool} {sn : List UInt8} {s : Nat} {old L : List (List UInt8)} {junk : List UInt8} {B : Nat} (h : LogM S has sn s old L junk B) :
    recF (s + old.length) (bods s (old ++ L)) 0 [] (s + old.length) = ((frames (bods s (old ++ L))).length, L, s + old.length + L.length) := by
  have := recF_skip (s + old.length) L old s 0 rfl (by have := h.cnt; omega)
  rw [this, Nat.zero_add]
theorem LogM.snoc {S S' : PD} {has : Bool} {sn : List UInt8} {s : Nat} {old L : List (List UInt8)} {junk junk' : List UInt8} {B B' : Nat} (h : LogM S has sn s old L junk B) (b : List UInt8) (hb : b.length ≤ 3000) (hc : s + old.length + L.length < 1000)
    (h1 : S'.n1 = S.n1) (h0 : S'.n0 = frames (bods s (old ++ L)) ++ frameB (enc (s + old.length + L.length) ++ b) ++ junk') (hj : Junk junk') (hB : B + 3030 ≤ B') : LogM S' has sn s old (L ++ [b]) junk' B' := by
  have e : frames (bods s (old ++ (L ++ [b]))) = frames (bods s (old ++ L)) ++ frameB (enc (s + old.length + L.length) ++ b) := by
    rw [← List.append_assoc, bods_snoc, frames_app, List.length_append, ← Nat.add_assoc]
    simp [frames]
  refine ⟨by rw [h1]; exact h.n1, by rw [e]; exact h0, hj, fun r hr => ?_, h.sl, by simp; omega, ?_⟩
  · rw [← List.append_assoc] at hr
    rcases List.mem_append.1 hr with h2 | h2
    · exact h.ro r h2
    · simp only [List.mem_singleton] at h2; rw [h2]; exact hb
  · have := frame_len (s + old.length + L.length) b (by omega) (by omega)
    have := h.size
    rw [e, h1, List.length_append]; omega
/-- The same bytes. -/
theorem LogM.same {S S' : PD} {has : Bool} {sn : List UInt8} {s : Nat} {old L : List (List UInt8)} {junk junk' : List UInt8} {B B' : Nat} (h : LogM S has sn s old L junk B) (h1 : S'.n1 = S.n1) (h0 : S'.n0 = frames (bods s (old ++ L)) ++ junk') (hj : Junk junk') (hB : B ≤ B') : LogM S' has sn s old L junk' B' :=
  ⟨by rw [h1]; exact h.n1, h0, hj, h.ro, h.sl, h.cnt, by rw [h1]; exact Nat.le_trans h.size hB⟩
/-- A new snapshot, with the old log. -/
theorem LogM.snap {S S' : PD} {has : Bool} {sn : List UInt8} {s : Nat} {old L : List (List UInt8)} {B B' : Nat} (h : LogM S has sn s old L [] B) (b : List UInt8) (hb : b.length ≤ 3000) (h1 : S'.n1 = frameB (enc (s + old.length + L.length) ++ b)) (h0 : S'.n0 = S.n0) (hB : B + 3030 ≤ B') :
    LogM S' true b s (old ++ L) [] [] B' := by
  have hN : s + (old ++ L).length = s + old.length + L.length := by rw [List.length_append]; omega
  have hc := h.cnt
  refine ⟨.inr ⟨rfl, by rw [h1, hN]⟩, by rw [h0, h.n0]; simp, .inl rfl, fun r hr => h.ro r (by simpa using hr), hb, by rw [hN]; simp only [List.length_nil]; omega, ?_⟩
  have := frame_len (s + old.length + L.length) b (by omega) (by omega)
  have := h.size
  rw [List.append_nil, h1]; omega
/-- A new snapshot, with no log. -/
theorem LogM.snap0 {S S' : PD} {has : Bool} {sn : List UInt8} {s : Nat} {old L : List (List UInt8)} {B B' : Nat} (h : LogM S has sn s old L [] B) (b : List UInt8) (hb : b.length ≤ 3000) (h1 : S'.n1 = frameB (enc (s + old.length + L.length) ++ b)) (h0 : S'.n0 = []) (hB : B + 3030 ≤ B') :
    LogM S' true b (s + old.length + L.length) [] [] [] B' := by
  have hc := h.cnt
  refine ⟨.inr ⟨rfl, by rw [h1]; rfl⟩, by rw [h0]; rfl, .inl rfl, fun r hr => by simp at hr, hb, by simp; omega, ?_⟩
  have := frame_len (s + old.length + L.length) b (by omega) (by omega)
  rw [h1]
  show (frames (bods _ ([] ++ []))).length + _ ≤ _
  simp only [List.append_nil, bods, frames, List.flatMap_nil, List.length_nil]
  omega
/-- Alive, with all standing fast. -/
structure Alive (S : PD) : Prop where
  dead : S.dead = false
  left : 0 ≤ S.left
  top : S.left ≤ 9223372036854775807
  lim : S.lim = 1048576
  f0 : S.f0 = S.n0
  r0 : S.r0 = false
  f1 : S.f1 = S.n1
  r1 : S.r1 = false
/-- What stands behind, safely. -/
def SafeT (keep : Int) (tail : List UInt8) : Prop := (keep ≤ 0 → tail = [] ∨ ∃ r, tail = 255 :: r) ∧ (0 < keep → tail.length ≤ 3)
theorem SafeT.junk0 {keep : Int} {tail : List UInt8} (h : SafeT keep tail) (hk : keep ≤ 0) : Junk tail := by
  rcases h.1 hk with rfl | ⟨r, rfl⟩
  · exact .inl rfl
  · exact .inr ⟨by simp, tkF_255 _ _ (by decide)⟩
theorem junk_short {t : List UInt8} (h : t.length ≤ 3) : Junk t := by
  by_cases h0 : t = []
  · exact .inl h0
  · exact .inr ⟨h0, tkF_short t (by omega)⟩
/-- What is there behind a crash: one model or another. -/
def Recov (S : PD) (has : Bool) (sn : List UInt8) (L : List (List UInt8)) (has' : Bool) (sn' : List UInt8) (L' : List (List UInt8)) (B : Nat) : Prop :=
  ∀ keep tail, SafeT keep tail → (∃ s old junk, LogM (S.crash keep tail) has sn s old L junk B ∧ junk.length ≤ tail.length + 4000 ∧ s + old.length + L.length ≤ 500) ∨ (∃ s old junk, LogM (S.crash keep tail) has' sn' s old L' junk B ∧ junk.length ≤ tail.length + 4000 ∧ s + old.length + L'.length ≤ 500)
theorem crashF_same (n : List UInt8) (keep : Int) (tail : List UInt8) : crashF n n false keep tail = n := by
  unfold crashF; rw [if_neg (by simp), if_neg (by simp)]
theorem crashF_new (f n : List UInt8) (keep : Int) (tail : List UInt8) : crashF f n true keep tail = if keep ≤ 0 then f else n := by
  unfold crashF
  by_cases h : keep ≤ 0
  · rw [if_pos ⟨rfl, h⟩, if_pos h]
  · rw [if_neg (fun x => h x.2), if_neg (by simp), if_neg h]
theorem crashF_more (f F : List UInt8) (hF : 0 < F.length) (keep : Int) (tail : List UInt8) : crashF f (f ++ F) false keep tail = f ++ F.take (min keep.toNat F.length) ++ tail := by
  unfold crashF
  rw [if_neg (by simp), if_pos ⟨rfl, by rw [List.length_append]; omega⟩]
  have e : (f ++ F).length - f.length = F.length := by rw [List.length_append]; omega
  rw [e, List.take_append, List.take_of_length_le (by omega), Nat.add_sub_cancel_left]
theorem Alive.still {S : PD} (h : Alive S) (keep : Int) (tail : List UInt8) : (S.crash keep tail).n0 = S.n0 ∧ (S.crash keep tail).n1 = S.n1 := by
  constructor
  · show crashF S.f0 S.n0 S.r0 keep tail = S.n0
    rw [h.f0, h.r0]; exact crashF_same _ _ _
  · show crashF S.f1 S.n1 S.r1 keep tail = S.n1
    rw [h.f1, h.r1]; exact crashF_same _ _ _
theorem Alive.recov {S : PD} {has : Bool} {sn : List UInt8} {s : Nat} {old L : List (List UInt8)} {B B' : Nat} (h : Alive S) (hm : LogM S has sn s old L [] B) (hB : B ≤ B') (hc : s + old.length + L.length ≤ 500) (has' : Bool) (sn' : List UInt8) (L' : List (List UInt8)) : Recov S has sn L has' sn' L' B' := by
  intro keep tail hs
  obtain ⟨e0, e1⟩ := h.still keep tail
  exact .inl ⟨s, old, [], hm.same e1 (by rw [e0]; exact hm.n0) (.inl rfl) hB, by simp, hc⟩
theorem write_gone (S : PD) (n : Int) (b : List UInt8) (h2 : S.left = 0) : S.write n b = (S.kill, 140) := by
  unfold PD.write; rw [if_pos (.inr h2)]
theorem replace_gone (S : PD) (n : Int) (b : List UInt8) (h2 : S.left = 0) : S.replace n b = (S.kill, 140) := by
  unfold PD.replace; rw [if_pos (.inr h2)]
theorem sync_gone (S : PD) (n : Int) (h2 : S.left = 0) : S.sync n = (S.kill, 140) := by
  unfold PD.sync; rw [if_pos (.inr h2)]
theorem leftC_top {x : Int} (h : x ≤ 9223372036854775807) : leftC x ≤ 9223372036854775807 := Int.le_trans (leftC_le x) h
theorem leftC_pos {x : Int} (h : 0 ≤ x) : 0 ≤ leftC x := by unfold leftC; split <;> omega
/-- A record is put behind as the power may go. -/
theorem wapp_step (S : PD) (has : Bool) (sn : List UInt8) (s : Nat) (old L : List (List UInt8)) (B : Nat) (b : List UInt8) (ha : Alive S) (hm : LogM S has sn s old L [] B) (hb : b.length ≤ 3000) (hc : s + old.length + L.length < 500) (hB : B ≤ 1000000) :
    ∃ S' n' e, S.wapp (s + old.length + L.length) b = (S', n', e) ∧ ((e = 0 ∧ n' = s + old.length + L.length + 1 ∧ Alive S' ∧ LogM S' has sn s old (L ++ [b]) [] (B + 3030)) ∨ (e = 140 ∧ n' = s + old.length + L.length ∧ S'.dead = true ∧ S'.lim = 1048576 ∧ S'.f0.length + S'.n0.length + S'.f1.length + S'.n1.length ≤ 10000000 ∧ Recov S' has sn L has sn (L ++ [b]) (B + 3030))) := by
  have hfl := frame_len (s + old.length + L.length) b (by omega) (by omega)
  have hm0 := hm.n0
  have hsz := hm.size
  obtain ⟨f0, n0, r0, f1, n1, r1, lim, left, dead⟩ := S
  obtain ⟨a1, a2, at2, a3, a4, a5, a6, a7⟩ := ha
  simp only at a1 a2 at2 a3 a4 a5 a6 a7 hm0 hsz
  subst a1 a3 a4 a5 a6 a7
  rw [List.append_nil] at hm0
  by_cases hl : left = 0
  · subst hl
    refine ⟨_, _, _, by unfold PD.wapp; rw [write_gone _ _ _ rfl]; rfl, Or.inr ⟨rfl, rfl, rfl, rfl, (show f0.length + f0.length + f1.length + f1.length ≤ 10000000 by rw [hm0]; omega), ?_⟩⟩
    exact Alive.recov (S := ⟨f0, f0, false, f1, f1, false, 1048576, 0, false⟩) ⟨rfl, a2, at2, rfl, rfl, rfl, rfl, rfl⟩ hm (by omega) (by omega) has sn (L ++ [b])
  · have hw := write_ok ⟨f0, f0, false, f1, f1, false, 1048576, left, false⟩ 0 (frameB (enc (s + old.length + L.length) ++ b)) rfl hl (.inl rfl) (by
      show ¬ (1048576 : Int) - ((f0.length + f1.length : Nat) : Int) < _
      rw [hm0]; omega)
    rw [if_pos rfl] at hw
    by_cases hl2 : leftC left = 0
    · refine ⟨_, _, _, by unfold PD.wapp; rw [hw]; dsimp only; rw [sync_gone _ _ hl2]; rfl, Or.inr ⟨rfl, rfl, rfl, rfl, (show f0.length + (f0 ++ (frameB (enc (s + old.length + L.length) ++ b))).length + f1.length + f1.length ≤ 10000000 by rw [List.length_append, hm0]; omega), ?_⟩⟩
      intro keep tail hs
      have hF : 0 < (frameB (enc (s + old.length + L.length) ++ b)).length := by
        have := enc_length (s + old.length + L.length) (by omega)
        have := nsize_le (s + old.length + L.length)
        rw [frameB_length _ (by rw [List.length_append]; omega)]; omega
      have hbl : (enc (s + old.length + L.length) ++ b).length ≤ 1048576 := by
        have := enc_length (s + old.length + L.length) (by omega)
        have := nsize_le (s + old.length + L.length)
        rw [List.length_append]; omega
      have e1 : crashF f1 f1 false keep tail = f1 := crashF_same _ _ _
      have e0 := crashF_more f0 _ hF keep tail
      by_cases hk : keep ≤ 0
      · have hz : keep.toNat = 0 := by omega
        rw [hz, Nat.zero_min, List.take_zero, List.append_nil] at e0
        exact .inl ⟨s, old, tail, hm.same e1 (e0.trans (by rw [hm0])) (hs.junk0 hk) (by omega), by omega, (by first | omega | (simp only [List.length_append, List.length_cons, List.length_nil]; omega))⟩
      · have ht := hs.2 (by omega)
        by_cases hkl : keep.toNat < (frameB (enc (s + old.length + L.length) ++ b)).length
        · rw [Nat.min_eq_left (by omega)] at e0
          rcases junk_part (enc (s + old.length + L.length) ++ b) hbl keep.toNat (by omega) hkl tail ht with h | ⟨r, hr, hrl⟩
          · refine .inl ⟨s, old, (frameB (enc (s + old.length + L.length) ++ b)).take keep.toNat ++ tail, hm.same e1 (e0.trans (by rw [hm0, List.append_assoc])) (.inr ⟨?_, h⟩) (by omega), by rw [List.length_append, List.length_take]; omega, (by first | omega | (simp only [List.length_append, List.length_cons, List.length_nil]; omega))⟩
            intro hc0
            have := congrArg List.length hc0
            rw [List.length_append, List.length_take, List.length_nil] at this
            omega
          · exact .inr ⟨s, old, r, hm.snoc b hb (by omega) e1 (e0.trans (by rw [List.append_assoc, hr, hm0, List.append_assoc])) (junk_short (by omega)) (by omega), by omega, (by first | omega | (simp only [List.length_append, List.length_cons, List.length_nil]; omega))⟩
        · rw [Nat.min_eq_right (by omega), List.take_length] at e0
          exact .inr ⟨s, old, tail, hm.snoc b hb (by omega) e1 (e0.trans (by rw [hm0])) (junk_short ht) (by omega), by omega, (by first | omega | (simp only [List.length_append, List.length_cons, List.length_nil]; omega))⟩
    · have hs := sync_ok ({ (PD.mk f0 f0 false f1 f1 false 1048576 left false).tick with n0 := f0 ++ frameB (enc (s + old.length + L.length) ++ b) }) 0 rfl hl2 (.inl rfl)
      rw [if_pos rfl] at hs
      refine ⟨_, _, _, by unfold PD.wapp; rw [hw]; dsimp only; rw [hs]; rfl, Or.inl ⟨rfl, rfl, ⟨rfl, leftC_pos (leftC_pos a2), leftC_top (leftC_top at2), rfl, rfl, rfl, rfl, rfl⟩, ?_⟩⟩
      exact hm.snoc b hb (by omega) rfl (by rw [List.append_nil]; show f0 ++ _ = _; rw [hm0]) (.inl rfl) (by omega)
/-- A snapshot is put in the place of all as the power may go. -/
theorem wsnap_step (S : PD) (has : Bool) (sn : List UInt8) (s : Nat) (old L : List (List UInt8)) (B : Nat) (b : List UInt8) (ha : Alive S) (hm : LogM S has sn s old L [] B) (hb : b.length ≤ 3000) (hc : s + old.length + L.length < 500) (hB : B ≤ 1000000) :
    ∃ S' e, S.wsnap (s + old.length + L.length) b = (S', e) ∧ ((e = 0 ∧ Alive S' ∧ LogM S' true b (s + old.length + L.length) [] [] [] (B + 3030)) ∨ (e = 140 ∧ S'.dead = true ∧ S'.lim = 1048576 ∧ S'.f0.length + S'.n0.length + S'.f1.length + S'.n1.length ≤ 10000000 ∧ Recov S' has sn L true b [] (B + 3030))) := by
  have hfl := frame_len (s + old.length + L.length) b (by omega) (by omega)
  have hm0 := hm.n0
  have hsz := hm.size
  obtain ⟨f0, n0, r0, f1, n1, r1, lim, left, dead⟩ := S
  obtain ⟨a1, a2, at2, a3, a4, a5, a6, a7⟩ := ha
  simp only at a1 a2 at2 a3 a4 a5 a6 a7 hm0 hsz
  subst a1 a3 a4 a5 a6 a7
  rw [List.append_nil] at hm0
  by_cases hl : left = 0
  · subst hl
    refine ⟨_, _, by unfold PD.wsnap; rw [replace_gone _ _ _ rfl]; rfl, Or.inr ⟨rfl, rfl, rfl, (show f0.length + f0.length + f1.length + f1.length ≤ 10000000 by rw [hm0]; omega), ?_⟩⟩
    exact Alive.recov (S := ⟨f0, f0, false, f1, f1, false, 1048576, 0, false⟩) ⟨rfl, a2, at2, rfl, rfl, rfl, rfl, rfl⟩ hm (by omega) (by omega) true b []
  · have hw := replace_ok ⟨f0, f0, false, f1, f1, false, 1048576, left, false⟩ 1 (frameB (enc (s + old.length + L.length) ++ b)) rfl hl (.inr rfl) (by
      show ¬ (1048576 : Int) - (((f0.length + f1.length : Nat) : Int) - ((if (1 : Int) = 0 then f0 else f1).length : Int)) < _
      rw [if_neg (by decide), hm0]; omega)
    rw [if_neg (by decide)] at hw
    by_cases hl2 : leftC left = 0
    · refine ⟨_, _, by unfold PD.wsnap; rw [hw]; dsimp only; rw [sync_gone _ _ hl2]; rfl, Or.inr ⟨rfl, rfl, rfl, (show f0.length + f0.length + f1.length + (frameB (enc (s + old.length + L.length) ++ b)).length ≤ 10000000 by rw [hm0]; omega), ?_⟩⟩
      intro keep tail hs
      have e0 : crashF f0 f0 false keep tail = f0 := crashF_same _ _ _
      have e1 := crashF_new f1 (frameB (enc (s + old.length + L.length) ++ b)) keep tail
      by_cases hk : keep ≤ 0
      · rw [if_pos hk] at e1
        exact .inl ⟨s, old, [], hm.same e1 (e0.trans hm.n0) (.inl rfl) (by omega), by simp, (by first | omega | (simp only [List.length_append, List.length_cons, List.length_nil]; omega))⟩
      · rw [if_neg hk] at e1
        exact .inr ⟨s, old ++ L, [], hm.snap b hb e1 e0 (by omega), by simp, (by first | omega | (simp only [List.length_append, List.length_cons, List.length_nil]; omega))⟩
    · have hs := sync_ok ({ (PD.mk f0 f0 false f1 f1 false 1048576 left false).tick with n1 := frameB (enc (s + old.length + L.length) ++ b), r1 := true }) 1 rfl hl2 (.inr rfl)
      rw [if_neg (by decide)] at hs
      by_cases hl3 : leftC (leftC left) = 0
      · refine ⟨_, _, by unfold PD.wsnap; rw [hw]; dsimp only; rw [hs]; dsimp only; rw [replace_gone _ _ _ hl3]; rfl, Or.inr ⟨rfl, rfl, rfl, (show f0.length + f0.length + (frameB (enc (s + old.length + L.length) ++ b)).length + (frameB (enc (s + old.length + L.length) ++ b)).length ≤ 10000000 by rw [hm0]; omega), ?_⟩⟩
        intro keep tail _
        have e0 : crashF f0 f0 false keep tail = f0 := crashF_same _ _ _
        have e1 : crashF (frameB (enc (s + old.length + L.length) ++ b)) (frameB (enc (s + old.length + L.length) ++ b)) false keep tail = _ := crashF_same _ _ _
        exact .inr ⟨s, old ++ L, [], hm.snap b hb e1 e0 (by omega), by simp, (by first | omega | (simp only [List.length_append, List.length_cons, List.length_nil]; omega))⟩
      · have hr := replace_ok ({ ({ (PD.mk f0 f0 false f1 f1 false 1048576 left false).tick with n1 := frameB (enc (s + old.length + L.length) ++ b), r1 := true } : PD).tick with f1 := frameB (enc (s + old.length + L.length) ++ b), r1 := false }) 0 [] rfl hl3 (.inl rfl) (by
          show ¬ (1048576 : Int) - (((f0.length + (frameB (enc (s + old.length + L.length) ++ b)).length : Nat) : Int) - ((if (0 : Int) = 0 then f0 else _).length : Int)) < (([] : List UInt8).length : Int)
          rw [if_pos rfl]; simp only [List.length_nil]; omega)
        rw [if_pos rfl] at hr
        by_cases hl4 : leftC (leftC (leftC left)) = 0
        · refine ⟨_, _, by unfold PD.wsnap; rw [hw]; dsimp only; rw [hs]; dsimp only; rw [if_neg (by simp), if_neg (by simp), hr]; dsimp only; rw [if_neg (by simp)]; exact sync_gone _ _ hl4, Or.inr ⟨rfl, rfl, rfl, (show f0.length + ([] : List UInt8).length + (frameB (enc (s + old.length + L.length) ++ b)).length + (frameB (enc (s + old.length + L.length) ++ b)).length ≤ 10000000 by rw [hm0]; simp only [List.length_nil]; omega), ?_⟩⟩
          intro keep tail _
          have e0 : crashF f0 [] true keep tail = if keep ≤ 0 then f0 else [] := crashF_new _ _ _ _
          have e1 : crashF (frameB (enc (s + old.length + L.length) ++ b)) (frameB (enc (s + old.length + L.length) ++ b)) false keep tail = _ := crashF_same _ _ _
          by_cases hk : keep ≤ 0
          · rw [if_pos hk] at e0
            exact .inr ⟨s, old ++ L, [], hm.snap b hb e1 e0 (by omega), by simp, (by first | omega | (simp only [List.length_append, List.length_cons, List.length_nil]; omega))⟩
          · rw [if_neg hk] at e0
            exact .inr ⟨_, [], [], hm.snap0 b hb e1 e0 (by omega), by simp, (by first | omega | (simp only [List.length_append, List.length_cons, List.length_nil]; omega))⟩
        · have hs2 := sync_ok ({ ({ ({ (PD.mk f0 f0 false f1 f1 false 1048576 left false).tick with n1 := frameB (enc (s + old.length + L.length) ++ b), r1 := true } : PD).tick with f1 := frameB (enc (s + old.length + L.length) ++ b), r1 := false } : PD).tick with n0 := [], r0 := true }) 0 rfl hl4 (.inl rfl)
          rw [if_pos rfl] at hs2
          refine ⟨_, _, by unfold PD.wsnap; rw [hw]; dsimp only; rw [hs]; dsimp only; rw [if_neg (by simp), if_neg (by simp), hr]; dsimp only; rw [if_neg (by simp)]; exact hs2, Or.inl ⟨rfl, ⟨rfl, leftC_pos (leftC_pos (leftC_pos (leftC_pos a2))), leftC_top (leftC_top (leftC_top (leftC_top at2))), rfl, rfl, rfl, rfl, rfl⟩, ?_⟩⟩
          exact hm.snap0 b hb rfl rfl (by omega)
/-- What a log is opened to, behind a crash. -/
theorem LogM.shut {S : PD} {has : Bool} {sn : List UInt8} {s : Nat} {old L : List (List UInt8)} {junk : List UInt8} {B : Nat} (h : LogM S has sn s old L junk B) (hd : S.dead = false) (hl : S.left = -1) (hlim : S.lim = 1048576) (hB : B ≤ 1000000) (hj : junk ≠ []) :
    ∃ S1 S2, S.replace 0 (S.n0.take (frames (bods s (old ++ L))).length) = (S1, 0) ∧ S1.sync 0 = (S2, 0) ∧ LogM S2 has sn s old L [] B ∧ S2.dead = false ∧ S2.left = -1 ∧ S2.lim = 1048576 := by
  have hm0 := h.n0
  have hsz := h.size
  obtain ⟨f0, n0, r0, f1, n1, r1, lim, left, dead⟩ := S
  simp only at hd hl hlim hm0 hsz
  subst hd hl hlim
  have ht : n0.take (frames (bods s (old ++ L))).length = frames (bods s (old ++ L)) := by rw [hm0, List.take_left' rfl]
  have hr := replace_ok ⟨f0, n0, r0, f1, n1, r1, 1048576, -1, false⟩ 0 (frames (bods s (old ++ L))) rfl (by simp) (.inl rfl) (by
    show ¬ (1048576 : Int) - (((n0.length + n1.length : Nat) : Int) - ((if (0 : Int) = 0 then n0 else n1).length : Int)) < _
    rw [if_pos rfl]; omega)
  rw [if_pos rfl] at hr
  have hs := sync_ok ({ (PD.mk f0 n0 r0 f1 n1 r1 1048576 (-1) false).tick with n0 := frames (bods s (old ++ L)), r0 := true }) 0 rfl (by simp [PD.tick, leftC]) (.inl rfl)
  rw [if_pos rfl] at hs
  exact ⟨_, _, by rw [ht]; exact hr, hs, h.same rfl (by rw [List.append_nil]; rfl) (.inl rfl) (Nat.le_refl _), rfl, rfl, rfl⟩
/-- More is put behind, where no power goes. -/
theorem LogM.more {S : PD} {has : Bool} {sn : List UInt8} {s : Nat} {old L : List (List UInt8)} {B : Nat} (h : LogM S has sn s old L [] B) (hd : S.dead = false) (hl : S.left = -1) (hlim : S.lim = 1048576) (hB : B ≤ 1000000) (b : List UInt8) (hb : b.length ≤ 3000) (hc : s + old.length + L.length < 1000) :
    ∃ S', S.wapp (s + old.length + L.length) b = (S', s + old.length + L.length + 1, 0) ∧ LogM S' has sn s old (L ++ [b]) [] (B + 3030) ∧ S'.dead = false ∧ S'.left = -1 ∧ S'.lim = 1048576 := by
  have hfl := frame_len (s + old.length + L.length) b (by omega) (by omega)
  have hm0 := h.n0
  have hsz := h.size
  obtain ⟨f0, n0, r0, f1, n1, r1, lim, left, dead⟩ := S
  simp only at hd hl hlim hm0 hsz
  subst hd hl hlim
  rw [List.append_nil] at hm0
  have hw := write_ok ⟨f0, n0, r0, f1, n1, r1, 1048576, -1, false⟩ 0 (frameB (enc (s + old.length + L.length) ++ b)) rfl (show (-1 : Int) ≠ 0 by decide) (.inl rfl) (by
    show ¬ (1048576 : Int) - ((n0.length + n1.length : Nat) : Int) < _
    rw [hm0]; omega)
  rw [if_pos rfl] at hw
  have hs := sync_ok ({ (PD.mk f0 n0 r0 f1 n1 r1 1048576 (-1) false).tick with n0 := n0 ++ frameB (enc (s + old.length + L.length) ++ b) }) 0 rfl (by simp [PD.tick, leftC]) (.inl rfl)
  rw [if_pos rfl] at hs
  refine ⟨_, by unfold PD.wapp; rw [hw]; dsimp only; rw [hs]; rfl, ?_, rfl, rfl, rfl⟩
  exact h.snoc b hb hc rfl (by rw [List.append_nil]; show n0 ++ _ = _; rw [hm0]) (.inl rfl) (by omega)
end Go.Proofs.Ytkghkpkiodghiaa
namespace Go.Proofs.Ytkghkpkiodghiaa
set_option linter.unusedVariables false
set_option linter.unusedSimpArgs false
set_option linter.unnecessarySimpa false
open Go.RowKit
set_option maxRecDepth 100000
set_option maxHeartbeats 4000000

theorem LogM.opens (p : Nat) (S : PD) (has : Bool) (sn : List UInt8) (s : Nat) (old L : List (List UInt8)) (junk : List UInt8) (B : Nat) (w : World) (hS : Dsk w p S) (h : LogM S has sn s old L junk B) (hd : S.dead = false) (hl : S.left = -1) (hlim : S.lim = 1048576) (hB : B ≤ 1000000) (hj : junk.length ≤ 20000000) :
    Calls Try.prog 7 #[.pointer (some ⟨p, 0, none⟩)] w fun e w' => ∃ S', OpenYes w w' p e has sn L (s + old.length + L.length) ∧ Dsk w' p S' ∧ Upd p w w' ∧ LogM S' has sn s old L [] B ∧ S'.dead = false ∧ S'.left = -1 ∧ S'.lim = 1048576 ∧ (junk = [] → S' = S) := by
  obtain ⟨E, hU⟩ := h.scan
  have hV := h.recs
  have hT := h.snf
  have hsz := h.size
  have h0 : S.n0.length = (frames (bods s (old ++ L))).length + junk.length := by rw [h.n0, List.length_append]
  by_cases hjj : junk = []
  · subst hjj
    refine (Open_kept p S w has sn (s + old.length) _ _ L hS hd hT (by rw [hl]; decide) (by omega) (by omega) (by rw [hlim]; decide) _ hU hV (by simpa using h0.symm)).mono ?_
    rintro e w' ⟨h1, h2, h3⟩
    exact ⟨S, h1, h2, h3, h, hd, hl, hlim, fun _ => rfl⟩
  · obtain ⟨S1, S2, hr, hs, k1, k2, k3, k4⟩ := h.shut hd hl hlim hB hjj
    have hj0 : 0 < junk.length := by
      cases junk with
      | nil => exact absurd rfl hjj
      | cons c r => simp
    refine (Open_mend p S S1 S2 w has sn (s + old.length) _ _ L hS hd hT (by rw [hl]; decide) (by omega) (by omega) (by rw [hlim]; decide) _ hU hV (by omega) hr hs).mono ?_
    rintro e w' ⟨h1, h2, h3⟩
    exact ⟨S2, h1, h2, h3, k1, k2, k3, k4, fun h => absurd h hjj⟩
/-- Bytes of which no frame comes behind a part of one. -/
def safeL (keep : Int) (t : List UInt8) : List UInt8 := if keep ≤ 0 ∧ 0 < t.length then 255 :: t.drop 1 else t.take 3
theorem safeL_safe (keep : Int) (t : List UInt8) : SafeT keep (safeL keep t) := by
  unfold safeL
  constructor
  · intro hk
    by_cases h : 0 < t.length
    · rw [if_pos ⟨hk, h⟩]; exact .inr ⟨_, rfl⟩
    · rw [if_neg (fun x => h x.2)]
      left
      have : t = [] := List.eq_nil_of_length_eq_zero (by omega)
      rw [this]; rfl
  · intro hk
    rw [if_neg (fun x => by omega), List.length_take]; omega
theorem safeL_len (keep : Int) (t : List UInt8) : (safeL keep t).length ≤ t.length := by
  unfold safeL
  split
  · simp; omega
  · rw [List.length_take]; omega
theorem Safe_any (C K : Int) (tv : Value) (t : List UInt8) (w : World) (ht : Sh w tv t) (hl : t.length ≤ 100000000) :
    Calls Try.prog 22 #[.agg #[.int .i64 C, .int .i64 K, tv]] w fun e w' => ∃ v', e = .returned v' ∧ Sh w' v' (safeL K t) ∧ Below w.heap.size w w' := by
  obtain ⟨x, c, rfl, g1, g2, g3, -⟩ := ht.open
  have HT := Lib.hid ht
  clear ht
  unfold safeL
  by_cases hk : K ≤ 0
  · by_cases h0 : 0 < t.length
    · rw [if_pos ⟨hk, h0⟩]
      have h0I : (0 : Int) < (t.length : Int) := by omega
      have hdr := HT.out.drop 1 (by omega)
      have hba : Below w.heap.size w ((w.alloc (.cells #[.int .i64 C, .int .i64 K, .slice x t.length c] 56)).alloc (.cells #[.int .u8 255] 5)) := balloc (balloc (Below.refl _ _) _) _
      have OL : Hid (Own ((w.alloc (.cells #[.int .i64 C, .int .i64 K, .slice x t.length c] 56)).alloc (.cells #[.int .u8 255] 5)) (w.heap.size + 1) 5 (.slice (some ⟨w.heap.size + 1, 0, none⟩) 1 1) [255]) := Lib.hid (by
        have h := Own.lit (w.alloc (.cells #[.int .i64 C, .int .i64 K, .slice x t.length c] 56)) 5 [255]
        rw [World.size_alloc] at h
        exact h)
      by_cases hc1 : c = 1
      · subst hc1
        have h1 : t.length = 1 := by omega
        rw [if_pos rfl, h1] at hdr
        rw [h1] at hba OL
        have HD := Lib.hid hdr
        clear hdr
        rw [h1]
        go_enter Try.func22, Try.ntmps22
        go_wp2_with (at_builtin; (refine app_bytes (base := w.heap.size + 1) Try.underlying27 info_byte rfl (.tmp 12) (.tmp 15) rfl rfl OL.out rfl (HD.out.below hba) (by simp; omega) (by simp) ?_; intro v2 w2 ho2 hb2))
        go_ret
        exact ⟨_, rfl, ho2.sh, (balloc (balloc (Below.refl _ _) _) _).trans (hb2.mono (by omega))⟩
      · rw [if_neg hc1] at hdr
        have HD := Lib.hid hdr
        have hcI : ¬ (c : Int) = 1 := by omega
        have h1I : (1 : Int) ≤ (t.length : Int) := by omega
        clear hdr
        go_enter Try.func22, Try.ntmps22
        go_wp2_with (at_builtin; (refine app_bytes (base := w.heap.size + 1) Try.underlying27 info_byte rfl (.tmp 12) (.tmp 15) rfl rfl OL.out rfl (HD.out.below hba) (by simp; omega) (by simp) ?_; intro v2 w2 ho2 hb2))
        go_ret
        exact ⟨_, rfl, ho2.sh, (balloc (balloc (Below.refl _ _) _) _).trans (hb2.mono (by omega))⟩
    · rw [if_neg (fun h => h0 h.2)]
      obtain rfl : t = [] := List.eq_nil_of_length_eq_zero (by omega)
      go_enter Try.func22, Try.ntmps22
      go_wp2_with fail
      go_ret
      exact ⟨_, rfl, HT.out.below (balloc (Below.refl _ _) _), balloc (Below.refl _ _) _⟩
  · rw [if_neg (fun h => hk h.1)]
    by_cases h3 : 3 < t.length
    · have h3I : (3 : Int) < (t.length : Int) := by omega
      have ht3 := HT.out.take 3 (by omega)
      go_enter Try.func22, Try.ntmps22
      go_wp2_with fail
      go_ret
      exact ⟨_, rfl, ht3.below (balloc (Below.refl _ _) _), balloc (Below.refl _ _) _⟩
    · have h3I : ¬ (3 : Int) < (t.length : Int) := by omega
      rw [List.take_of_length_le (by omega)]
      go_enter Try.func22, Try.ntmps22
      go_wp2_with fail
      go_ret
      exact ⟨_, rfl, HT.out.below (balloc (Below.refl _ _) _), balloc (Below.refl _ _) _⟩
theorem after1 (N : Int) (xo xs xr : Option Addr) (co ns nr cs cr : Nat) (has : Bool) (l : List UInt8) (w : World) (hl : Sh w (.slice xo l.length co) l) (hlen : l.length ≤ 140737488355328) :
    Calls Try.prog 10 #[.agg #[.bool has, .slice xs ns cs, .slice xr nr cr], .agg #[.int .i64 1, .int .i64 N, .slice xo l.length co]] w fun e w' => e = .returned (.agg #[.bool true, .slice xo (l.take 3000).length co, .slice none 0 0]) ∧ Below w.heap.size w w' := by
  have HO := Lib.hid hl
  clear hl
  go_enter Try.func10, Try.ntmps10
  have hba : Below w.heap.size w (((w.alloc (.cells #[.bool has, .slice xs ns cs, .slice xr nr cr] 36)).alloc (.cells #[.int .i64 1, .int .i64 N, .slice xo l.length co] 38)).alloc (.cells #[.bool false, .slice none 0 0, .slice none 0 0] 36)) := balloc (balloc (balloc (Below.refl _ _) _) _) _
  have R2 : Row (((w.alloc (.cells #[.bool has, .slice xs ns cs, .slice xr nr cr] 36)).alloc (.cells #[.int .i64 1, .int .i64 N, .slice xo l.length co] 38)).alloc (.cells #[.bool false, .slice none 0 0, .slice none 0 0] 36)) (w.heap.size + 1 + 1) 36 [.bool false, .slice none 0 0, .slice none 0 0] := by
    have := Row.new ((w.alloc (.cells #[.bool has, .slice xs ns cs, .slice xr nr cr] 36)).alloc (.cells #[.int .i64 1, .int .i64 N, .slice xo l.length co] 38)) 36 [.bool false, .slice none 0 0, .slice none 0 0]
    rw [World.size_alloc, World.size_alloc] at this
    exact this
  have HBA := Lib.hid hba
  have HR2 := Lib.hid R2
  clear hba R2
  go_wp2_with (go_at_call 9; refine (bytes_act 1 N xo co l _ (HO.out.below HBA.out) hlen).mono ?_; rintro e w1 ⟨rfl, hb1⟩; have R1 := Lib.hid (HR2.out.keep hb1); have z0 := Row.cell R1.out 0; have z1 := Row.cell R1.out 1; have z2 := Row.cell R1.out 2; simp only [List.getElem?_cons_succ, List.getElem?_cons_zero] at z0 z1 z2; have f0 := Row.frozen R1.out 0; have f1 := Row.frozen R1.out 1; have f2 := Row.frozen R1.out 2; have B1 := Lib.hid hb1; clear hb1)
  have U := (((Upd.set (w.heap.size + 1 + 1) 0 w1 (.bool true)).trans (Upd.set (w.heap.size + 1 + 1) 1 _ (.slice xo (min 3000 l.length) co))).trans (Upd.set (w.heap.size + 1 + 1) 2 _ (.slice none 0 0)))
  have RF := Row.set (Row.set (Row.set R1.out 0 (.bool true)) 1 (.slice xo (min 3000 l.length) co)) 2 (.slice none 0 0)
  refine bodyPost_ret (v := .agg #[.bool true, .slice xo (min 3000 l.length) co, .slice none 0 0]) (results_cell_row rfl _ _ (w.heap.size + 1 + 1) _ #[.bool true, .slice xo (min 3000 l.length) co, .slice none 0 0] (0, 0) _ rfl RF Try.underlying36 rfl (by kernel_rfl)) rfl ?_
  rw [List.length_take]
  have h1 := HBA.out.size
  have h2 := B1.out.size
  exact ⟨rfl, (HBA.out.trans (B1.out.mono h1)).trans (U.below (by omega) (by omega))⟩
theorem Same_bool (v1 v2 : Value) (L1 L2 : List (List UInt8)) (w : World) (h1 : Bss w v1 L1) (h2 : Bss w v2 L2) (hne : L1 ≠ L2) :
    Calls Try.prog 29 #[v1, v2] w fun e w' => ∃ b, e = .returned (.bool b) ∧ Below w.heap.size w w' := by
  obtain ⟨a, cap, rfl, g1, g2, g3⟩ := h1.open
  obtain ⟨b, cap2, rfl, k1, k2, k3⟩ := h2.open
  have HS := Lib.hid h1
  have HT := Lib.hid h2
  clear h1 h2 g3 k3
  by_cases hl : L1.length = L2.length
  · rw [← hl] at HT ⊢
    rw [← hl] at k1
    have HLL := Lib.hid hl
    clear hl
    go_enter Try.func29, Try.ntmps29
    go_wp2_with fail
    go_loopw [5] (fun i wr => ∃ j : Nat, j ≤ L1.length ∧ i = .int .i64 j ∧ Below w.heap.size w wr) (fun i _ => L1.length - (intOf i).toNat)
    case atStart => exact ⟨0, by omega, rfl, Below.refl _ _⟩
    case round =>
      obtain ⟨j, hj, rfl, hb⟩ := hrel
      by_cases hlt : j < L1.length
      · obtain ⟨b1, off1, rfl, -, hat1⟩ := HS.out.cells (by omega)
        obtain ⟨b2, off2, rfl, -, hat2⟩ := HT.out.cells (by have := HLL.out; omega)
        obtain ⟨u1, hu1, hs1⟩ := hat1 j hlt
        obtain ⟨u2, hu2, hs2⟩ := hat2 j (by have := HLL.out; omega)
        have hu1' := bcell hb hu1 (blt hu1)
        have hu2' := bcell hb hu2 (blt hu2)
        have hc1 : ∀ m, (convert 27 9 u1).run Try.prog (wr.drewN m) = .ok (.string ⟨(L1.getD j []).toArray⟩) (wr.drewN m) := fun m => conv_run ((hs1.at' hb (Nat.le_refl _)).drewN m)
        have hc2 : ∀ m, (convert 27 9 u2).run Try.prog (wr.drewN m) = .ok (.string ⟨(L2.getD j []).toArray⟩) (wr.drewN m) := fun m => conv_run ((hs2.at' hb (Nat.le_refl _)).drewN m)
        have hjI : (j : Int) < (L1.length : Int) := by omega
        clear hat1 hat2 hu1 hu2 hs1 hs2
        generalize L1.getD j [] = q1 at *
        generalize L2.getD j [] = q2 at *
        by_cases hq : q1 = q2
        · subst hq
          go_wp2_with fail
          go_quiet (fail)
          clear hc1 hc2
          go_wp2_with fail
          exact ⟨⟨j + 1, by omega, by go_num, hb.trans ((drewN_below _ nq).mono hb.size)⟩, by simp [intOf]; omega⟩
        · have hqb : (q1 == q2) = false := by rw [beq_eq_false_iff_ne]; exact hq
          clear hq
          go_wp2_with fail
          go_quiet (fail)
          clear hc1 hc2
          go_wp2_with fail
          go_ret
          exact ⟨_, rfl, hb.trans ((drewN_below _ nq).mono hb.size)⟩
      · obtain rfl : j = L1.length := by omega
        go_wp2_with fail
        go_ret
        exact ⟨_, rfl, hb⟩
  · have hlI : ¬ (L1.length : Int) = (L2.length : Int) := by omega
    go_enter Try.func29, Try.ntmps29
    go_wp2_with fail
    go_ret
    exact ⟨_, rfl, Below.refl _ _⟩
theorem Same_some (v1 v2 : Value) (L1 L2 : List (List UInt8)) (w : World) (h1 : Bss w v1 L1) (h2 : Bss w v2 L2) :
    Calls Try.prog 29 #[v1, v2] w fun e w' => ∃ b, e = .returned (.bool b) ∧ Below w.heap.size w w' := by
  by_cases he : L1 = L2
  · subst he
    exact (Same_any v1 v2 L1 w h1 h2).mono fun e w' ⟨k1, k2⟩ => ⟨true, k1, k2⟩
  · exact Same_bool v1 v2 L1 L2 w h1 h2 he
theorem is_any (has has2 : Bool) (sv sv2 rv rv2 : Value) (nx : Int) (s s2 : List UInt8) (rs rs2 : List (List UInt8)) (w : World) (h1 : Sh w sv s) (h2 : Sh w sv2 s2) (h3 : Bss w rv rs) (h4 : Bss w rv2 rs2) :
    Calls Try.prog 11 #[.agg #[.bool has, sv, rv], .agg #[.bool has2, sv2, rv2, .int .u64 nx]] w fun e w' => ∃ b, e = .returned (.bool b) ∧ Below w.heap.size w w' := by
  obtain ⟨x1, c1, rfl, -⟩ := h1.open
  obtain ⟨x2, c2, rfl, -⟩ := h2.open
  obtain ⟨x3, c3, rfl, -⟩ := h3.open
  obtain ⟨x4, c4, rfl, -⟩ := h4.open
  have H1 := Lib.hid h1
  have H2 := Lib.hid h2
  have H3 := Lib.hid h3
  have H4 := Lib.hid h4
  clear h1 h2 h3 h4
  have hba : Below w.heap.size w ((w.alloc (.cells #[.bool has, .slice x1 s.length c1, .slice x3 rs.length c3] 36)).alloc (.cells #[.bool has2, .slice x2 s2.length c2, .slice x4 rs2.length c4, .int .u64 nx] 31)) := balloc (balloc (Below.refl _ _) _) _
  have hc1 := conv_run (H1.out.below hba)
  have hc2 := conv_run (H2.out.below hba)
  by_cases hh : has = has2
  · subst hh
    by_cases hs : s = s2
    · subst hs
      go_enter Try.func11, Try.ntmps11
      go_wp2_with (go_at_call 29; refine (Same_some _ _ rs rs2 _ (H3.out.below hba) (H4.out.below hba)).mono ?_; rintro e w3 ⟨bb, rfl, hb3⟩)
      go_ret
      exact ⟨_, rfl, bthen hba hb3 (Nat.le_refl _)⟩
    · have hsb : (s == s2) = false := by rw [beq_eq_false_iff_ne]; exact hs
      clear hs
      go_enter Try.func11, Try.ntmps11
      go_wp2_with fail
      go_ret
      exact ⟨_, rfl, hba⟩
  · have hhb : (has == has2) = false := by rw [beq_eq_false_iff_ne]; exact hh
    go_enter Try.func11, Try.ntmps11
    go_wp2_with fail
    go_ret
    exact ⟨_, rfl, hba⟩
end Go.Proofs.Ytkghkpkiodghiaa
