/- Package shell: the package variables that it wants, number, place; policy.Name. (printed by gen/shl1.py) -/
import Derived.Test.YtojoeaaodomfnaaGreatDoorShlE
import Derived.Test.YtojoeaaodomfnaaGreatDoorShelf
import Derived.Test.YtojoeaaodomfnaaGreatDoorErrs3
import Derived.WalkSmall
import Derived.Lib.AppendIntMem
import Derived.Lib.AtoiErrMem
namespace Go.Proofs.YtojoeaaodomfnaaGreatDoor
set_option linter.unusedVariables false
set_option linter.unusedSimpArgs false
set_option linter.unnecessarySimpa false
open Go.RowKit
set_option maxRecDepth 100000
set_option maxHeartbeats 4000000

def bs (l : List UInt8) : ByteArray := ⟨l.toArray⟩
theorem bs_data (l : List UInt8) : (bs l).data.toList = l := rfl
theorem data_bs (s : ByteArray) : bs s.data.toList = s := rfl
theorem bs_size (l : List UInt8) : (bs l).size = l.length := rfl
theorem toL (s : ByteArray) : s.toList = s.data.toList := Lib.toList_data s
def verbV (v : Shl.Verb) : List Value := [.string (bs v.name), .int .i64 v.kind, .int .i64 v.cmd, .string (bs v.pat)]
def verbC : List Value := Shl.verbs.flatMap verbV
/-- The package variables. -/
structure Gl (w : World) : Prop where
  sz : 11 ≤ w.heap.size
  vb : ∀ j u, verbC[j]? = some u → w.cell? ⟨0, j, none⟩ = some u
  nm : ∀ j, j < 7 → w.cell? ⟨1, j, none⟩ = some (.string (bs (Shl.pols.getD j [])))
  et : w.cell? ⟨2, 0, none⟩ = some (.iface 97 (.agg #[.pointer (some ⟨11, 33, none⟩)]))
  tab : Lib.TabIs Tryz.prog w "internal/strconv.uint64pow10" .u64 Lib.pow10Tab
  ml : ∃ m, w.cell? ⟨4, 0, none⟩ = some (.int .i64 m)
  es : ∃ t p, w.cell? ⟨9, 0, none⟩ = some (.iface t p)
  er : ∃ t p, w.cell? ⟨10, 0, none⟩ = some (.iface t p)
theorem Gl.below {B : Nat} {w w' : World} (h : Gl w) (hb : Below B w w') (hB : 11 ≤ B) : Gl w' where
  sz := Nat.le_trans h.sz hb.size
  vb := fun j u hu => bcell hb (h.vb j u hu) (show 0 < B by omega)
  nm := fun j hj => bcell hb (h.nm j hj) (show 1 < B by omega)
  et := bcell hb h.et (show 2 < B by omega)
  tab := var?_below hb (show Tryz.prog.globalNamed "internal/strconv.uint64pow10" = some 3 by kernel_rfl) (show 3 < B by omega) h.tab
  ml := h.ml.imp fun m hm => bcell hb hm (show 4 < B by omega)
  es := h.es.imp fun t ht => ht.imp fun p hp => bcell hb hp (show 9 < B by omega)
  er := h.er.imp fun t ht => ht.imp fun p hp => bcell hb hp (show 10 < B by omega)
theorem Gl.keep {w w' : World} (h : Gl w) (hb : Below w.heap.size w w') : Gl w' := h.below hb h.sz

theorem Itoa_any (n : Int) (h0 : -9223372036854775808 ≤ n) (h1 : n ≤ 9223372036854775807) (w : World) (hg : Gl w) :
    Calls Tryz.prog 15 #[.int .i64 n] w fun e w' => e = .returned (.string (bs (Lib.itoa n))) ∧ Below w.heap.size w w' :=
  (Tryz.strconv_Itoa n h0 h1 w hg.tab).mono fun e w' ⟨he, k, os, hw⟩ => ⟨he, by rw [hw]; exact Lib.below_grow _ w (Nat.le_refl _) k os⟩
theorem Atoi_ok (s : ByteArray) (v : Int) (hs : s.size ≤ 281474976710656) (h : Lib.atoiAll s.data.toList = .ok v) (w : World) :
    Calls Tryz.prog 64 #[.string s] w fun e w' => e = .returned (.tuple #[.int .i64 v, .nilIface]) ∧ Below w.heap.size w w' :=
  (Tryz.strconv_Atoi_ok s (by omega) v h w).mono fun e w' ⟨he, hw⟩ => ⟨he, by
    rcases hw with rfl | ⟨t, rfl⟩
    · exact Below.refl _ _
    · exact Lib.bytesWorld_below _ _ _⟩
theorem Atoi_bad (s : ByteArray) (hs : s.size ≤ 281474976710656) (h : ∀ v, Lib.atoiAll s.data.toList ≠ .ok v) (w : World) (hg : Gl w) :
    Calls Tryz.prog 64 #[.string s] w fun e w' => ∃ (v : Int) (t : TypeId) (p : Value), e = .returned (.tuple #[.int .i64 v, .iface t p]) ∧ Below w.heap.size w w' := by
  rcases hr : Lib.atoiAll s.data.toList with v | _ | _
  · exact absurd hr (h v)
  · obtain ⟨t, p, hp⟩ := hg.es
    exact (Any.strconv_Atoi_syntax Tryz.laysC172 s hs hr _ w hp (.inr ⟨t, p, rfl⟩)).mono fun e w' ⟨N, he, _, _, hb⟩ => ⟨_, _, _, he, hb⟩
  · obtain ⟨t, p, hp⟩ := hg.er
    exact (Tryz.strconv_Atoi_range s hs hr _ w hp (.inr ⟨t, p, rfl⟩)).mono fun e w' ⟨N, he, _, _, hb⟩ => ⟨_, _, _, he, hb⟩

/-! ### number -/
def NumQ (s : ByteArray) (w : World) (e : Ending) (w' : World) : Prop := ∃ v : Int, e = .returned (.tuple #[.int .i64 v, .bool (Shl.numL s.data.toList).isSome]) ∧ (∀ n : Nat, Shl.numL s.data.toList = some n → v = (n : Int)) ∧ Below w.heap.size w w'
theorem number_any (s : ByteArray) (hs : s.size ≤ 281474976710656) (w : World) (hg : Gl w) : Calls Tryz.prog 49 #[.string s] w (NumQ s w) := by
  have HG := Lib.hid hg
  clear hg
  cases hr : Lib.atoiAll s.data.toList with
  | ok v =>
    obtain ⟨hv0, hv1⟩ := Lib.atoiAll_bounds hr
    have HR := Lib.hid hr
    have HI := Lib.hid (fun n : Nat => Shl.num_iff s.data.toList n)
    clear hr
    by_cases c0 : 0 ≤ v
    · by_cases c1 : v ≤ 999999
      · obtain ⟨n, rfl⟩ := Int.eq_ofNat_of_zero_le c0
        by_cases c2 : Lib.itoa (n : Int) = s.data.toList
        · have hb2 : ((bs (Lib.itoa (n : Int))).toList == s.toList) = true := by rw [toL, toL, beq_iff_eq]; exact c2
          have HN : Hid (Shl.numL s.data.toList = some n) := (HI.out n).2 ⟨HR.out, by omega, c2⟩
          clear c2
          go_enter Tryz.func49, Tryz.ntmps49
          go_wp2_with (first
            | (go_at_call 64; refine (Atoi_ok s _ hs HR.out _).mono ?_; rintro e w1 ⟨rfl, hb1⟩; have B1 := Lib.hid hb1; clear hb1)
            | (go_at_call 15; refine (Itoa_any _ (by omega) (by omega) _ (HG.out.keep B1.out)).mono ?_; rintro e w2 ⟨rfl, hb2'⟩; have B2 := Lib.hid (B1.out.trans (hb2'.mono B1.out.size)); clear hb2'))
          go_ret2
          exact ⟨_, by rw [HN.out]; rfl, fun m hm => by rw [HN.out] at hm; simp only [Option.some.injEq] at hm; omega, B2.out⟩
        · have hb2 : ((bs (Lib.itoa (n : Int))).toList == s.toList) = false := by rw [toL, toL, beq_eq_false_iff_ne]; exact c2
          have HN : Hid (Shl.numL s.data.toList = none) := by
            show _ = _
            cases hm : Shl.numL s.data.toList with
            | none => rfl
            | some m =>
              obtain ⟨a1, a2, a3⟩ := (HI.out m).1 hm
              rw [HR.out] at a1
              simp only [Lib.NumEnd.ok.injEq] at a1
              exact absurd (by rw [a1]; exact a3) c2
          clear c2
          go_enter Tryz.func49, Tryz.ntmps49
          go_wp2_with (first
            | (go_at_call 64; refine (Atoi_ok s _ hs HR.out _).mono ?_; rintro e w1 ⟨rfl, hb1⟩; have B1 := Lib.hid hb1; clear hb1)
            | (go_at_call 15; refine (Itoa_any _ (by omega) (by omega) _ (HG.out.keep B1.out)).mono ?_; rintro e w2 ⟨rfl, hb2'⟩; have B2 := Lib.hid (B1.out.trans (hb2'.mono B1.out.size)); clear hb2'))
          go_ret2
          exact ⟨_, by rw [HN.out]; rfl, fun m hm => (by rw [HN.out] at hm; cases hm), B2.out⟩
      · have HN : Hid (Shl.numL s.data.toList = none) := by
          show _ = _
          cases hm : Shl.numL s.data.toList with
          | none => rfl
          | some m =>
            obtain ⟨a1, a2, a3⟩ := (HI.out m).1 hm
            rw [HR.out] at a1
            simp only [Lib.NumEnd.ok.injEq] at a1
            omega
        go_enter Tryz.func49, Tryz.ntmps49
        go_wp2_with (go_at_call 64; refine (Atoi_ok s _ hs HR.out _).mono ?_; rintro e w1 ⟨rfl, hb1⟩; have B1 := Lib.hid hb1; clear hb1)
        go_ret2
        exact ⟨_, by rw [HN.out]; rfl, fun m hm => (by rw [HN.out] at hm; cases hm), B1.out⟩
    · have HN : Hid (Shl.numL s.data.toList = none) := by
        show _ = _
        cases hm : Shl.numL s.data.toList with
        | none => rfl
        | some m =>
          obtain ⟨a1, a2, a3⟩ := (HI.out m).1 hm
          rw [HR.out] at a1
          simp only [Lib.NumEnd.ok.injEq] at a1
          omega
      go_enter Tryz.func49, Tryz.ntmps49
      go_wp2_with (go_at_call 64; refine (Atoi_ok s _ hs HR.out _).mono ?_; rintro e w1 ⟨rfl, hb1⟩; have B1 := Lib.hid hb1; clear hb1)
      go_ret2
      exact ⟨_, by rw [HN.out]; rfl, fun m hm => (by rw [HN.out] at hm; cases hm), B1.out⟩
  | _ =>
    have HR : Hid (∀ v, Lib.atoiAll s.data.toList ≠ .ok v) := fun v h => by rw [hr] at h; cases h
    have HN : Hid (Shl.numL s.data.toList = none) := by
      show _ = _
      cases hm : Shl.numL s.data.toList with
      | none => rfl
      | some m => exact absurd ((Shl.num_iff s.data.toList m).1 hm).1 (HR.out _)
    clear hr
    go_enter Tryz.func49, Tryz.ntmps49
    go_wp2_with (go_at_call 64; refine (Atoi_bad s hs HR.out _ HG.out).mono ?_; rintro e w1 ⟨v, t, p, rfl, hb1⟩; have B1 := Lib.hid hb1; clear hb1)
    go_ret2
    exact ⟨_, by rw [HN.out]; rfl, fun m hm => (by rw [HN.out] at hm; cases hm), B1.out⟩

/-! ### policy.Name, place -/
theorem pis_any (p : Int) (w : World) : Calls Tryz.prog 28 #[.int .i64 p] w fun e w' => e = .returned (.bool (decide (0 ≤ p ∧ p < 7))) ∧ w = w' := by
  by_cases c0 : 0 ≤ p
  · by_cases c1 : p < 7
    · rw [decide_eq_true ⟨c0, c1⟩]
      go_enter Tryz.func28, Tryz.ntmps28
      go_wp2
      go_ret
      exact ⟨rfl, rfl⟩
    · rw [decide_eq_false (fun h => c1 h.2)]
      go_enter Tryz.func28, Tryz.ntmps28
      go_wp2
      go_ret
      exact ⟨rfl, rfl⟩
  · rw [decide_eq_false (fun h => c0 h.1)]
    go_enter Tryz.func28, Tryz.ntmps28
    go_wp2
    go_ret
    exact ⟨rfl, rfl⟩
theorem Name_any (p : Int) (w : World) (hg : Gl w) : Calls Tryz.prog 16 #[.int .i64 p] w fun e w' => e = .returned (.string (bs (Shl.polName p))) ∧ w = w' := by
  by_cases h : 0 ≤ p ∧ p < 7
  · obtain ⟨n, rfl⟩ := Int.eq_ofNat_of_zero_le h.1
    have hn : n < 7 := by omega
    have hc := hg.nm n hn
    have hnI : (n : Int) < 7 := by omega
    have HP : Hid (Shl.polName (n : Int) = Shl.pols.getD n []) := by show _ = _; unfold Shl.polName; rw [if_pos h]; simp
    have HD : Hid (decide (0 ≤ (n : Int) ∧ (n : Int) < 7) = true) := decide_eq_true h
    generalize Shl.pols.getD n [] = x at *
    clear h hg
    go_enter Tryz.func16, Tryz.ntmps16
    go_wp2_with (go_at_call 28; refine (pis_any _ _).mono ?_; rw [HD.out]; rintro e w1 ⟨rfl, rfl⟩)
    go_ret
    exact ⟨by rw [HP.out]; rfl, rfl⟩
  · have HD : Hid (decide (0 ≤ p ∧ p < 7) = false) := decide_eq_false h
    have HP : Hid (Shl.polName p = [63]) := by show _ = _; unfold Shl.polName; rw [if_neg h]
    clear h hg
    go_enter Tryz.func16, Tryz.ntmps16
    go_wp2_with (go_at_call 28; refine (pis_any _ _).mono ?_; rw [HD.out]; rintro e w1 ⟨rfl, rfl⟩)
    go_ret
    exact ⟨by rw [HP.out]; rfl, rfl⟩
theorem place_none {s : List UInt8} (h : ∀ i, i < 7 → Shl.pols.getD i [] ≠ s) : Shl.placeL s = none := by
  unfold Shl.placeL
  rw [List.find?_eq_none]
  intro p hp
  simpa using h p (List.mem_range.1 hp)
theorem place_at {s : List UInt8} {k : Nat} (hk : k < 7) (h : ∀ i, i < k → Shl.pols.getD i [] ≠ s) (he : Shl.pols.getD k [] = s) : Shl.placeL s = some k := by
  unfold Shl.placeL
  cases hf : (List.range 7).find? (fun p => Shl.pols.getD p [] == s) with
  | none => exact absurd (by simpa using he) (List.find?_eq_none.1 hf k (List.mem_range.2 hk))
  | some p =>
    obtain ⟨h1, h2⟩ := Shl.place_some (show Shl.placeL s = some p from hf)
    have key : ∀ i, i < 7 → ∀ j, j < 7 → Shl.pols.getD i [] = Shl.pols.getD j [] → i = j := by decide
    rw [key p h1 k hk (h2.trans he.symm)]
def PlaceQ (s : ByteArray) (w : World) (e : Ending) (w' : World) : Prop := ∃ v : Int, e = .returned (.tuple #[.int .i64 v, .bool (Shl.placeL s.data.toList).isSome]) ∧ (∀ n : Nat, Shl.placeL s.data.toList = some n → v = (n : Int)) ∧ w = w'
theorem place_any (s : ByteArray) (w : World) (hg : Gl w) : Calls Tryz.prog 50 #[.string s] w (PlaceQ s w) := by
  have HG := Lib.hid hg
  clear hg
  go_enter Tryz.func50, Tryz.ntmps50
  go_wp2_with fail
  go_loop [5] (fun iv => ∃ k : Nat, k ≤ 7 ∧ iv = .int .i64 k ∧ ∀ i, i < k → Shl.pols.getD i [] ≠ s.data.toList) (fun iv => 7 - (intOf iv).toNat)
  case atStart => exact ⟨0, by omega, rfl, fun i hi => by omega⟩
  case round =>
    obtain ⟨k, hk, rfl, h1⟩ := hrel
    have H1 := Lib.hid h1
    clear h1
    by_cases hlt : k < 7
    · have hltI : (k : Int) < 7 := by omega
      have HP : Hid (Shl.polName (k : Int) = Shl.pols.getD k []) := by show _ = _; unfold Shl.polName; rw [if_pos ⟨by omega, by omega⟩]; simp
      by_cases he : Shl.pols.getD k [] = s.data.toList
      · have hb : ((bs (Shl.polName (k : Int))).toList == s.toList) = true := by rw [toL, toL, beq_iff_eq, HP.out]; exact he
        have HE := Lib.hid (place_at hlt H1.out he)
        clear he
        go_wp2_with (go_at_call 16; refine (Name_any _ _ HG.out).mono ?_; rintro e w1 ⟨rfl, rfl⟩)
        go_ret2
        exact ⟨_, by rw [HE.out]; rfl, fun n hn => by rw [HE.out] at hn; simp only [Option.some.injEq] at hn; omega, rfl⟩
      · have hb : ((bs (Shl.polName (k : Int))).toList == s.toList) = false := by rw [toL, toL, beq_eq_false_iff_ne, HP.out]; exact he
        have HE := Lib.hid he
        clear he
        go_wp2_with (go_at_call 16; refine (Name_any _ _ HG.out).mono ?_; rintro e w1 ⟨rfl, rfl⟩)
        go_round
        case rel => exact ⟨k + 1, by omega, by go_num, fun i hi => by
          rcases Nat.lt_or_ge i k with h | h
          · exact H1.out i h
          · rw [show i = k by omega]; exact HE.out⟩
        case measure => simp [intOf]; omega
    · have hk7 : k = 7 := by omega
      subst hk7
      have HE := Lib.hid (place_none H1.out)
      go_wp2_with fail
      go_ret2
      exact ⟨_, by rw [HE.out]; rfl, fun n hn => (by rw [HE.out] at hn; cases hn), rfl⟩
end Go.Proofs.YtojoeaaodomfnaaGreatDoor
