/- tree.Path. (printed by gen/rpath.py) -/
import Derived.Test.YtnhkbbladifmmaaDoorCatN
import Derived.Test.YtnhkbbladifmmaaDoorTre1
import Derived.Test.YtnhkbbladifmmaaDoorTreR
import Derived.Test.YtnhkbbladifmmaaDoorShaR2
namespace Go.Proofs.YtnhkbbladifmmaaDoor
set_option linter.unusedVariables false
set_option linter.unusedSimpArgs false
set_option linter.unnecessarySimpa false
open Go.RowKit
open Tre (It)
set_option maxRecDepth 100000
set_option maxHeartbeats 8000000

/-- A name's leaf as a path. -/
def pathOf (s : ByteArray) : List Int := [((Tre.slot s.data.toList / 4 : Nat) : Int), ((Tre.slot s.data.toList % 4 : Nat) : Int)]
theorem lit2 (w : World) (a b : Int) : Ns (w.alloc (.cells #[.int .i64 a, .int .i64 b] 3)) (.slice (some ⟨w.heap.size, 0, none⟩) 2 2) [a, b] :=
  Shows.of_own (World.ownsRow_lit (e := 3) (size := 1) (base := w.heap.size) w #[.int .i64 a, .int .i64 b] 2 (Nat.le_refl _) (by decide) (by simp))
theorem tpath_any (s : ByteArray) (w : World) (hg : Glob w) (hs : s.size ≤ 100000000000000) :
    Calls Tryd.prog 19 #[.string s] w fun e w' => ∃ v, e = .returned v ∧ Ns w' v (pathOf s) ∧ Below w.heap.size w w' := by
  have HG := Lib.hid hg
  clear hg
  obtain ⟨k, hk⟩ : ∃ k, Tre.slot s.data.toList = k := ⟨_, rfl⟩
  have hk16 : k < 16 := by
    rw [← hk]; have := ((Sha.sum s.data.toList).getD 0 0).toNat_lt; unfold Tre.slot; omega
  have HK := Lib.hid hk
  have hP : Hid (pathOf s = [((k / 4 : Nat) : Int), ((k % 4 : Nat) : Int)]) := by show _ = _; unfold pathOf; rw [hk]
  clear hk
  go_enter Tryd.func19, Tryd.ntmps19
  go_wp2_with (go_at_call 34; refine (slot_any s _ HG.out hs).mono ?_; rw [HK.out]; rintro e w1 ⟨rfl, hb1⟩; have B1 := Lib.hid hb1; clear hb1)
  go_ret
  refine ⟨_, rfl, ?_, B1.out.alloc B1.out.size _⟩
  rw [hP.out]
  have := lit2 w1 ((k / 4 : Nat) : Int) ((k % 4 : Nat) : Int)
  simpa using this
end Go.Proofs.YtnhkbbladifmmaaDoor
namespace Go.Proofs.YtnhkbbladifmmaaDoor
set_option linter.unusedVariables false
set_option linter.unusedSimpArgs false
set_option linter.unnecessarySimpa false
open Go.RowKit
open Tre (It)
set_option maxRecDepth 100000
set_option maxHeartbeats 8000000

def onB : List Int → List Int → Bool
  | [], _ => true
  | _ :: _, [] => false
  | x :: a, y :: b => x == y && onB a b
theorem onB_nil (Q : List Int) : onB [] Q = true := by cases Q <;> rfl
theorem on_any (v u : Value) (P Q : List Int) (w : World) (hs : Ns w v P) (hu : Ns w u Q) :
    Calls Tryd.prog 15 #[v, u] w fun e w' => e = .returned (.bool (onB P Q)) ∧ Below w.heap.size w w' := by
  obtain ⟨xa, ca, rfl, hc1, hc2, -, -⟩ := hs.open
  obtain ⟨xb, cb, rfl, hd1, hd2, -, -⟩ := hu.open
  have HS := Lib.hid hs
  have HU := Lib.hid hu
  clear hs hu
  go_enter Tryd.func15, Tryd.ntmps15
  go_wp2_with fail
  go_loopw [5] (fun iv wr => ∃ j : Nat, j ≤ P.length ∧ iv = .int .i64 j ∧ onB P Q = onB (P.drop j) (Q.drop j) ∧ Below w.heap.size w wr) (fun iv _ => P.length - (intOf iv).toNat)
  case atStart => exact ⟨0, Nat.zero_le _, rfl, rfl, Below.refl _ _⟩
  case round =>
    obtain ⟨j, hj, rfl, h1, hb⟩ := hrel
    have H1 := Lib.hid h1
    have HB := Lib.hid hb
    clear h1 hb
    by_cases hlt : j < P.length
    · have hltI : (j : Int) < (P.length : Int) := by omega
      by_cases hlt2 : j < Q.length
      · have hltI2 : (j : Int) < (Q.length : Int) := by omega
        have hgeI : ¬ (j : Int) ≥ (Q.length : Int) := by omega
        have hgeN : decide (Q.length ≤ j) = false := decide_eq_false (by omega)
        obtain ⟨b, off, rfl, hat⟩ := HS.out.at (by omega)
        obtain ⟨b2, off2, rfl, hat2⟩ := HU.out.at (by omega)
        have hc := bkeep HB.out (hat j hlt)
        have hd := bkeep HB.out (hat2 j hlt2)
        have hbd : onB (P.drop j) (Q.drop j) = (P.getD j 0 == Q.getD j 0 && onB (P.drop (j + 1)) (Q.drop (j + 1))) := by
          rw [List.drop_eq_getElem_cons hlt, List.drop_eq_getElem_cons hlt2]
          simp [onB, List.getD, List.getElem?_eq_getElem hlt, List.getElem?_eq_getElem hlt2]
        obtain ⟨m, hm⟩ : ∃ m, P.getD j 0 = m := ⟨_, rfl⟩
        obtain ⟨n, hn⟩ : ∃ n, Q.getD j 0 = n := ⟨_, rfl⟩
        rw [hm] at hc
        rw [hn] at hd
        rw [hm, hn] at hbd
        have HBD := Lib.hid hbd
        clear hat hat2 hm hn hbd
        by_cases he : m = n
        · have hnb : (m != n) = false := by rw [bne_eq_false_iff_eq]; exact he
          have HE := Lib.hid he
          clear he
          go_upto_region 4 with fail
          go_region
          go_wp2_with fail
          refine ⟨⟨j + 1, by omega, by go_num, ?_, HB.out.drew⟩, by simp [intOf]; omega⟩
          rw [H1.out, HBD.out, HE.out]; simp
        · have hnb : (m != n) = true := by rw [bne_iff_ne]; exact he
          have HE : Hid (onB P Q = false) := by show _ = _; rw [H1.out, HBD.out, beq_eq_false_iff_ne.2 he]; rfl
          clear he
          go_upto_region 4 with fail
          go_region
          go_wp2_with fail
          go_ret
          exact ⟨by rw [HE.out]; rfl, HB.out.drew⟩
      · have hgeI : (j : Int) ≥ (Q.length : Int) := by omega
        have hgeN : decide (Q.length ≤ j) = true := decide_eq_true (by omega)
        have HG : Hid (onB P Q = false) := by show _ = _; rw [H1.out, show Q.drop j = [] from List.drop_eq_nil_of_le (by omega), List.drop_eq_getElem_cons hlt]; rfl
        go_upto_region 4 with fail
        go_region
        go_wp2_with fail
        go_ret
        exact ⟨by rw [HG.out]; rfl, HB.out.drew⟩
    · have hnI : ¬ (j : Int) < (P.length : Int) := by omega
      have HG : Hid (onB P Q = true) := by show _ = _; rw [H1.out, show P.drop j = [] from List.drop_eq_nil_of_le (by omega), onB_nil]
      go_wp2_with fail
      go_ret
      exact ⟨by rw [HG.out]; rfl, HB.out⟩
/-- An item put changes no sum beside its way. -/
theorem way {A : List It} {x : It} (h : Tre.Rise A) {P : List Int} (hg : goodP P = true) (hne : onB P (pathOf x.name) = false) : Tre.sumAt (Tre.put A x) P = Tre.sumAt A P := by
  have hs : Tre.slot x.nm < 16 := by have := ((Sha.sum x.nm).getD 0 0).toNat_lt; unfold Tre.slot; omega
  have hp : pathOf x.name = [((Tre.slot x.nm / 4 : Nat) : Int), ((Tre.slot x.nm % 4 : Nat) : Int)] := rfl
  rw [hp] at hne
  generalize hk : Tre.slot x.nm = s at *
  rcases good_cases hg with rfl | ⟨k, hk4, rfl⟩ | ⟨k, m, hk4, hm4, rfl⟩
  · rw [onB_nil] at hne; cases hne
  · have hn : s / 4 ≠ k := by
      intro e; rw [e] at hne; simp [onB] at hne
    exact Tre.nodeAt_put A x h _ (by rw [hk]; simpa using hn)
  · have hn : s ≠ 4 * k + m := by
      intro e
      rw [show s / 4 = k by omega, show s % 4 = m by omega] at hne
      simp [onB] at hne
    exact Tre.leafAt_put A x h _ (by rw [hk]; simpa using hn)
end Go.Proofs.YtnhkbbladifmmaaDoor
namespace Go.Proofs.YtnhkbbladifmmaaDoor
set_option linter.unusedVariables false
set_option linter.unusedSimpArgs false
set_option linter.unnecessarySimpa false
open Go.RowKit
open Tre (It)
set_option maxRecDepth 100000
set_option maxHeartbeats 8000000

theorem rpath_any (s : ByteArray) (w : World) (hs : s.size ≤ 100000000000000) :
    Calls Tryd.prog 16 #[.string s] w fun e w' => ∃ v, e = .returned v ∧ Ns w' v (pathOf s) ∧ Below w.heap.size w w' := by
  have hrun := fun w => Lib.run_convert_string_bytes (P := Tryd.prog) w 9 23 5 s Tryd.underlying9 Tryd.underlying23 Tryd.underlying5
  have hsh : Sh (Lib.bytesWorld w 5 s) (.slice (some ⟨w.heap.size, 0, none⟩) s.size (grownCap w s.size 0 5)) s.data.toList := by
    have hl : s.data.toList.length = s.size := Array.length_toList
    refine ⟨by simp, _, _, by rw [hl], by rw [hl]; exact grownCap_ge w _ _ _, grownCap_le_maxLen w _ _ _ (by unfold maxLen; omega), fun e => by simp at e, fun x hx j q hq => ?_⟩
    simp only [Option.some.injEq] at hx
    subst hx
    have hj : j < s.data.toList.length := by have := (List.getElem?_eq_some_iff.1 hq).1; simpa using this
    rw [Addr.add_lit, Nat.zero_add, Lib.bytesWorld_cell w _ s j (by omega), ← hq, bytes_get, List.getElem?_eq_getElem hj]
    simp [List.getD, List.getElem?_eq_getElem hj]
  have hb : Below w.heap.size w (Lib.bytesWorld w 5 s) := ⟨rfl, rfl, rfl, by rw [Lib.bytesWorld_size]; omega, fun k hk => Lib.bytesWorld_at_old w _ s k hk⟩
  have HSH := Lib.hid hsh
  have HB := Lib.hid hb
  clear hsh hb
  go_enter Tryd.func16, Tryd.ntmps16
  go_wp2_with (first
    | (rw [hrun])
    | (go_at_call 33; refine (rsum_any _ s.data.toList _ HSH.out (by rw [show s.data.toList.length = s.size from Array.length_toList]; exact hs)).mono ?_; rintro e w1 ⟨rfl, hb1⟩; have hix : (Instr.index 30 (sumV (Sha.sum s.data.toList)) (.int .i64 0)).run Tryd.prog w1 = .ok (.int .u8 (((Sha.sum s.data.toList).getD 0 0).toNat : Int)) w1 := index_sum (Sha.sum s.data.toList) (Sha.sum_length _) 0 (by decide) w1; have hx8 := ((Sha.sum s.data.toList).getD 0 0).toNat_lt; have HSL : Hid (pathOf s = [((((Sha.sum s.data.toList).getD 0 0).toNat / 16 / 4 : Nat) : Int), ((((Sha.sum s.data.toList).getD 0 0).toNat / 16 % 4 : Nat) : Int)]) := rfl; generalize ((Sha.sum s.data.toList).getD 0 0).toNat = x0 at *; have B1 := Lib.hid (HB.out.trans (hb1.mono HB.out.size)); clear hb1))
  go_ret
  refine ⟨_, rfl, ?_, B1.out.alloc B1.out.size _⟩
  rw [HSL.out]
  have := lit2 w1 ((x0 / 16 / 4 : Nat) : Int) ((x0 / 16 % 4 : Nat) : Int)
  rw [Nat.div_div_eq_div_mul] at this ⊢
  simpa using this
end Go.Proofs.YtnhkbbladifmmaaDoor
