/- The document's tree (ref21): Good; ref07.Ints; the law's before, on. -/
import Derived.Test.YtnhkbbladifmmaaDoorTre3
namespace Go.Proofs.YtnhkbbladifmmaaDoor
set_option linter.unusedVariables false
set_option linter.unusedSimpArgs false
set_option linter.unnecessarySimpa false
open Go.RowKit
open Tre (It)
set_option maxRecDepth 100000
set_option maxHeartbeats 4000000

theorem rgood_any (v : Value) (P : List Int) (w : World) (hs : Ns w v P) :
    Calls Tryd.prog 23 #[v] w fun e w' => e = .returned (.bool (goodP P)) ∧ w' = w := by
  obtain ⟨xa, ca, rfl, hc1, hc2, -, -⟩ := hs.open
  have HS := Lib.hid hs
  clear hs
  go_enter Tryd.func23, Tryd.ntmps23
  go_wp2_with fail
  go_loopw [3] (fun iv wr => ∃ j : Nat, j ≤ P.length ∧ iv = .int .i64 j ∧ (∀ k, k < j → badN (P.getD k 0) = false) ∧ wr = w) (fun iv _ => P.length - (intOf iv).toNat)
  case atStart => exact ⟨0, Nat.zero_le _, rfl, (fun k hk => by omega), rfl⟩
  case round =>
    obtain ⟨j, hj, rfl, h1, hw⟩ := hrel
    have H1 := Lib.hid h1
    subst hw
    clear h1
    by_cases hlt : j < P.length
    · have hltI : (j : Int) < (P.length : Int) := by omega
      obtain ⟨b, off, rfl, hat⟩ := HS.out.at (by omega)
      have hc := hat j hlt
      obtain ⟨n, hn⟩ : ∃ n, P.getD j 0 = n := ⟨_, rfl⟩
      rw [hn] at hc
      have HN := Lib.hid hn
      clear hat hn
      have hgo : badN n = true → Hid (goodP P = false) := fun hb => by
        show _ = _
        unfold goodP
        have : P.any badN = true := by
          rw [List.any_eq_true]
          refine ⟨P[j], List.getElem_mem hlt, ?_⟩
          have := HN.out
          simp [List.getD, List.getElem?_eq_getElem hlt] at this
          rw [this]; exact hb
        simp [this]
      by_cases h0 : n < 0
      · have HG := hgo (by simp [badN, h0])
        clear hgo
        go_wp2_with fail
        go_ret
        exact ⟨by rw [HG.out]; rfl, rfl⟩
      · by_cases h3 : 3 < n
        · have HG := hgo (by simp [badN]; omega)
          clear hgo
          go_wp2_with fail
          go_ret
          exact ⟨by rw [HG.out]; rfl, rfl⟩
        · have HB : Hid (badN n = false) := by show _ = _; simp [badN]; omega
          clear hgo
          go_wp2_with fail
          refine ⟨⟨j + 1, by omega, by go_num, fun k hk => ?_, by trivial⟩, by simp [intOf]; omega⟩
          rcases Nat.lt_or_ge k j with h | h
          · exact H1.out k h
          · rw [show k = j by omega, HN.out]; exact HB.out
    · have hjl : j = P.length := by omega
      have hnI : ¬ (j : Int) < (P.length : Int) := by omega
      have HG : Hid (goodP P = decide ((P.length : Int) ≤ 2)) := by
        show _ = _
        have : P.any badN = false := by
          rw [List.any_eq_false]
          intro x hx
          obtain ⟨k, hk, rfl⟩ := List.mem_iff_getElem.1 hx
          have := H1.out k (by omega)
          simpa [List.getD, List.getElem?_eq_getElem hk] using this
        unfold goodP
        rw [this]
        simp
        omega
      clear hjl hlt hj
      go_wp2_with fail
      go_ret
      exact ⟨by rw [HG.out]; rfl, rfl⟩
theorem ints_any (v u : Value) (P Q : List Int) (w : World) (hs : Ns w v P) (hu : Ns w u Q) :
    Calls Tryd.prog 18 #[v, u] w fun e w' => e = .returned (.bool (P == Q)) ∧ Below w.heap.size w w' := by
  obtain ⟨xa, ca, rfl, hc1, hc2, -, -⟩ := hs.open
  obtain ⟨xb, cb, rfl, hd1, hd2, -, -⟩ := hu.open
  have HS := Lib.hid hs
  have HU := Lib.hid hu
  clear hs hu
  go_enter Tryd.func18, Tryd.ntmps18
  by_cases hl : P.length = Q.length
  · have hlI : (P.length : Int) = (Q.length : Int) := by omega
    have hlb : ((P.length : Int) != (Q.length : Int)) = false := by rw [bne_eq_false_iff_eq]; exact hlI
    have HLL := Lib.hid hl
    rw [← hl] at HU ⊢
    have hlb2 : ((P.length : Int) != (P.length : Int)) = false := by simp
    clear hlI hlb hl
    go_wp2_with fail
    go_loopw [5] (fun iv wr => ∃ j : Nat, j ≤ P.length ∧ iv = .int .i64 j ∧ (∀ k, k < j → P.getD k 0 = Q.getD k 0) ∧ Below w.heap.size w wr) (fun iv _ => P.length - (intOf iv).toNat)
    case atStart => exact ⟨0, Nat.zero_le _, rfl, (fun k hk => by omega), Below.refl _ _⟩
    case round =>
      obtain ⟨j, hj, rfl, h1, hb⟩ := hrel
      have H1 := Lib.hid h1
      have HB := Lib.hid hb
      clear h1 hb
      by_cases hlt : j < P.length
      · have hltI : (j : Int) < (P.length : Int) := by omega
        obtain ⟨b, off, rfl, hat⟩ := HS.out.at (by omega)
        obtain ⟨b2, off2, rfl, hat2⟩ := HU.out.at (by have := HLL.out; omega)
        have hc := bkeep HB.out (hat j hlt)
        have hd := bkeep HB.out (hat2 j (by have := HLL.out; omega))
        obtain ⟨m, hm⟩ : ∃ m, P.getD j 0 = m := ⟨_, rfl⟩
        obtain ⟨n, hn⟩ : ∃ n, Q.getD j 0 = n := ⟨_, rfl⟩
        rw [hm] at hc
        rw [hn] at hd
        have HM := Lib.hid hm
        have HN := Lib.hid hn
        clear hat hat2 hm hn
        by_cases he : m = n
        · have hnb : (m != n) = false := by rw [bne_eq_false_iff_eq]; exact he
          have HE := Lib.hid he
          clear he
          go_upto_region 6 with fail
          go_region
          go_wp2_with fail
          refine ⟨⟨j + 1, by omega, by go_num, fun k hk => ?_, HB.out.drew⟩, by simp [intOf]; omega⟩
          rcases Nat.lt_or_ge k j with h | h
          · exact H1.out k h
          · rw [show k = j by omega, HM.out, HN.out]; exact HE.out
        · have hnb : (m != n) = true := by rw [bne_iff_ne]; exact he
          have HE : Hid ((P == Q) = false) := by
            show _ = _
            rw [beq_eq_false_iff_ne]
            intro e
            apply he
            rw [← HM.out, ← HN.out, e]
          clear he
          go_upto_region 6 with fail
          go_region
          go_wp2_with fail
          go_ret
          exact ⟨by rw [HE.out]; rfl, HB.out.drew⟩
      · have hjl : j = P.length := by omega
        have hnI : ¬ (j : Int) < (P.length : Int) := by omega
        have HE : Hid ((P == Q) = true) := by
          show _ = _
          rw [beq_iff_eq]
          apply List.ext_getElem HLL.out
          intro k h1 h2
          have := H1.out k (by omega)
          simpa [List.getD, List.getElem?_eq_getElem h1, List.getElem?_eq_getElem h2] using this
        clear hjl hlt hj
        go_wp2_with fail
        go_ret
        exact ⟨by rw [HE.out]; rfl, HB.out⟩
  · have hlb : ((P.length : Int) != (Q.length : Int)) = true := by rw [bne_iff_ne]; omega
    have HE : Hid ((P == Q) = false) := by
      show _ = _
      rw [beq_eq_false_iff_ne]
      intro e; apply hl; rw [e]
    clear hl
    go_wp2_with fail
    go_ret
    exact ⟨by rw [HE.out]; rfl, Below.refl _ _⟩
end Go.Proofs.YtnhkbbladifmmaaDoor
