/- A log's bytes behind a crash, plainly: what stands behind whole frames is no frame. -/
import Derived.Test.YtkghkpkiodghiaaWalP
import Derived.Test.YtkghkpkiodghiaaFrm6
namespace Go.Proofs.Ytkghkpkiodghiaa
set_option linter.unusedVariables false
set_option linter.unusedSimpArgs false
set_option linter.unnecessarySimpa false

theorem tkF_sound (l : List UInt8) (h : (tkF l).2.2 = 0) : ∃ b, b.length ≤ 1048576 ∧ tkF l = (b, (frameB b).length, 0) ∧ ∃ r, l = frameB b ++ r := by
 rcases tk_cases l with ⟨e, ht, he⟩ | ⟨n, k, ht, hk1, hk2, hn⟩
 ·have e1 : tkF l = ([], 0, e) := by unfold tkF; rw [ht, if_pos (by show e ≠ 0; omega)]
  rw [e1] at h; simp at h; omega
 ·by_cases h1 : 1048576 < n
  ·have e1 : tkF l = ([], 0, 2) := by unfold tkF; rw [ht, if_neg (by simp), if_pos h1]
   rw [e1] at h; simp at h
  ·by_cases h2 : l.length - k < n + 4
   ·have e1 : tkF l = ([], 0, 3) := by unfold tkF; rw [ht, if_neg (by simp), if_neg h1, if_pos h2]
    rw [e1] at h; simp at h
   ·have e0 : tkF l = if goodB (l.take (k + n + 4)) = true then ((l.drop k).take n, k + n + 4, 0) else ([], 0, 50) := by unfold tkF; rw [ht, if_neg (by simp), if_neg h1, if_neg h2]
    cases hg : goodB (l.take (k + n + 4))
    ·rw [hg] at e0; rw [e0] at h; simp at h
    ·rw [hg] at e0
     rw [if_pos rfl] at e0
     have hbl : ((l.drop k).take n).length = n := by rw [List.length_take, List.length_drop]; omega
     have hen := enc_tk l n k ht
     have hks : nsize n = k := by rw [← enc_length n hn, hen, List.length_take]; omega
     have hfb : fB ((l.drop k).take n) = l.take (k + n) := by
      unfold fB
      rw [hbl, hen, List.take_add]
     have hl4 : (l.take (k + n + 4)).length = k + n + 4 := by rw [List.length_take]; omega
     rw [goodB_iff _ (by omega), hl4, Nat.add_sub_cancel, List.take_take, show min (k + n) (k + n + 4) = k + n by omega, ← hfb, decide_eq_true_eq] at hg
     have hfr : frameB ((l.drop k).take n) = l.take (k + n + 4) := by
      unfold frameB
      rw [← hg, hfb]
      have := List.take_append_drop (k + n) (l.take (k + n + 4))
      rw [List.take_take, show min (k + n) (k + n + 4) = k + n by omega] at this
      exact this
     refine ⟨(l.drop k).take n, by omega, ?_, l.drop (k + n + 4), ?_⟩
     ·rw [e0, hfr, hl4]
     ·rw [hfr, List.take_append_drop]
end Go.Proofs.Ytkghkpkiodghiaa
