/- A log on a whole disk, plainly: what an Append comes to. -/
import Derived.Test.YtkghkpkiodghiaaWal3
namespace Go.Proofs.Ytkghkpkiodghiaa
set_option linter.unusedVariables false
set_option linter.unusedSimpArgs false
set_option linter.unnecessarySimpa false

/-- A disk of which no power goes, with a log's records. -/
structure LogS (S : PD) (L : Int) (rs : List (List UInt8)) : Prop where
  dead : S.dead = false
  left : S.left = -1
  n1 : S.n1 = []
  n0 : S.n0 = frames (bods 0 rs)
  lim : S.lim = L
  room : (S.n0.length : Int) ≤ L
theorem LogS.new (L : Int) (h : 0 ≤ L) : LogS ⟨[], [], false, [], [], false, L, -1, false⟩ L [] := ⟨rfl, rfl, rfl, rfl, rfl, by simpa using h⟩
theorem wapp_log (S : PD) (L : Int) (rs : List (List UInt8)) (b : List UInt8) (h : LogS S L rs) :
    ∃ S' n' e, S.wapp rs.length b = (S', n', e) ∧ ((e = 0 ∧ n' = rs.length + 1 ∧ LogS S' L (rs ++ [b])) ∨ (e = 8 ∧ n' = rs.length ∧ LogS S' L rs ∧ L < ((S.n0 ++ frameB (enc rs.length ++ b)).length : Int))) := by
  obtain ⟨f0, n0, r0, f1, n1, r1, lim, left, dead⟩ := S
  obtain ⟨h1, h2, h3, h4, h5, h6⟩ := h
  simp only at h1 h2 h3 h4 h5 h6
  subst h1 h2 h3 h5
  by_cases hf : lim - ((n0.length : Nat) : Int) < ((frameB (enc rs.length ++ b)).length : Int)
  · have hw : (PD.mk f0 n0 r0 f1 [] r1 lim (-1) false).write 0 (frameB (enc rs.length ++ b)) = (⟨f0, n0, r0, f1, [], r1, lim, -1, false⟩, 8) := by
      unfold PD.write PD.tot
      rw [if_neg (by simp), if_neg (by omega), if_pos (by simpa using hf)]
      rfl
    refine ⟨_, _, _, by unfold PD.wapp; rw [hw]; rfl, Or.inr ⟨rfl, rfl, ⟨rfl, rfl, rfl, h4, rfl, h6⟩, ?_⟩⟩
    simp only [List.length_append]
    omega
  · have hw : (PD.mk f0 n0 r0 f1 [] r1 lim (-1) false).write 0 (frameB (enc rs.length ++ b)) = (⟨f0, n0 ++ frameB (enc rs.length ++ b), r0, f1, [], r1, lim, -1, false⟩, 0) := by
      unfold PD.write PD.tot
      rw [if_neg (by simp), if_neg (by omega), if_neg (by simpa using hf), if_pos rfl]
      rfl
    have hs : (PD.mk f0 (n0 ++ frameB (enc rs.length ++ b)) r0 f1 [] r1 lim (-1) false).sync 0 = (⟨n0 ++ frameB (enc rs.length ++ b), n0 ++ frameB (enc rs.length ++ b), false, f1, [], r1, lim, -1, false⟩, 0) := by
      unfold PD.sync
      rw [if_neg (by simp), if_neg (by omega), if_pos rfl]
      rfl
    refine ⟨_, _, _, by unfold PD.wapp; rw [hw]; simp only [hs]; rfl, Or.inl ⟨rfl, rfl, rfl, rfl, rfl, ?_, rfl, ?_⟩⟩
    · show n0 ++ _ = _
      rw [log_snoc, h4]
    · show ((n0 ++ _ : List UInt8).length : Int) ≤ lim
      rw [List.length_append]; omega
end Go.Proofs.Ytkghkpkiodghiaa
