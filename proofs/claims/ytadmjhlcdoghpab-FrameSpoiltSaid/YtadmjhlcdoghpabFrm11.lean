/- Frames: bits of others: the plain part, and a byte that is set. -/
import Derived.Test.YtadmjhlcdoghpabFrmQ
import Derived.Test.YtadmjhlcdoghpabFrm10
import Derived.Test.YtadmjhlcdoghpabPfxRef
namespace Go.Proofs.Ytadmjhlcdoghpab
set_option linter.unusedVariables false
set_option linter.unusedSimpArgs false
set_option linter.unnecessarySimpa false
open Go.RowKit
set_option maxRecDepth 100000
set_option maxHeartbeats 4000000

def X0B (d : List UInt8) : List UInt8 := d ++ sumB (onL 4294967295 (fB d))
theorem X0B_length (d : List UInt8) : (X0B d).length = d.length + 4 := by unfold X0B; rw [List.length_append]; rfl
/-- Frames of which one has X behind its number. -/
def spl (A : List (List UInt8)) (d r X : List UInt8) : List UInt8 := frames A ++ (enc d.length ++ X ++ r)
theorem spl_length (A : List (List UInt8)) (d r X : List UInt8) (hd : d.length ≤ 1048576) : (spl A d r X).length = (frames A).length + nsize d.length + X.length + r.length := by
  unfold spl
  rw [List.length_append, List.length_append, List.length_append, enc_length d.length (by omega)]; omega
theorem spl_get (A : List (List UInt8)) (d r X : List UInt8) (hd : d.length ≤ 1048576) (p : Nat) (hp : p < X.length) : (spl A d r X).getD ((frames A).length + nsize d.length + p) 0 = X.getD p 0 := by
  have he := enc_length d.length (by omega)
  unfold spl
  rw [List.getD, List.getD, List.getElem?_append_right (by omega), List.append_assoc, List.getElem?_append_right (by omega), List.getElem?_append_left (by omega)]
  congr 2; omega
theorem spl_set (A : List (List UInt8)) (d r X : List UInt8) (hd : d.length ≤ 1048576) (p : Nat) (hp : p < X.length) (y : UInt8) : (spl A d r X).set ((frames A).length + nsize d.length + p) y = spl A d r (X.set p y) := by
  have he := enc_length d.length (by omega)
  unfold spl
  rw [List.set_append_right _ _ (by omega), List.append_assoc, List.set_append_right _ _ (by omega), List.set_append_left _ _ (by omega), List.append_assoc]
  congr 4; omega
theorem frames_split (Ls : List (List UInt8)) : ∀ K, K < Ls.length → frames Ls = spl (Ls.take K) (Ls.getD K []) (frames (Ls.drop (K + 1))) (X0B (Ls.getD K [])) := by
  induction Ls with
  | nil => intro K h; simp at h
  | cons d Ls ih =>
    intro K h
    cases K with
    | zero =>
      rw [frames_cons]
      show frameB d ++ frames Ls = [] ++ (enc d.length ++ (d ++ sumB _) ++ frames Ls)
      rw [frameB_eq]; rfl
    | succ K =>
      rw [frames_cons, ih K (by simpa using h)]
      show _ = spl (d :: Ls.take K) (Ls.getD K []) (frames (Ls.drop (K + 1))) (X0B (Ls.getD K []))
      unfold spl
      rw [frames_cons]
      exact (List.append_assoc _ _ _).symm
theorem ownRow_of {w : World} {base e : Nat} {v : Value} {l : List UInt8} (h : Own w base e v l) (hl : 0 < l.length) : ∃ g cap, v = .slice (some ⟨g, 0, none⟩) l.length cap ∧ base ≤ g ∧ l.length ≤ cap ∧ cap ≤ maxLen := by
  rcases h.2 with ⟨h', h2⟩ | ⟨g, cap, cur, h', hb, hg, hnc, hcm, _⟩
  · omega
  · exact ⟨g, cap, h', hb, hnc, hcm⟩
theorem bytes_set (l : List UInt8) (j : Nat) (y : UInt8) : (bytes l).set j (.int .u8 y.toNat) = bytes (l.set j y) := by
  unfold bytes; rw [List.map_set]
theorem ownStored {w : World} {base e g cap : Nat} {l : List UInt8} (h : Own w base e (.slice (some ⟨g, 0, none⟩) l.length cap) l) (j : Nat) (y : UInt8) : Own (w.setCell ⟨g, j, none⟩ (.int .u8 y.toNat)) base e (.slice (some ⟨g, 0, none⟩) l.length cap) (l.set j y) := by
  have := (World.ownsRow.stored h j (.int .u8 y.toNat)).1
  rw [bytes_set] at this
  unfold Own
  rw [List.length_set]
  exact this
theorem ownByte {w : World} {base e g cap : Nat} {l : List UInt8} (h : Own w base e (.slice (some ⟨g, 0, none⟩) l.length cap) l) (j : Nat) (hj : j < l.length) : w.cell? ⟨g, j, none⟩ = some (.int .u8 ((l.getD j 0).toNat : Int)) := by
  rw [World.ownsRow.cellAt h j (by omega)]
  simp [bytes, List.getD, List.getElem?_eq_getElem hj]
theorem ownNotFrozen {w : World} {base e g cap : Nat} {l : List UInt8} (h : Own w base e (.slice (some ⟨g, 0, none⟩) l.length cap) l) (j : Nat) : w.frozen? ⟨g, j, none⟩ = false := World.ownsRow.frozenAt h j
/-- A bit of a byte is another. -/
theorem flip_u8 (x : UInt8) (r : Nat) (hr : r < 8) : ((x ^^^ UInt8.ofNat (2 ^ (7 - r))).toNat : Int) = bits .xor .u8 (x.toNat : Int) ((2 ^ (7 - r) : Nat) : Int) := by
  have h1 : 2 ^ (7 - r) < 256 := by
    have : 2 ^ (7 - r) ≤ 2 ^ 7 := Nat.pow_le_pow_right (by omega) (by omega)
    omega
  rw [xor8 _ _ x.toNat_lt h1, u8_xor, UInt8.toNat_ofNat', Nat.mod_eq_of_lt (by omega)]
theorem two_of {A : List Int} (h : A.length = 2) : ∃ x y, A = [x, y] := by
  match A, h with
  | [x, y], _ => exact ⟨x, y, rfl⟩
theorem div128 (r : Nat) (hr : r < 8) : (128 : Int) / 2 ^ r = ((2 ^ (7 - r) : Nat) : Int) := by
  have : r = 0 ∨ r = 1 ∨ r = 2 ∨ r = 3 ∨ r = 4 ∨ r = 5 ∨ r = 6 ∨ r = 7 := by omega
  rcases this with rfl | rfl | rfl | rfl | rfl | rfl | rfl | rfl <;> decide
theorem pow_u8 (r : Nat) : (UInt8.ofNat (2 ^ (7 - r))).toNat = 2 ^ (7 - r) := by
  have h1 : 2 ^ (7 - r) < 256 := by
    have : 2 ^ (7 - r) ≤ 2 ^ 7 := Nat.pow_le_pow_right (by omega) (by omega)
    omega
  rw [UInt8.toNat_ofNat', Nat.mod_eq_of_lt (by omega)]
theorem spl_pack (Ls : List (List UInt8)) (ht : totB Ls ≤ 20000) (K : Nat) (hK : K < Ls.length) : ∃ (SP : List UInt8 → List UInt8) (s0 : Nat) (X0 : List UInt8),
    frames Ls = SP X0 ∧ X0.length = (Ls.getD K []).length + 4 ∧ (∀ X, X.length = X0.length → (SP X).length = (frames Ls).length) ∧
    (∀ X p, p < X.length → (SP X).getD ((frames (Ls.take K)).length + nsize (Ls.getD K []).length + p) 0 = X.getD p 0) ∧
    (∀ X p y, p < X.length → (SP X).set ((frames (Ls.take K)).length + nsize (Ls.getD K []).length + p) y = SP (X.set p y)) ∧
    (∀ first i u X, i ≤ 32 → Burst s0 X0 first i u X → u ≠ 0 → scF ((SP X).length + 1) (SP X) = (Ls.take K, (frames (Ls.take K)).length, 50)) ∧
    scF ((SP X0).length + 1) (SP X0) = (Ls, (frames Ls).length, 0) ∧
    (frames (Ls.take K)).length + nsize (Ls.getD K []).length + ((Ls.getD K []).length + 4) ≤ (frames Ls).length := by
  have hal := all_le Ls ht
  have hdl : (Ls.getD K []).length ≤ 1048576 := by have := totB_get Ls K hK; omega
  have hsp := frames_split Ls K hK
  have hx := X0B_length (Ls.getD K [])
  have hl0 := spl_length (Ls.take K) (Ls.getD K []) (frames (Ls.drop (K + 1))) (X0B (Ls.getD K [])) hdl
  refine ⟨spl (Ls.take K) (Ls.getD K []) (frames (Ls.drop (K + 1))), byteL 4294967295 (enc (Ls.getD K []).length), X0B (Ls.getD K []), hsp, hx, ?_, fun X p hp => spl_get _ _ _ X hdl p hp, fun X p y hp => spl_set _ _ _ X hdl p hp y, ?_, ?_, ?_⟩
  · intro X hX
    rw [hsp, hl0, spl_length _ _ _ X hdl, hX]
  · intro first i u X hi hb hu
    exact scF_bad (Ls.take K) (Ls.getD K []) (frames (Ls.drop (K + 1))) X first i u (fun x hx => hal x (List.mem_of_mem_take hx)) hdl hi hb hu
  · rw [← hsp]; exact scF_all Ls hal
  · rw [hsp, hl0, hx]; omega
end Go.Proofs.Ytadmjhlcdoghpab
