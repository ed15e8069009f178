/- Frames: Size, the living call, the laws' small and put, the law FrameSizes. -/
import Derived.Test.YtkghkpkiodghiaaFrm
import Derived.Test.YtkghkpkiodghiaaOpenBss
namespace Go.Proofs.Ytkghkpkiodghiaa
set_option linter.unusedVariables false
set_option linter.unusedSimpArgs false
set_option linter.unnecessarySimpa false
open Go.RowKit
set_option maxRecDepth 100000
set_option maxHeartbeats 4000000

def sizeF (n : Int) : Int := if n < 0 ∨ 1048576 < n then 0 else (nsize n.toNat : Int) + n + 4
theorem sizeF_of (d : List UInt8) (h : d.length ≤ 1048576) : sizeF (d.length : Int) = ((frameB d).length : Int) := by
  unfold sizeF
  rw [if_neg (by omega), frameB_length d h, Int.toNat_natCast]
  omega
theorem Sizef_any (n : Int) (w : World) : Calls Try.prog 42 #[.int .i64 n] w fun e w' => e = .returned (.int .i64 (sizeF n)) ∧ w' = w := by
  by_cases h0 : n < 0
  · have he : sizeF n = 0 := by unfold sizeF; rw [if_pos (.inl h0)]
    rw [he]
    go_enter Try.func42, Try.ntmps42
    go_wp2_with fail
    go_ret
    exact ⟨rfl, rfl⟩
  · by_cases h1 : 1048576 < n
    · have he : sizeF n = 0 := by unfold sizeF; rw [if_pos (.inr h1)]
      rw [he]
      go_enter Try.func42, Try.ntmps42
      go_wp2_with fail
      go_ret
      exact ⟨rfl, rfl⟩
    · have he : sizeF n = (nsize n.toNat : Int) + n + 4 := by unfold sizeF; rw [if_neg (by omega)]
      have hw := IntWalk.u64_in n ⟨by omega, by omega⟩
      have hns := nsize_le n.toNat
      have h0' : 0 ≤ n := by omega
      rw [he]
      clear he
      go_enter Try.func42, Try.ntmps42
      go_wp2_with (go_at_call 57; refine (size_any n h0' _).mono ?_; rintro e w1 ⟨rfl, rfl⟩)
      go_ret
      exact ⟨rfl, rfl⟩
def totB (Ls : List (List UInt8)) : Nat := (Ls.map List.length).sum
theorem totB_take (Ls : List (List UInt8)) (j : Nat) (hj : j < Ls.length) : totB (Ls.take (j + 1)) = totB (Ls.take j) + (Ls.getD j []).length := by
  unfold totB
  rw [List.take_add_one, List.getElem?_eq_getElem hj]
  rw [List.map_append, List.sum_append]
  simp [List.getD, List.getElem?_eq_getElem hj]
theorem totB_le (Ls : List (List UInt8)) (j : Nat) : totB (Ls.take j) ≤ totB Ls := by
  have : totB Ls = totB (Ls.take j) + totB (Ls.drop j) := by
    unfold totB
    rw [← List.sum_append, ← List.map_append, List.take_append_drop]
  omega
theorem totB_get (Ls : List (List UInt8)) (j : Nat) (hj : j < Ls.length) : (Ls.getD j []).length ≤ totB Ls := by
  have h1 := totB_take Ls j hj
  have h2 := totB_le Ls (j + 1)
  omega
def SmallR (Ls : List (List UInt8)) (r : Bool) : Prop := r = true → totB Ls ≤ 20000 ∧ Ls.length ≤ 200
/-- What 'small' hands back. -/
def SmallE (Ls : List (List UInt8)) (e : Ending) : Prop := ∃ r, e = .returned (.bool r) ∧ SmallR Ls r
def frames (Ls : List (List UInt8)) : List UInt8 := Ls.flatMap frameB
theorem frames_take (Ls : List (List UInt8)) (j : Nat) (hj : j < Ls.length) : frames (Ls.take (j + 1)) = frames (Ls.take j) ++ frameB (Ls.getD j []) := by
  unfold frames
  rw [List.take_add_one, List.getElem?_eq_getElem hj]
  rw [List.flatMap_append]
  simp [List.getD, List.getElem?_eq_getElem hj]
theorem frames_length (Ls : List (List UInt8)) (h : ∀ i, i < Ls.length → (Ls.getD i []).length ≤ 1048576) : ∀ j, j ≤ Ls.length → (frames (Ls.take j)).length ≤ totB (Ls.take j) + 12 * j
  | 0, _ => by simp [frames, totB]
  | j + 1, hj => by
    have h1 := frames_length Ls h j (by omega)
    have h2 := frameB_length _ (h j (by omega))
    have h3 := nsize_le (Ls.getD j []).length
    rw [frames_take Ls j hj, totB_take Ls j hj, List.length_append]
    omega
end Go.Proofs.Ytkghkpkiodghiaa
