
import Derived.Test.YtkghkpkiodghiaaPfxRef
namespace Go.Proofs.Ytkghkpkiodghiaa
set_option linter.unusedVariables false
set_option linter.unusedSimpArgs false
set_option linter.unnecessarySimpa false
open Go.RowKit
set_option maxRecDepth 20000

theorem refTake_nil (v : Value) (w : World) (h : Sh w v []) :
    Calls Try.prog 48 #[v] w fun e w' => e = .returned (.tuple #[.int .u64 0, .int .i64 0, .int .i64 3]) ∧ w = w' := by
  obtain ⟨x, cap, rfl, h1, h2, h3, h4⟩ := h.open
  go_enter Try.func48, Try.ntmps48
  go_wp2
  go_ret3
  exact ⟨rfl, rfl⟩

theorem refTake_short (v : Value) (c : UInt8) (r : List UInt8) (w : World) (h : Sh w v (c :: r)) (hs : r.length + 1 < 2 ^ (c.toNat / 64)) :
    Calls Try.prog 48 #[v] w fun e w' => e = .returned (.tuple #[.int .u64 0, .int .i64 0, .int .i64 3]) ∧ w = w' := by
  obtain ⟨x, cap, rfl, h1, h2, h3, h4⟩ := h.open
  obtain ⟨b, off, rfl, hc⟩ := h4.cells (by simp)
  have h0 : w.cell? ⟨b, off, none⟩ = some (.int .u8 (c.toNat : Int)) := by simpa using hc 0 (by simp)
  have hlt : c.toNat < 256 := c.toNat_lt
  have hne : (((c :: r).length : Int) == 0) = false := by simp; omega
  clear h h3 h4 hc
  generalize hL : (c :: r).length = L at *
  have hL' : L < 2 ^ (c.toNat / 64) := by rw [← hL]; exact hs
  have hq : c.toNat / 64 = 0 ∨ c.toNat / 64 = 1 ∨ c.toNat / 64 = 2 ∨ c.toNat / 64 = 3 := by omega
  have hL1 : 1 ≤ L := by rw [← hL]; simp
  clear hs hL
  generalize hC : c.toNat = C at *
  rcases hq with hq | hq | hq | hq
  all_goals
    rw [hq] at hL'
    have hlo : (C / 64) * 64 ≤ C := by omega
    have hhi : C < (C / 64) * 64 + 64 := by omega
    rw [hq] at hlo hhi
    simp at hL'
    clear hq hC
    first
    | (exfalso; omega)
    | (go_enter Try.func48, Try.ntmps48
       go_wp2
       go_ret3
       exact ⟨rfl, rfl⟩)
theorem wrap_addc (a D : Nat) (h : a < 72057594037927936) (hD : D < 256) : IntKind.u64.wrap ((a : Int) * 256 + D) = ((a * 256 + D : Nat) : Int) := by
  rw [IntWalk.u64_in _ ⟨by omega, by omega⟩]; omega

theorem nsize_cls (n q : Nat) (h : n < 4611686018427387904) (hq : q ≤ 3) : nsize n = 2 ^ q ↔ cls n = (q : Int) := by
  unfold nsize cls
  have : q = 0 ∨ q = 1 ∨ q = 2 ∨ q = 3 := by omega
  rcases this with rfl | rfl | rfl | rfl
  all_goals
    constructor
    · intro h; revert h; repeat' split
      all_goals (intro h; first | omega | (simp at h))
    · intro h; revert h; repeat' split
      all_goals (intro h; first | omega | rfl | (simp at h))
end Go.Proofs.Ytkghkpkiodghiaa
