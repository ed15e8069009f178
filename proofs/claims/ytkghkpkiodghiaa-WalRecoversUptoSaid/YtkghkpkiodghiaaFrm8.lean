/- Frames: the program's Take, the document's Scan, Same. -/
import Derived.Test.YtkghkpkiodghiaaFrm5
import Derived.Test.YtkghkpkiodghiaaFrm7
namespace Go.Proofs.Ytkghkpkiodghiaa
set_option linter.unusedVariables false
set_option linter.unusedSimpArgs false
set_option linter.unnecessarySimpa false
open Go.RowKit
set_option maxRecDepth 100000
set_option maxHeartbeats 4000000

theorem tkF_len (l : List UInt8) : (tkF l).1.length ≤ l.length := by
  rcases tk_cases l with ⟨e, ht, he⟩ | ⟨n, k, ht, hk1, hk2, hn⟩
  · have e1 : tkF l = ([], 0, e) := by unfold tkF; rw [ht, if_pos (by show e ≠ 0; omega)]
    rw [e1]; simp
  · unfold tkF
    rw [ht]
    split
    · simp
    · split
      · simp
      · split
        · simp
        · split
          · simp [List.length_take]; omega
          · simp
theorem Same_any (v1 v2 : Value) (L : List (List UInt8)) (w : World) (h1 : Bss w v1 L) (h2 : Bss w v2 L) :
    Calls Try.prog 29 #[v1, v2] w fun e w' => e = .returned (.bool true) ∧ Below w.heap.size w w' := by
  obtain ⟨a, cap, rfl, g1, g2, g3⟩ := h1.open
  obtain ⟨b, cap2, rfl, k1, k2, k3⟩ := h2.open
  have HS := Lib.hid h1
  have HT := Lib.hid h2
  clear h1 h2 g3 k3
  go_enter Try.func29, Try.ntmps29
  go_wp2_with fail
  go_loopw [5] (fun i wr => ∃ j : Nat, j ≤ L.length ∧ i = .int .i64 j ∧ Below w.heap.size w wr) (fun i _ => L.length - (intOf i).toNat)
  case atStart => exact ⟨0, by omega, rfl, Below.refl _ _⟩
  case round =>
    obtain ⟨j, hj, rfl, hb⟩ := hrel
    by_cases hlt : j < L.length
    · obtain ⟨b1, off1, rfl, -, hat1⟩ := HS.out.cells (by omega)
      obtain ⟨b2, off2, rfl, -, hat2⟩ := HT.out.cells (by omega)
      obtain ⟨u1, hu1, hs1⟩ := hat1 j hlt
      obtain ⟨u2, hu2, hs2⟩ := hat2 j hlt
      have hu1' := bcell hb hu1 (blt hu1)
      have hu2' := bcell hb hu2 (blt hu2)
      have hc1 : ∀ m, (convert 27 9 u1).run Try.prog (wr.drewN m) = .ok (.string ⟨(L.getD j []).toArray⟩) (wr.drewN m) := fun m => conv_run ((hs1.at' hb (Nat.le_refl _)).drewN m)
      have hc2 : ∀ m, (convert 27 9 u2).run Try.prog (wr.drewN m) = .ok (.string ⟨(L.getD j []).toArray⟩) (wr.drewN m) := fun m => conv_run ((hs2.at' hb (Nat.le_refl _)).drewN m)
      have hjI : (j : Int) < (L.length : Int) := by omega
      clear hat1 hat2 hu1 hu2 hs1 hs2
      generalize L.getD j [] = q at *
      go_wp2_with fail
      go_quiet (fail)
      clear hc1 hc2
      go_wp2_with fail
      exact ⟨⟨j + 1, by omega, by go_num, hb.trans ((drewN_below _ nq).mono hb.size)⟩, by simp [intOf]; omega⟩
    · obtain rfl : j = L.length := by omega
      go_wp2_with fail
      go_ret
      exact ⟨rfl, hb⟩
theorem BOs.lit0 (w : World) : BOs (w.alloc (.cells #[] 27)) w.heap.size (.slice (some { block := w.heap.size, off := 0 }) 0 0) [] := ⟨[], Own1.lit w 27 [], rfl, fun i hi => by simp at hi⟩
theorem scF_nil (f : Nat) (l : List UInt8) (h : l.length = 0) : scF f l = ([], 0, 0) := by
  cases f with
  | zero => rfl
  | succ f => show (if l.length = 0 then _ else _) = _; rw [if_pos h]
end Go.Proofs.Ytkghkpkiodghiaa
