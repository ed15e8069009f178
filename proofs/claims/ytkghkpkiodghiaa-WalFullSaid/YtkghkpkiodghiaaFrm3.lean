/- Frames: the document's Put, the law FramePuts. -/
import Derived.Test.YtkghkpkiodghiaaFrm2
import Derived.Test.YtkghkpkiodghiaaCrc3
import Derived.Test.YtkghkpkiodghiaaPfxRef
namespace Go.Proofs.Ytkghkpkiodghiaa
set_option linter.unusedVariables false
set_option linter.unusedSimpArgs false
set_option linter.unnecessarySimpa false
open Go.RowKit
set_option maxRecDepth 100000
set_option maxHeartbeats 4000000

theorem Own.under {w w' : World} {base e N : Nat} {v : Value} {l : List UInt8} (h : Own w base e v l) (hb : Below N w w') (hlt : ∀ k, v.ownBlock = some k → k < N) : Own w' base e v l := by
  obtain ⟨h1, h2⟩ := h
  refine ⟨h1, ?_⟩
  rcases h2 with hn | ⟨g, cap, cur, rfl, hb0, hg, rest⟩
  · exact .inl hn
  · exact .inr ⟨g, cap, cur, rfl, hb0, (hb.block g (hlt g rfl)).trans hg, rest⟩
theorem refPutf_long (v dv : Value) (b d : List UInt8) (w : World) (h : Sh w v b) (hd : Sh w dv d) (hl : b.length ≤ 140737488355328) (hlong : 1048576 < d.length) :
    Calls Try.prog 67 #[v, dv] w fun e w' => ∃ v', e = .returned (.tuple #[v', .int .i64 2]) ∧ Sh w' v' b ∧ Below w.heap.size w w' := by
  obtain ⟨x, cap, rfl, g1, g2, g3, g4⟩ := hd.open
  have H := Lib.hid h
  clear g3 g4 hd h
  have hI : 1048576 < (d.length : Int) := by omega
  go_enter Try.func67, Try.ntmps67
  go_wp2_with (at_builtin; refine app_bytes (base := w.heap.size) Try.underlying27 info_byte rfl (.tmp 9) (.tmp 10) rfl (l := []) rfl (Own.lit w 5 []) rfl (H.out.below (balloc (Below.refl _ _) _)) (by simpa using hl) (by simp) ?_; intro v1 w1 ho1 hb1)
  go_ret2
  exact ⟨v1, rfl, by simpa using ho1.sh, (balloc (Below.refl _ _) _).trans hb1⟩
end Go.Proofs.Ytkghkpkiodghiaa
