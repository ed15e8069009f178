/- Frames: the document's Put, the law FramePuts. -/
import Derived.Test.YtkghkpkiodghiaaFrm
import Derived.Test.YtkghkpkiodghiaaCrc2
import Derived.Test.YtkghkpkiodghiaaPfxRef
namespace Go.Proofs.Ytkghkpkiodghiaa
set_option linter.unusedVariables false
set_option linter.unusedSimpArgs false
set_option linter.unnecessarySimpa false
open Go.RowKit
set_option maxRecDepth 100000
set_option maxHeartbeats 4000000

theorem Own.under {w w' : World} {base e N : Nat} {v : Value} {l : List UInt8} (h : Own w base e v l) (hb : Below N w w') (hlt : ∀ k, v.ownBlock = some k → k < N) : Own w' base e v l := by
 obtain ⟨h1, h2⟩ := h
 refine ⟨h1, ?_⟩
 rcases h2 with hn | ⟨g, cap, cur, rfl, hb0, hg, rest⟩
 ·exact .inl hn
 ·exact .inr ⟨g, cap, cur, rfl, hb0, (hb.block g (hlt g rfl)).trans hg, rest⟩
theorem refPutf_any (v dv : Value) (b d : List UInt8) (w : World) (h : Sh w v b) (hd : Sh w dv d) (hl : b.length + d.length + 100 ≤ 140737488355328) (hs : d.length ≤ 1048576) :
  Calls Try.prog 67 #[v, dv] w fun e w' => ∃ v', e = .returned (.tuple #[v', .int .i64 0]) ∧ Sh w' v' (b ++ frameB d) ∧ Below w.heap.size w w' := by
 obtain ⟨x, cap, rfl, g1, g2, g3, g4⟩ := hd.open
 have HD := Lib.hid g4
 have H := Lib.hid h
 clear g3 g4 hd h
 have hI : ¬ 1048576 < (d.length : Int) := by omega
 have hu : IntKind.u64.wrap (d.length : Int) = (d.length : Int) := IntWalk.u64_in _ ⟨by omega, by omega⟩
 have HFL := Lib.hid (fB_length d hs)
 have HNS := Lib.hid (nsize_le d.length)
 have HEL := Lib.hid (enc_length d.length (by omega))
 have hsm := onL_lt 4294967295 (by omega) (fB d)
 have HFB := Lib.hid (show frameB d = fB d ++ sumB (onL 4294967295 (fB d)) from rfl)
 have HF := Lib.hid (show fB d = enc d.length ++ d from rfl)
 go_enter Try.func67, Try.ntmps67
 go_upto_region 4 with (at_builtin; refine app_bytes (base := w.heap.size) Try.underlying27 info_byte rfl (.tmp 9) (.tmp 10) rfl (l := []) rfl (Own.lit w 5 []) rfl (H.out.below (balloc (Below.refl _ _) _)) (by simp; omega) (by simp) ?_; intro v1 w1 ho1 hb1)
 have B1 := Lib.hid ((balloc (Below.refl w.heap.size w) (.cells #[] 5)).trans hb1)
 have O1 := Lib.hid (show Own w1 w.heap.size 5 v1 b from by simpa using ho1)
 have HV := Lib.hid ho1.lt
 have s1 := B1.out.size
 clear ho1 hb1
 go_wp2_with (first
  | (go_at_call 66; refine (refPut_any _ [] d.length _ (Own.lit w1 5 []).sh (by simp) (by omega)).mono ?_; rintro e w2 ⟨v2, rfl, ho2, hb2⟩; have s2 := hb2.size; simp at s2; have b2 := (balloc (Below.refl w1.heap.size w1) (.cells #[] 5)).trans (hb2.mono (by simp)); have O2 := Lib.hid (show Own w2 w1.heap.size 5 v2 (enc d.length) from by simpa using ho2.mono (by simp)); clear ho2 hb2)
  | (at_builtin; refine app_bytes (base := w1.heap.size) Try.underlying27 info_byte rfl (.tmp 24) (.tmp 25) rfl rfl O2.out rfl ((HD.out.at' B1.out (Nat.le_refl _)).below b2) (by have := HEL.out; have := HNS.out; omega) (by omega) ?_; intro v3 w3 ho3 hb3; have s3 := hb3.size; have O3 := Lib.hid (show Own w3 w1.heap.size 5 v3 (fB d) from by rw [HF.out]; exact ho3); clear ho3)
  | (go_at_call 73; refine (refSum_any v3 (fB d) _ O3.out.sh).mono ?_; rintro e w4 ⟨rfl, rfl⟩)
  | (go_at_call 72; refine (refBytes_any _ hsm _).mono ?_; rintro e w5 ⟨v5, rfl, ho5, hb5⟩; have s5 := hb5.size)
  | (at_builtin; refine app_bytes (base := w1.heap.size) Try.underlying27 info_byte rfl (.tmp 27) (.tmp 30) rfl rfl (O3.out.below hb5) rfl ho5.sh (by have := HFL.out; have := HNS.out; simp [sumB]; omega) (by omega) ?_; intro v6 w6 ho6 hb6; have s6 := hb6.size)
  | (at_builtin; refine app_bytes (base := w.heap.size) Try.underlying27 info_byte rfl (.tmp 32) (.tmp 33) rfl rfl (O1.out.under (((b2.trans hb3).trans (hb5.mono (by omega))).trans hb6) HV.out) rfl ho6.sh (by have := HFL.out; have := HNS.out; simp [sumB]; omega) (by omega) ?_; intro v7 w7 ho7 hb7))
 go_ret2
 refine ⟨v7, rfl, ?_, ?_⟩
 ·rw [HFB.out]; exact ho7.sh
 ·exact (B1.out.trans ((((b2.trans hb3).trans (hb5.mono (by omega))).trans hb6).mono s1)).trans hb7
end Go.Proofs.Ytkghkpkiodghiaa
