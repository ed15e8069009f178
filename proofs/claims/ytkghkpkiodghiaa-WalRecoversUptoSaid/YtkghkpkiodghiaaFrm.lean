/- Frames: Put, Size, the living call. -/
import Derived.Test.YtkghkpkiodghiaaCrc
import Derived.Test.YtkghkpkiodghiaaPfxS
import Derived.Test.YtkghkpkiodghiaaKept
namespace Go.Proofs.Ytkghkpkiodghiaa
set_option linter.unusedVariables false
set_option linter.unusedSimpArgs false
set_option linter.unnecessarySimpa false
open Go.RowKit
set_option maxRecDepth 100000
set_option maxHeartbeats 4000000

/-- What a frame's sum is of, and a frame. -/
def fB (d : List UInt8) : List UInt8 := enc d.length ++ d
def frameB (d : List UInt8) : List UInt8 := fB d ++ sumB (onL 4294967295 (fB d))
theorem fB_length (d : List UInt8) (h : d.length ≤ 1048576) : (fB d).length = nsize d.length + d.length := by
  unfold fB; rw [List.length_append, enc_length _ (by omega)]
theorem frameB_length (d : List UInt8) (h : d.length ≤ 1048576) : (frameB d).length = nsize d.length + d.length + 4 := by
  unfold frameB; rw [List.length_append, fB_length d h]; rfl
theorem Putf_long (v dv : Value) (b d : List UInt8) (w : World) (h : Sh w v b) (hd : Sh w dv d) (hl : b.length ≤ 140737488355328) (hlong : 1048576 < d.length) :
    Calls Try.prog 46 #[v, dv] w fun e w' => ∃ v', e = .returned (.tuple #[v', .int .i64 2]) ∧ Own w' w.heap.size 5 v' b ∧ Below w.heap.size w w' := by
  obtain ⟨x, cap, rfl, g1, g2, g3, g4⟩ := hd.open
  clear g3 g4 hd
  have hI : 1048576 < (d.length : Int) := by omega
  go_enter Try.func46, Try.ntmps46
  go_wp2_with (go_at_call 37; refine (clone_any v b _ h hl).mono ?_; rintro e w1 ⟨v1, rfl, ho1, hb1⟩)
  go_ret2
  exact ⟨v1, rfl, ho1, hb1⟩
theorem Putf_any (v dv : Value) (b d : List UInt8) (w : World) (h : Sh w v b) (hd : Sh w dv d) (hl : b.length + d.length + 100 ≤ 140737488355328) (hs : d.length ≤ 1048576) :
    Calls Try.prog 46 #[v, dv] w fun e w' => ∃ v', e = .returned (.tuple #[v', .int .i64 0]) ∧ Own w' w.heap.size 5 v' (b ++ frameB d) ∧ Below w.heap.size w w' := by
  obtain ⟨x, cap, rfl, g1, g2, g3, g4⟩ := hd.open
  have HD := Lib.hid g4
  clear g3 g4 hd
  have hI : ¬ 1048576 < (d.length : Int) := by omega
  have hfl := fB_length d hs
  have hns := nsize_le d.length
  have HFL := Lib.hid hfl
  have HNS := Lib.hid hns
  have hsm := onL_lt 4294967295 (by omega) (fB d)
  have HFB := Lib.hid (show frameB d = fB d ++ sumB (onL 4294967295 (fB d)) from rfl)
  have HF := Lib.hid (show fB d = enc d.length ++ d from rfl)
  clear hfl hns
  go_enter Try.func46, Try.ntmps46
  go_upto_region 4 with (go_at_call 37; refine (clone_any v b _ h (by omega)).mono ?_; rintro e w1 ⟨v1, rfl, ho1, hb1⟩; have hcv := conv_run (HD.out.below hb1))
  have s1 := hb1.size
  have HV := Lib.hid ho1.lt
  have O1 := Lib.hid ho1
  have B1 := Lib.hid hb1
  clear ho1 hb1
  go_wp2_with (first
    | (go_at_call 60; refine (PutText_any _ [] ⟨d.toArray⟩ _ (Sh.nil _) (by simp [ByteArray.size]; omega)).mono ?_; rintro e w2 ⟨v2, rfl, ho2, hb2⟩; have O2 := Lib.hid (show Own w2 w1.heap.size 5 v2 (fB d) from by simpa [fB, ByteArray.size] using ho2); have s2 := hb2.size; clear ho2)
    | (at_builtin; refine app_bytes_row (base := w.heap.size) Try.underlying27 info_byte rfl (.tmp 16) (.tmp 17) rfl rfl (O1.out.below hb2) rfl O2.out.sh (by have := HFL.out; have := HNS.out; omega) (by omega) ?_; intro v3 w3 ho3 hb3 hg3; have O3 := Lib.hid ho3; have N3 := Lib.hid (Own.kept O2.out hg3 HV.out); have s3 := hb3.size; clear ho3 hg3)
    | (go_at_call 62; refine (Sum_any v2 (fB d) _ N3.out.sh).mono ?_; rintro e w4 ⟨rfl, hb4⟩; have s4 := hb4.size)
    | (go_at_call 61; refine (Bytes_any _ hsm _).mono ?_; rintro e w5 ⟨v5, rfl, ho5, hb5⟩; have s5 := hb5.size)
    | (at_builtin; refine app_bytes (base := w.heap.size) Try.underlying27 info_byte rfl (.tmp 18) (.tmp 21) rfl rfl ((O3.out.below hb4).below hb5) rfl ho5.sh (by have := HFL.out; have := HNS.out; simp [sumB]; omega) (by omega) ?_; intro v6 w6 ho6 hb6))
  go_ret2
  refine ⟨v6, rfl, ?_, ?_⟩
  · rw [HFB.out, ← List.append_assoc]; exact ho6
  · exact ((B1.out.trans (hb2.mono s1)).trans hb3).trans ((hb4.mono (by omega)).trans ((hb5.mono (by omega)).trans hb6))
end Go.Proofs.Ytkghkpkiodghiaa
