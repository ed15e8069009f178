/- A log: its row, framed, Append. -/
import Derived.Test.YtkghkpkiodghiaaDsk2
import Derived.Test.YtkghkpkiodghiaaFrm
import Derived.Test.YtkghkpkiodghiaaPfxS
import Derived.Test.YtkghkpkiodghiaaFrm4
namespace Go.Proofs.Ytkghkpkiodghiaa
set_option linter.unusedVariables false
set_option linter.unusedSimpArgs false
set_option linter.unnecessarySimpa false
open Go.RowKit
set_option maxRecDepth 100000
set_option maxHeartbeats 4000000

/-- A log's row: its disk, the next number. -/
def WalR (w : World) (q p n : Nat) : Prop := Row w q 71 [.pointer (some ⟨p, 0, none⟩), .int .u64 (n : Int)]
/-- Two rows alone may be others. -/
def Upd2 (p q : Nat) (w w' : World) : Prop := ∃ v, Upd p w v ∧ Upd q v w'
theorem framed_any (q p n : Nat) (vb : Value) (b : List UInt8) (w : World) (hq : WalR w q p n) (hb : Sh w vb b) (hn : n < 4611686018427387904) (hl : b.length ≤ 1000000) :
  Calls Try.prog 27 #[.pointer (some ⟨q, 0, none⟩), vb] w fun e w' => ∃ v', e = .returned (.tuple #[v', .int .i64 0]) ∧ Own w' w.heap.size 5 v' (frameB (enc n ++ b)) ∧ Below w.heap.size w w' := by
 have h0 := Row.cell hq 0
 have h1 := Row.cell hq 1
 simp only [List.getElem?_cons_succ, List.getElem?_cons_zero] at h0 h1
 have hel := enc_length n hn
 have hns := nsize_le n
 have HE := Lib.hid hel
 have HN := Lib.hid hns
 obtain ⟨xb, cb, rfl, g1, g2, g3, g4⟩ := hb.open
 have HB := Lib.hid g4
 clear hq hel hns hb g3 g4
 go_enter Try.func27, Try.ntmps27
 go_wp2_with (first
  | (go_at_call 45; refine (Put_any _ [] (n : Int) _ (Sh.nil _) (by simp) (by omega) (by omega)).mono ?_; rintro e w1 ⟨v1, rfl, ho1, hb1⟩; have O1 := Lib.hid (show Own w1 w.heap.size 5 v1 (enc n) from by simpa using ho1); have s1 := hb1.size; clear ho1)
  | (at_builtin; refine app_bytes (base := w.heap.size) Try.underlying27 info_byte rfl (.tmp 19) (.tmp 20) rfl rfl O1.out rfl (HB.out.below hb1) (by have := HE.out; have := HN.out; omega) (by omega) ?_; intro v2 w2 ho2 hb2; have O2 := Lib.hid ho2; have s2 := hb2.size; clear ho2)
  | (go_at_call 46; refine (Putf_any _ _ [] (enc n ++ b) _ (Sh.nil _) O2.out.sh (by rw [List.length_append]; have := HE.out; have := HN.out; simp; omega) (by rw [List.length_append]; have := HE.out; have := HN.out; omega)).mono ?_; rintro e w3 ⟨v3, rfl, ho3, hb3⟩; have O3 := Lib.hid (show Own w3 w2.heap.size 5 v3 (frameB (enc n ++ b)) from by simpa using ho3); have s3 := hb3.size; clear ho3))
 go_ret2
 exact ⟨v3, rfl, O3.out.mono (by omega), (hb1.trans hb2).trans (hb3.mono (by omega))⟩
end Go.Proofs.Ytkghkpkiodghiaa
