/- The laws' small living call of a log. -/
import Derived.Test.YtkghkpkiodghiaaWal3
import Derived.Test.YtkghkpkiodghiaaDsk4
import Derived.Test.YtkghkpkiodghiaaOpen
import Derived.Test.YtkghkpkiodghiaaFrm7

namespace Go.Proofs.Ytkghkpkiodghiaa
set_option linter.unusedVariables false
set_option linter.unusedSimpArgs false
set_option linter.unnecessarySimpa false
open Go.RowKit
set_option maxRecDepth 100000
set_option maxHeartbeats 4000000

theorem LogS.open {p : Nat} {S : PD} {L : Int} {rs : List (List UInt8)} {w : World} (hS : Dsk w p S) (h : LogS S L rs) (hL : L ≤ 1000000) (hr : ∀ r ∈ rs, r.length ≤ 3000) (hn : rs.length ≤ 1000) :
  Calls Try.prog 7 #[.pointer (some ⟨p, 0, none⟩)] w fun e w' => ∃ q rv, e = .returned (.tuple #[.pointer (some ⟨q, 0, none⟩), .agg #[.bool false, .slice none 0 0, rv, .int .u64 (rs.length : Int)], .int .i64 0]) ∧ WalR w' q p rs.length ∧ BOs w' w.heap.size rv rs ∧ Below w.heap.size w w' ∧ w.heap.size < q :=
 Open_log p S rs w hS h.n1 h.dead h.n0 hr hn (by have := h.room; omega)
theorem Next_any (q p n : Nat) (w : World) (hq : WalR w q p n) :
  Calls Try.prog 30 #[.pointer (some ⟨q, 0, none⟩)] w fun e w' => e = .returned (.int .u64 (n : Int)) ∧ w' = w := by
 have h1 := Row.cell hq 1
 simp only [List.getElem?_cons_succ, List.getElem?_cons_zero] at h1
 go_enter Try.func30, Try.ntmps30
 go_wp2_with fail
 go_ret
 exact ⟨rfl, rfl⟩
theorem lives15 (w : World) : Calls Try.prog 12 #[] w fun e w' => e = .returned (.bool true) ∧ Below w.heap.size w w' := by
 have kc := fun (w : World) (C : Array Value) (n c : Nat) => Lib.run_convert_bytes_const (P := Try.prog) w 27 5 C n c Try.underlying27 Try.underlying5
 go_enter Try.func12, Try.ntmps12
 go_wp2_with fail
 refine (New_any 1000 _).mono ?_; rintro e w1 ⟨rfl, hd1, hb1, hs1⟩
 have hd1 : Dsk w1 w.heap.size ⟨[], [], false, [], [], false, 1000, -1, false⟩ := hd1
 have HL1 := Lib.hid (LogS.new 1000 (by decide))
 have hlt1 := hd1.lt
 have HD1 := Lib.hid hd1
 have HB1 := Lib.hid hb1
 clear hd1 hb1
 go_wp2_with fail
 refine (HL1.out.open HD1.out (by decide) (by simp) (by simp)).mono ?_
 rintro e w2 ⟨q, rv, rfl, hq2, ho2, hb2, hlq⟩
 obtain ⟨x2, c2, rfl, -⟩ := ho2.bss.open
 have HQ2 := Lib.hid hq2
 have HD2 := Lib.hid (HD1.out.keepB hb2)
 have HB2 := Lib.hid (bthen HB1.out hb2 (Nat.le_refl _))
 clear hd1 hs1
 have HO2 := Lib.hid ho2
 have S2 := Lib.hid hb2.size
 clear hq2 ho2 hb2
 have kc2 := kc (w2.alloc (.cells #[.bool false, .slice none 0 0, .slice x2 0 c2, .int .u64 0] 31)) #[.int .u8 97] 1 1
 simp at kc2
 go_wp2_with fail
 clear kc2
 have hlit : Sh ((w2.alloc (.cells #[.bool false, .slice none 0 0, .slice x2 0 c2, .int .u64 0] 31)).alloc (.cells #[.int .u8 97] 5 (1, 2))) (.slice (some ⟨w2.heap.size + 1, 0, none⟩) 1 1) [97] := by
  have h := lit_sb (w1 := w2.alloc (.cells #[.bool false, .slice none 0 0, .slice x2 0 c2, .int .u64 0] 31)) (p := w.heap.size) (1, 2) [97] (by decide) (by have := HB2.out.size; simp; omega) _ (Upd.refl _ _)
  rw [World.size_alloc] at h
  exact h
 have hbA : Below w2.heap.size w2 ((w2.alloc (.cells #[.bool false, .slice none 0 0, .slice x2 0 c2, .int .u64 0] 31)).alloc (.cells #[.int .u8 97] 5 (1, 2))) := balloc (balloc (Below.refl _ _) _) _
 refine (Append_any q w.heap.size 0 _ [97] _ _ (HQ2.out.keep hbA) (HD2.out.keepB hbA) hlit (by decide) (by decide) (by omega) (by decide) (by decide) (by decide)).mono ?_
 obtain ⟨S3, n3, e3, hw3, hc⟩ := wapp_log _ 1000 [] [97] HL1.out
 have hfl : (frameB (enc 0 ++ [97])).length = 7 := by rw [frameB_length _ (by decide)]; rfl
 rcases hc with ⟨rfl, rfl, hL3⟩ | ⟨-, -, -, hbad⟩
 rotate_left
 ·exfalso
  simp only [List.length_nil, List.nil_append] at hbad
  rw [hfl] at hbad
  omega
 rw [show ([] : List (List UInt8)).length = 0 from rfl] at hw3
 rw [hw3]
 clear hw3
 rintro e w3 ⟨rfl, hd3, hq3, v3, hu3, hv3⟩
 have hn3 : S3.n0.length = 7 := by rw [hL3.n0]; show (frames [enc 0 ++ [97]]).length = 7; unfold frames; simpa using hfl
 have hb3 : Below w.heap.size w w3 := ub (ub (bthen HB2.out hbA (by have := HB2.out.size; omega)) hu3 (Nat.le_refl _) (by have := HB2.out.size; omega)) hv3 (by omega) (by omega)
 have HL3 := Lib.hid hL3
 have HD3 := Lib.hid hd3
 have HQ3 := Lib.hid hq3
 have HN3 := Lib.hid hn3
 have HB3 := Lib.hid hb3
 clear hL3 hd3 hq3 hu3 hv3 hb3 hlit hbA hfl hn3 HL1 HD1 HB1 HD2 HQ2
 go_wp2_with fail
 have hr3 : S3.read 0 = (S3.n0, 0) := by unfold PD.read; rw [if_neg (by simp [HL3.out.dead]), if_neg (by omega)]; simp
 refine (Read_any w.heap.size 0 S3 _ HD3.out (by rw [HL3.out.n1, HN3.out]; decide)).mono ?_
 rw [hr3]
 clear hr3
 rintro e w4 ⟨v4, rfl, ho4, hb4⟩
 obtain ⟨x4, c4, rfl, -⟩ := ho4.sh.open
 rw [HN3.out]
 have HD4 := Lib.hid (HD3.out.keepB hb4)
 have HB4 := Lib.hid (bthen HB3.out hb4 (by have := HB3.out.size; omega))
 clear ho4 hb4
 go_wp2_with fail
 refine (HL3.out.open HD4.out (by decide) (by simp) (by simp)).mono ?_
 rintro e w5 ⟨q5, rv, rfl, hq5, ho5, hb5, hl5⟩
 obtain ⟨x5, c5, rfl, -⟩ := ho5.bss.open
 have HQ5 := Lib.hid hq5
 have HO5 := Lib.hid ho5
 have HB5 := Lib.hid (bthen HB4.out hb5 (by have := HB4.out.size; omega))
 clear hq5 ho5 hb5
 obtain ⟨b, off, rfl, -, hat⟩ := HO5.out.cells (by decide)
 obtain ⟨u, hu, hou⟩ := hat 0 (by decide)
 have hba := balloc (Below.refl w5.heap.size w5) (.cells #[.bool false, .slice none 0 0, .slice (some ⟨b, off, none⟩) 1 c5, .int .u64 1] 31)
 have hu' := bcell hba hu (blt hu)
 obtain ⟨xu, cu, rfl, -⟩ := hou.sh.open
 have hcv := conv_run (hou.sh.at' hba (Nat.le_refl _))
 have HQ6 := Lib.hid (show WalR _ q5 w.heap.size 1 from HQ5.out.keep hba)
 have HB6 := Lib.hid (bthen HB5.out hba (by have := HB5.out.size; omega))
 simp only [Nat.add_zero] at hu'
 have hcv' : (convert 27 9 (.slice xu 1 cu)).run Try.prog (w5.alloc (.cells #[.bool false, .slice none 0 0, .slice (some ⟨b, off, none⟩) 1 c5, .int .u64 1] 31)) = .ok (.string ⟨#[97]⟩) (w5.alloc (.cells #[.bool false, .slice none 0 0, .slice (some ⟨b, off, none⟩) 1 c5, .int .u64 1] 31)) := hcv
 clear hcv hat hu hou hba
 go_wp2_with (go_at_call 30; refine (Next_any q5 _ 1 _ HQ6.out).mono ?_; rintro e w6 ⟨rfl, rfl⟩)
 go_ret
 exact ⟨rfl, HB6.out⟩
end Go.Proofs.Ytkghkpkiodghiaa
namespace Go.Proofs.Ytkghkpkiodghiaa
set_option linter.unusedVariables false
set_option linter.unusedSimpArgs false
set_option linter.unnecessarySimpa false
open Go.RowKit
set_option maxRecDepth 100000
set_option maxHeartbeats 4000000

theorem Sh.taken {w : World} {x : Option Addr} {c : Nat} {l : List UInt8} (h : Sh w (.slice x l.length c) l) : Sh w (.slice x (l.take 3000).length c) (l.take 3000) := by
 by_cases hb : 3000 ≤ l.length
 ·have := h.take 3000 hb
  rwa [show (l.take 3000).length = 3000 by rw [List.length_take]; omega]
 ·rw [List.take_of_length_le (by omega)]; exact h
theorem bytes_act (K N : Int) (x : Option Addr) (c : Nat) (l : List UInt8) (w : World) (hl : Sh w (.slice x l.length c) l) (hlen : l.length ≤ 140737488355328) :
  Calls Try.prog 9 #[.agg #[.int .i64 K, .int .i64 N, .slice x l.length c]] w fun e w' => e = .returned (.slice x (l.take 3000).length c) ∧ Below w.heap.size w w' := by
 obtain ⟨x', c', he, g1, g2, g3, -⟩ := hl.open
 simp only [Value.slice.injEq, true_and] at he
 obtain ⟨rfl, rfl⟩ := he
 clear hl
 by_cases hb : 3000 < l.length
 ·have hbI : (3000 : Int) < (l.length : Int) := by omega
  rw [show (l.take 3000).length = 3000 by rw [List.length_take]; omega]
  go_enter Try.func9, Try.ntmps9
  go_wp2_with fail
  go_ret
  exact ⟨rfl, balloc (Below.refl _ _) _⟩
 ·have hbI : ¬ (3000 : Int) < (l.length : Int) := by omega
  rw [List.take_of_length_le (by omega)]
  go_enter Try.func9, Try.ntmps9
  go_wp2_with fail
  go_ret
  exact ⟨rfl, balloc (Below.refl _ _) _⟩
end Go.Proofs.Ytkghkpkiodghiaa
