/- Frames: the document's Take; the program's Take. -/
import Derived.Test.YtkghkpkiodghiaaFrm6
import Derived.Test.YtkghkpkiodghiaaPfxRef2
import Derived.Test.YtkghkpkiodghiaaFrm4
namespace Go.Proofs.Ytkghkpkiodghiaa
set_option linter.unusedVariables false
set_option linter.unusedSimpArgs false
set_option linter.unnecessarySimpa false
open Go.RowKit
set_option maxRecDepth 100000
set_option maxHeartbeats 4000000

theorem refTake_of (v : Value) (l : List UInt8) (t : Nat × Nat × Nat) (w : World) (h : Sh w v l) (ht : tk l = t) :
  Calls Try.prog 48 #[v] w fun e w' => e = .returned (.tuple #[.int .u64 (t.1 : Int), .int .i64 (t.2.1 : Int), .int .i64 (t.2.2 : Int)]) ∧ w = w' := by
 subst ht; exact refTake_any v l w h
theorem Own.none (w : World) (base e : Nat) : Own w base e (.slice none 0 0) [] := by
 exact Own1.nil w base e
theorem refTakef_err (v : Value) (l : List UInt8) (e : Nat) (w : World) (h : Sh w v l) (ht : tk l = (0, 0, e)) (he : e ≠ 0) :
  Calls Try.prog 47 #[v] w fun r w' => r = .returned (.tuple #[.slice none 0 0, .int .i64 0, .int .i64 (e : Int)]) ∧ Below w.heap.size w w' := by
 have H := Lib.hid h
 have heI : ((e : Int) != 0) = true := by rw [bne_iff_ne]; omega
 have HT := Lib.hid ht
 clear h ht
 go_enter Try.func47, Try.ntmps47
 go_wp2_with (go_at_call 48; refine (refTake_of v l _ _ H.out HT.out).mono ?_; rintro r w1 ⟨rfl, rfl⟩)
 go_ret3
 exact ⟨rfl, Below.refl _ _⟩
theorem refTakef_long (v : Value) (l : List UInt8) (n k : Nat) (w : World) (h : Sh w v l) (ht : tk l = (n, k, 0)) (hn : 1048576 < n) :
  Calls Try.prog 47 #[v] w fun r w' => r = .returned (.tuple #[.slice none 0 0, .int .i64 0, .int .i64 2]) ∧ Below w.heap.size w w' := by
 have H := Lib.hid h
 have hnI : 1048576 < (n : Int) := by omega
 have HT := Lib.hid ht
 clear h ht
 go_enter Try.func47, Try.ntmps47
 go_wp2_with (go_at_call 48; refine (refTake_of v l _ _ H.out HT.out).mono ?_; rintro r w1 ⟨rfl, rfl⟩)
 go_ret3
 exact ⟨rfl, Below.refl _ _⟩
theorem refTakef_short (v : Value) (l : List UInt8) (n k : Nat) (w : World) (h : Sh w v l) (ht : tk l = (n, k, 0)) (hn : n ≤ 1048576) (hs : l.length - k < n + 4) (hk : k ≤ l.length) :
  Calls Try.prog 47 #[v] w fun r w' => r = .returned (.tuple #[.slice none 0 0, .int .i64 0, .int .i64 3]) ∧ Below w.heap.size w w' := by
 obtain ⟨a, cap, rfl, g1, g2, g3, g4⟩ := h.open
 have HT := Lib.hid ht
 have H := Lib.hid g4
 obtain ⟨m, hm⟩ : ∃ m, l.length = k + m := ⟨l.length - k, by omega⟩
 rw [hm] at g1 H ⊢
 have hs' : m < n + 4 := by omega
 clear hs hm ht h g3 g4 hk
 have hnI : ¬ 1048576 < (n : Int) := by omega
 have hw := IntWalk.i64_in (n : Int) ⟨by omega, by omega⟩
 by_cases h4 : m < 4
 ·have h4I : (m : Int) < 4 := by omega
  go_enter Try.func47, Try.ntmps47
  go_wp2_with (go_at_call 48; refine (refTake_of _ l _ _ H.out HT.out).mono ?_; rintro r w1 ⟨rfl, rfl⟩)
  go_ret3
  exact ⟨rfl, Below.refl _ _⟩
 ·have h4I : ¬ (m : Int) < 4 := by omega
  have hmn : (m : Int) - 4 < (n : Int) := by omega
  go_enter Try.func47, Try.ntmps47
  go_wp2_with (go_at_call 48; refine (refTake_of _ l _ _ H.out HT.out).mono ?_; rintro r w1 ⟨rfl, rfl⟩)
  go_ret3
  exact ⟨rfl, Below.refl _ _⟩
theorem refTakef_go (v : Value) (l : List UInt8) (n k : Nat) (w : World) (h : Sh w v l) (ht : tk l = (n, k, 0)) (hn : n ≤ 1048576) (hs : ¬ l.length - k < n + 4) (hk : k ≤ l.length) (g : Bool) (hg : goodB (l.take (k + n + 4)) = g) :
  Calls Try.prog 47 #[v] w fun r w' => ∃ v1, r = .returned (.tuple #[v1, .int .i64 (if g = true then ((k + n + 4 : Nat) : Int) else 0), .int .i64 (if g = true then 0 else 50)]) ∧ Own w' w.heap.size 5 v1 (if g = true then (l.drop k).take n else []) ∧ Below w.heap.size w w' := by
 obtain ⟨a, cap, rfl, g1, g2, g3, g4⟩ := h.open
 have HT := Lib.hid ht
 have HTk := Lib.hid (g4.take (k + n + 4) (by omega))
 have hck : cap ≠ k := by omega
 have hsl := g4.sliced (lo := k) (hi := k + n) (m := cap) (by omega) (by omega) (by omega) (by omega)
 rw [if_neg hck] at hsl
 have hck2 : k + n - k = n := Nat.add_sub_cancel_left _ _
 rw [show (l.drop k).take (k + n - k) = (l.drop k).take n by rw [hck2]] at hsl
 have HSl := Lib.hid hsl
 clear hsl
 have H := Lib.hid g4
 obtain ⟨m, hm⟩ : ∃ m, l.length = k + m := ⟨l.length - k, by omega⟩
 rw [hm] at g1 H ⊢
 have hmn : n + 4 ≤ m := by omega
 have hnI : ¬ 1048576 < (n : Int) := by omega
 have hw := IntWalk.i64_in (n : Int) ⟨by omega, by omega⟩
 have h4I : ¬ (m : Int) < 4 := by omega
 have hmn : ¬ (m : Int) - 4 < (n : Int) := by omega
 have hend : (k : Int) + (n : Int) + 4 ≤ (cap : Int) := by omega
 have hln : ((l.drop k).take n).length ≤ 140737488355328 := by rw [List.length_take]; omega
 have HLN := Lib.hid hln
 clear h ht g3 g4 hm hs hk hln
 have HG := Lib.hid hg
 clear hg
 cases g with
 | false =>
  go_enter Try.func47, Try.ntmps47
  go_wp2_with (first
   | (go_at_call 48; refine (refTake_of _ l _ _ H.out HT.out).mono ?_; rintro r w1 ⟨rfl, rfl⟩)
   | (go_at_call 63; refine (refGood_any _ (l.take (k + n + 4)) _ HTk.out).mono ?_; rw [HG.out]; rintro r w2 ⟨rfl, hb2⟩))
  go_ret3
  exact ⟨_, rfl, Own.none _ _ _, hb2⟩
 | true =>
  go_enter Try.func47, Try.ntmps47
  go_wp2_with (first
   | (go_at_call 48; refine (refTake_of _ l _ _ H.out HT.out).mono ?_; rintro r w1 ⟨rfl, rfl⟩)
   | (go_at_call 63; refine (refGood_any _ (l.take (k + n + 4)) _ HTk.out).mono ?_; rw [HG.out]; rintro r w2 ⟨rfl, hb2⟩; have s2 := hb2.size)
   | (at_builtin; go_loud (refine app_bytes (base := w.heap.size) Try.underlying27 info_byte rfl (.tmp 45) (.tmp 50) rfl (l := []) (m := (l.drop k).take n) rfl ((Own.lit w2 5 []).mono s2) rfl ((HSl.out.below hb2).below (balloc (Below.refl _ _) _)) (by rw [List.length_nil, Nat.zero_add]; exact HLN.out) (by simp; omega) ?_; intro v3 w3 ho3 hb3)))
  go_ret3
  exact ⟨_, rfl, ho3, (hb2.alloc hb2.size _).trans hb3⟩
theorem refTakef_any (v : Value) (l : List UInt8) (w : World) (h : Sh w v l) :
  Calls Try.prog 47 #[v] w fun r w' => ∃ v1, r = .returned (.tuple #[v1, .int .i64 ((tkF l).2.1 : Int), .int .i64 ((tkF l).2.2 : Int)]) ∧ Own w' w.heap.size 5 v1 (tkF l).1 ∧ Below w.heap.size w w' := by
 rcases tk_cases l with ⟨e, ht, he⟩ | ⟨n, k, ht, hk1, hk2, hn⟩
 ·have e1 : tkF l = ([], 0, e) := by unfold tkF; rw [ht, if_pos (by show e ≠ 0; omega)]
  rw [e1]
  exact (refTakef_err v l e w h ht (by omega)).mono fun r w' ⟨hr, hb⟩ => ⟨_, hr, Own.none _ _ _, hb⟩
 ·by_cases h1 : 1048576 < n
  ·have e1 : tkF l = ([], 0, 2) := by unfold tkF; rw [ht, if_neg (by simp), if_pos h1]
   rw [e1]
   exact (refTakef_long v l n k w h ht h1).mono fun r w' ⟨hr, hb⟩ => ⟨_, hr, Own.none _ _ _, hb⟩
  ·by_cases h2 : l.length - k < n + 4
   ·have e1 : tkF l = ([], 0, 3) := by unfold tkF; rw [ht, if_neg (by simp), if_neg h1, if_pos h2]
    rw [e1]
    exact (refTakef_short v l n k w h ht (by omega) h2 hk2).mono fun r w' ⟨hr, hb⟩ => ⟨_, hr, Own.none _ _ _, hb⟩
   ·refine (refTakef_go v l n k w h ht (by omega) h2 hk2 _ rfl).mono fun r w' ⟨v1, hr, hs, hb⟩ => ⟨v1, ?_, ?_, hb⟩
    all_goals
     have e0 : tkF l = if goodB (l.take (k + n + 4)) = true then ((l.drop k).take n, k + n + 4, 0) else ([], 0, 50) := by unfold tkF; rw [ht, if_neg (by simp), if_neg h1, if_neg h2]
     cases hg : goodB (l.take (k + n + 4))
     all_goals
      rw [hg] at e0
      simp only [hg] at hr hs
      simp only [if_true, Bool.false_eq_true, if_false] at e0 hr hs
    ·rw [e0]; exact hr
    ·rw [e0]; exact hr
    ·rw [e0]; exact hs
    ·rw [e0]; exact hs
end Go.Proofs.Ytkghkpkiodghiaa
namespace Go.Proofs.Ytkghkpkiodghiaa
set_option linter.unusedVariables false
set_option linter.unusedSimpArgs false
set_option linter.unnecessarySimpa false
open Go.RowKit
set_option maxRecDepth 100000
set_option maxHeartbeats 4000000

theorem Same_any (v1 v2 : Value) (L : List (List UInt8)) (w : World) (h1 : Bss w v1 L) (h2 : Bss w v2 L) :
  Calls Try.prog 29 #[v1, v2] w fun e w' => e = .returned (.bool true) ∧ Below w.heap.size w w' := by
 obtain ⟨a, cap, rfl, g1, g2, g3⟩ := h1.open
 obtain ⟨b, cap2, rfl, k1, k2, k3⟩ := h2.open
 have HS := Lib.hid h1
 have HT := Lib.hid h2
 clear h1 h2 g3 k3
 go_enter Try.func29, Try.ntmps29
 go_wp2_with fail
 go_loopw [5] (fun i wr => ∃ j : Nat, j ≤ L.length ∧ i = .int .i64 j ∧ Below w.heap.size w wr) (fun i _ => L.length - (intOf i).toNat)
 case atStart => exact ⟨0, by omega, rfl, Below.refl _ _⟩
 case round =>
  obtain ⟨j, hj, rfl, hb⟩ := hrel
  by_cases hlt : j < L.length
  ·obtain ⟨b1, off1, rfl, -, hat1⟩ := HS.out.cells (by omega)
   obtain ⟨b2, off2, rfl, -, hat2⟩ := HT.out.cells (by omega)
   obtain ⟨u1, hu1, hs1⟩ := hat1 j hlt
   obtain ⟨u2, hu2, hs2⟩ := hat2 j hlt
   have hu1' := bcell hb hu1 (blt hu1)
   have hu2' := bcell hb hu2 (blt hu2)
   have hc1 : ∀ m, (convert 27 9 u1).run Try.prog (wr.drewN m) = .ok (.string ⟨(L.getD j []).toArray⟩) (wr.drewN m) := fun m => conv_run ((hs1.at' hb (Nat.le_refl _)).drewN m)
   have hc2 : ∀ m, (convert 27 9 u2).run Try.prog (wr.drewN m) = .ok (.string ⟨(L.getD j []).toArray⟩) (wr.drewN m) := fun m => conv_run ((hs2.at' hb (Nat.le_refl _)).drewN m)
   have hjI : (j : Int) < (L.length : Int) := by omega
   clear hat1 hat2 hu1 hu2 hs1 hs2
   generalize L.getD j [] = q at *
   go_wp2_with fail
   go_quiet (fail)
   clear hc1 hc2
   go_wp2_with fail
   exact ⟨⟨j + 1, by omega, by go_num, hb.trans ((drewN_below _ nq).mono hb.size)⟩, by simp [intOf]; omega⟩
  ·obtain rfl : j = L.length := by omega
   go_wp2_with fail
   go_ret
   exact ⟨rfl, hb⟩
end Go.Proofs.Ytkghkpkiodghiaa
