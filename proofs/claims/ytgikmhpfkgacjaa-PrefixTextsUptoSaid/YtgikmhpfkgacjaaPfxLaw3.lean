import Derived.Test.YtgikmhpfkgacjaaPfxLaw2
import Derived.Test.YtgikmhpfkgacjaaPfx7
import Derived.Deep.RegionWith
namespace Go.Proofs.Ytgikmhpfkgacjaa
set_option linter.unusedVariables false
set_option linter.unusedSimpArgs false
set_option linter.unnecessarySimpa false
open Go.RowKit
set_option maxRecDepth 20000
set_option maxHeartbeats 1000000

theorem PutText_eq (v : Value) (l : List UInt8) (s : ByteArray) (w : World) (h : Sh w v l) (hl : l.length + 8 + s.size ≤ 140737488355328) :
    Calls Try.prog 16 #[v, .string s] w fun e w' => ∃ v', e = .returned v' ∧ Own w' w.heap.size 5 v' (l ++ etext s) ∧ Below w.heap.size w w' :=
  (PutText_any v l s w h hl).mono fun e w' ⟨v', he, ho, hb⟩ => ⟨v', he, by rw [etext, ← List.append_assoc]; exact ho, hb⟩
theorem TakeText_eq (v : Value) (l : List UInt8) (most : Int) (t : List UInt8 × Nat × Nat) (r : List UInt8) (w : World) (h : Sh w v l) (hl : l.length ≤ 140737488355328) (hm : most ≤ 9223372036854775807) (ht : ttx l most = t) (hr : ttRest l most = r) :
    Calls Try.prog 21 #[v, .int .i64 most] w fun e w' => ∃ v', e = .returned (.tuple #[.string ⟨t.1.toArray⟩, v', .int .i64 t.2.2]) ∧ Own w' w.heap.size 5 v' r ∧ Below w.heap.size w w' := by
  subst ht; subst hr; exact TakeText_any v l most w h hl hm
theorem etext_le (s : ByteArray) (h : s.size < 4611686018427387904) : (etext s).length ≤ 8 + s.size := by
  have h2 := nsize_le s.size
  have h3 := enc_length s.size (by omega)
  have h4 : s.data.toList.length = s.size := by rw [Array.length_toList]; rfl
  rw [etext, List.length_append]; omega
theorem ttx_back' (s : ByteArray) (h : s.size < 4611686018427387904) (r : List UInt8) : ttx (etext s ++ r) s.size = (s.data.toList, nsize s.size + s.size, 0) := by
  have h1 := tk_enc s.size h (s.data.toList ++ r)
  have h3 := enc_length s.size h
  have h4 : s.data.toList.length = s.size := by rw [Array.length_toList]; rfl
  rw [etext, List.append_assoc, ttx_ok _ _ _ _ h1 (by omega) (by simp; omega)]
  rw [← h3, List.drop_left, ← h4, List.take_left]
theorem ttRest_back' (s : ByteArray) (h : s.size < 4611686018427387904) (r : List UInt8) : ttRest (etext s ++ r) s.size = r := by
  have h3 := enc_length s.size h
  have h4 : s.data.toList.length = s.size := by rw [Array.length_toList]; rfl
  unfold ttRest
  rw [ttx_back' s h r, if_pos rfl]
  have : (etext s).length = nsize s.size + s.size := by rw [etext, List.length_append]; omega
  show (etext s ++ r).drop (nsize s.size + s.size) = r
  rw [← this, List.drop_left]

theorem PrefixText_err (s : ByteArray) (v : Value) (l : List UInt8) (most : Int) (w : World) (h : Sh w v l) (hl : l.length ≤ 1048576) (hs : s.size ≤ 1048576) (hm : most ≤ 9223372036854775807) (t : List UInt8) (k e : Nat) (ht : ttx l most = (t, k, e))
    (he : e ≠ 0) :
    Calls Try.prog 8 #[.string s, v, .int .i64 most] w fun e w' => e = .returned (.bool true) ∧ Below w.heap.size w w' := by
  have hr : ttRest l most = [] := by unfold ttRest; rw [ht]; rw [if_neg he]
  have hne : ((e : Int) != 0) = true := by rw [bne_iff_ne]; omega
  have heq : ((e : Int) == 0) = false := by rw [beq_eq_false_iff_ne]; omega
  have HT := Lib.hid ht
  have HR := Lib.hid hr
  have hbk := ttx_back' s (by omega) l
  have HBK := Lib.hid hbk
  have HBR := Lib.hid (ttRest_back' s (by omega) l)
  have hes : (etext s).length ≤ 8 + s.size := etext_le s (by omega)
  have hsI : (s.size : Int) ≤ 9223372036854775807 := by omega
  clear hr ht hbk
  obtain ⟨x, cap, rfl, g1, g2, g3, g4⟩ := h.open
  clear g3 he
  skip
  skip
  go_enter Try.func8, Try.ntmps8
  go_wp2_with fail
  go_region_with (first
    | (go_at_call 11; refine (own01_any _ l _ (h.below (by first | exact Below.refl _ _ | exact (Below.refl _ _).drew)) (by omega)).mono ?_; rintro e w1 ⟨v1, rfl, ho1, hb1⟩)
    | (go_at_call 16; refine (PutText_eq v1 l s _ ho1.sh (by omega)).mono ?_; rintro e w2 ⟨v2, rfl, ho2, hb2⟩; have hc2 := conv_later ho2.sh; have hr2 := Below.refl w2.heap.size w2)
    | (go_at_call 20; refine (refText_any _ l s _ (h.below (bthen (bthen (Below.refl _ _).drew hb1 (by simp)) hb2 (by have := hb1.size; simp at this; omega))) (by omega)).mono ?_; rintro e w3 ⟨v3, rfl, ho3, hb3⟩; have hc3 := conv_later ho3.sh; have hr3 := Below.refl w3.heap.size w3))
  all_goals
    have s1 : w.heap.size ≤ w1.heap.size := hb1.size
    have s2 := hb2.size
    have s3 := hb3.size
    have hb03 : Below w.heap.size w w3 := bthen (bthen (bthen (Below.refl _ _).drew hb1 (by simp)) hb2 (by omega)) hb3 (by omega)
    clear hc2 hc3 hr2 hr3 ho1 ho2 ho3
    go_wp2_with fail
    refine (own01_any _ l _ (h.below hb03) (by omega)).mono ?_; rintro e4 w4 ⟨v4, rfl, ho4, hb4⟩
    have s4 := hb4.size
    have hb04 := bthen hb03 hb4 (by omega)
    go_wp2_with fail
    refine (TakeText_eq v4 l most _ _ _ ho4.sh (by omega) hm HT.out HR.out).mono ?_; rintro e5 w5 ⟨v5, rfl, ho5, hb5⟩
    have s5 := hb5.size
    have hb05 := bthen hb04 hb5 (by omega)
    obtain ⟨x5, cap5, hv5, -⟩ := ho5.sh.open
    rw [hv5]
    go_wp2_with fail
    refine (refTakeText_eq _ l most _ _ (h.below hb05) hm HT.out).mono ?_; rintro e6 w6 ⟨rfl, rfl⟩
    go_wp2_with fail
    go_quiet (fail)
    go_wp2_with fail
    refine (PutText_eq _ [] s _ (Sh.nil _) (by simp; omega)).mono ?_; rw [List.nil_append]; rintro e7 w7 ⟨v7, rfl, ho7, hb7⟩
    have s7 : w5.heap.size ≤ w7.heap.size := hb7.size
    have hb07 : Below w.heap.size w w7 := bthen (bthen hb05 (drewN_below w5 nq) (by omega)) hb7 (Nat.le_refl _)
    go_wp2_with (at_builtin; refine app_bytes (base := w5.heap.size) Try.underlying22 info_byte rfl (.tmp 73) (.tmp 74) rfl rfl ho7 rfl (h.below hb07) (by omega) s7 ?_; intro v8 w8 ho8 hb8)
    have s8 := hb8.size
    have hb08 : Below w.heap.size w w8 := hb07.trans (hb8.mono (by omega))
    refine (TakeText_eq v8 _ _ _ _ _ ho8.sh (by simp; omega) hsI HBK.out HBR.out).mono ?_; rintro e9 w9 ⟨v9, rfl, ho9, hb9⟩
    have s9 := hb9.size
    have hb09 := bthen hb08 hb9 (by omega)
    have hc9 := conv_run ho9.sh
    have hcl := conv_run (h.below hb09)
    go_wp2_with (go_at_call 15; refine (lives01 _).mono ?_; rintro e10 w10 ⟨rfl, hb10⟩)
    all_goals
      go_ret
      exact ⟨rfl, bthen hb09 hb10 (by omega)⟩
theorem PrefixText_ok (s : ByteArray) (v : Value) (l : List UInt8) (most : Int) (w : World) (h : Sh w v l) (hl : l.length ≤ 1048576) (hs : s.size ≤ 1048576) (hm : most ≤ 9223372036854775807) (t : List UInt8) (k e : Nat) (ht : ttx l most = (t, k, e))
    (he : e = 0) (hk : k ≤ l.length) :
    Calls Try.prog 8 #[.string s, v, .int .i64 most] w fun e w' => e = .returned (.bool true) ∧ Below w.heap.size w w' := by
  have hr : ttRest l most = l.drop k := by unfold ttRest; rw [ht]; rw [if_pos he]
  subst he
  skip
  have HT := Lib.hid ht
  have HR := Lib.hid hr
  have hbk := ttx_back' s (by omega) l
  have HBK := Lib.hid hbk
  have HBR := Lib.hid (ttRest_back' s (by omega) l)
  have hes : (etext s).length ≤ 8 + s.size := etext_le s (by omega)
  have hsI : (s.size : Int) ≤ 9223372036854775807 := by omega
  clear hr ht hbk
  obtain ⟨x, cap, rfl, g1, g2, g3, g4⟩ := h.open
  clear g3 
  have hkI : (k : Int) ≤ (l.length : Int) := by omega
  have hkC : (k : Int) ≤ (cap : Int) := by omega
  go_enter Try.func8, Try.ntmps8
  go_wp2_with fail
  go_region_with (first
    | (go_at_call 11; refine (own01_any _ l _ (h.below (by first | exact Below.refl _ _ | exact (Below.refl _ _).drew)) (by omega)).mono ?_; rintro e w1 ⟨v1, rfl, ho1, hb1⟩)
    | (go_at_call 16; refine (PutText_eq v1 l s _ ho1.sh (by omega)).mono ?_; rintro e w2 ⟨v2, rfl, ho2, hb2⟩; have hc2 := conv_later ho2.sh; have hr2 := Below.refl w2.heap.size w2)
    | (go_at_call 20; refine (refText_any _ l s _ (h.below (bthen (bthen (Below.refl _ _).drew hb1 (by simp)) hb2 (by have := hb1.size; simp at this; omega))) (by omega)).mono ?_; rintro e w3 ⟨v3, rfl, ho3, hb3⟩; have hc3 := conv_later ho3.sh; have hr3 := Below.refl w3.heap.size w3))
  all_goals
    have s1 : w.heap.size ≤ w1.heap.size := hb1.size
    have s2 := hb2.size
    have s3 := hb3.size
    have hb03 : Below w.heap.size w w3 := bthen (bthen (bthen (Below.refl _ _).drew hb1 (by simp)) hb2 (by omega)) hb3 (by omega)
    clear hc2 hc3 hr2 hr3 ho1 ho2 ho3
    go_wp2_with fail
    refine (own01_any _ l _ (h.below hb03) (by omega)).mono ?_; rintro e4 w4 ⟨v4, rfl, ho4, hb4⟩
    have s4 := hb4.size
    have hb04 := bthen hb03 hb4 (by omega)
    go_wp2_with fail
    refine (TakeText_eq v4 l most _ _ _ ho4.sh (by omega) hm HT.out HR.out).mono ?_; rintro e5 w5 ⟨v5, rfl, ho5, hb5⟩
    have s5 := hb5.size
    have hb05 := bthen hb04 hb5 (by omega)
    skip
    skip
    go_wp2_with fail
    refine (refTakeText_eq _ l most _ _ (h.below hb05) hm HT.out).mono ?_; rintro e6 w6 ⟨rfl, rfl⟩
    go_wp2_with fail
    have hc5 : ∀ nq, (convert 22 9 v5).run Try.prog (w5.drewN nq) = .ok (.string ⟨(l.drop k).toArray⟩) (w5.drewN nq) := fun nq => conv_run (ho5.sh.drewN nq)
    have hcs : ∀ nq, (convert 22 9 (.slice (if cap = k then x else x.map (·.add k)) (l.length - k) (cap - k))).run Try.prog (w5.drewN nq) = .ok (.string ⟨(l.drop k).toArray⟩) (w5.drewN nq) :=
      fun nq => conv_run (((h.below hb05).drop k hk).drewN nq)
    go_quiet (fail)
    clear hcs hc5
    generalize (if cap = k then x else Option.map (fun x => x.add k) x) = z
    go_wp2_with fail
    refine (PutText_eq _ [] s _ (Sh.nil _) (by simp; omega)).mono ?_; rw [List.nil_append]; rintro e7 w7 ⟨v7, rfl, ho7, hb7⟩
    have s7 : w5.heap.size ≤ w7.heap.size := hb7.size
    have hb07 : Below w.heap.size w w7 := bthen (bthen hb05 (drewN_below w5 nq) (by omega)) hb7 (Nat.le_refl _)
    go_wp2_with (at_builtin; refine app_bytes (base := w5.heap.size) Try.underlying22 info_byte rfl (.tmp 73) (.tmp 74) rfl rfl ho7 rfl (h.below hb07) (by omega) s7 ?_; intro v8 w8 ho8 hb8)
    have s8 := hb8.size
    have hb08 : Below w.heap.size w w8 := hb07.trans (hb8.mono (by omega))
    refine (TakeText_eq v8 _ _ _ _ _ ho8.sh (by simp; omega) hsI HBK.out HBR.out).mono ?_; rintro e9 w9 ⟨v9, rfl, ho9, hb9⟩
    have s9 := hb9.size
    have hb09 := bthen hb08 hb9 (by omega)
    have hc9 := conv_run ho9.sh
    have hcl := conv_run (h.below hb09)
    go_wp2_with (go_at_call 15; refine (lives01 _).mono ?_; rintro e10 w10 ⟨rfl, hb10⟩)
    all_goals
      go_ret
      exact ⟨rfl, bthen hb09 hb10 (by omega)⟩
theorem PrefixText_walk (s : ByteArray) (v : Value) (l : List UInt8) (most : Int) (w : World) (hs : s.size ≤ 1048576) (h : Sh w v l) (hl : l.length ≤ 1048576) (_hm : -9223372036854775808 ≤ most) (hm : most ≤ 9223372036854775807) :
    Calls Try.prog 8 #[.string s, v, .int .i64 most] w fun e w' => e = .returned (.bool true) ∧ Below w.heap.size w w' := by
  by_cases he : (ttx l most).2.2 = 0
  · exact PrefixText_ok s v l most w h hl hs hm _ _ _ rfl he (ttx_facts l most he).2
  · exact PrefixText_err s v l most w h hl hs hm _ _ _ rfl he
end Go.Proofs.Ytgikmhpfkgacjaa
