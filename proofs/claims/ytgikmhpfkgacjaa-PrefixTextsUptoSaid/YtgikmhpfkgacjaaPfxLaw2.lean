import Derived.Test.YtgikmhpfkgacjaaPfxLaw
import Derived.Test.YtgikmhpfkgacjaaPfxPlain
import Derived.StillTailTactics
namespace Go.Proofs.Ytgikmhpfkgacjaa
set_option linter.unusedVariables false
set_option linter.unusedSimpArgs false
set_option linter.unnecessarySimpa false
open Go.RowKit
set_option maxRecDepth 20000

theorem bytesLess_less : ∀ x y : List UInt8, Op.bytesLess x y = less x y
  | _, [] => by simp [Op.bytesLess, less]
  | [], _ :: _ => rfl
  | a :: x, b :: y => by rw [Op.bytesLess, less, bytesLess_less x y]

/-- A region that draws its order: n operations that only read, then a tail in one order. -/
theorem region_tail {P : Program} {id : Nat} {Q : Exit → Act → World → Prop} {a : Act} {w : World} {l : List Oper} (n : Nat) (hm : P.follows .mixedOrders = true) (hB : Region.lexTailB .any l.toArray n = true)
    (h : wpStill P l.toArray w.drew (fun a' => wpList P l.toArray Q (l.drop n) a' w.drew) (l.take n) a) : (Code.region id l.toArray true).wp P Q a w := wp_region_still_tail n hm hB h

theorem PrefixOrder_ok (A B : Nat) (w : World) (ha : A < 4611686018427387904) (hb : B < 4611686018427387904) (hs : nsize A = nsize B) :
    Calls Try.prog 4 #[.int .u64 (A : Int), .int .u64 (B : Int)] w fun e w' => e = .returned (.bool true) ∧ Below w.heap.size w w' := by
  have hless : Op.bytesLess (enc A) (enc B) = decide ((A : Int) < (B : Int)) := by rw [bytesLess_less, less_enc A B ha hb hs]; simp
  have hsz : (((nsize A : Nat) : Int) != ((nsize B : Nat) : Int)) = false := by rw [hs]; simp
  have HA := Lib.hid ha
  have HB := Lib.hid hb
  clear ha hb hs
  go_enter Try.func4, Try.ntmps4
  go_wp2_with fail
  refine (Put_any _ [] A _ (Sh.nil _) (by simp) (by omega) (by have := HA.out; omega)).mono ?_; rintro e w1 ⟨v1, rfl, ho1, hb1⟩
  have s1 := hb1.size
  go_wp2_with fail
  refine (Put_any _ [] B _ (Sh.nil _) (by simp) (by omega) (by have := HB.out; omega)).mono ?_; rintro e w2 ⟨v2, rfl, ho2, hb2⟩
  have s2 := hb2.size
  have hb12 := bthen hb1 hb2 (Nat.le_refl _)
  have hc1 := conv_run (ho1.sh.below hb2)
  have hc2 := conv_run ho2.sh
  go_wp2_with (first
    | (go_at_call 13; refine (size_any _ (by omega) _).mono ?_; rintro e w' ⟨rfl, rfl⟩)
    | (go_at_call 15; refine (lives01 _).mono ?_; rintro e w4 ⟨rfl, hb4⟩))
  go_ret
  exact ⟨rfl, bthen hb12 hb4 (by omega)⟩
theorem Put_some (v : Value) (l : List UInt8) (N : Nat) (w : World) (h : Sh w v l) (hl : l.length + 8 ≤ 140737488355328) :
    Calls Try.prog 10 #[v, .int .u64 (N : Int)] w fun e w' => ∃ v' c, e = .returned (.tuple #[v', .int .i64 c]) ∧ Below w.heap.size w w' := by
  by_cases hn : N < 4611686018427387904
  · exact (Put_any v l N w h hl (by omega) (by omega)).mono fun e w' ⟨v', he, _, hb⟩ => ⟨v', _, he, hb⟩
  · exact (Put_no v l N w h hl (by omega)).mono fun e w' ⟨v', he, _, hb⟩ => ⟨v', _, he, hb⟩
theorem PrefixOrder_big (A B : Nat) (w : World) (ha : 4611686018427387904 ≤ A) :
    Calls Try.prog 4 #[.int .u64 (A : Int), .int .u64 (B : Int)] w fun e w' => e = .returned (.bool true) ∧ Below w.heap.size w w' := by
  have HA := Lib.hid ha
  clear ha
  go_enter Try.func4, Try.ntmps4
  go_wp2_with fail
  refine (Put_no _ [] A _ (Sh.nil _) (by simp) (by have := HA.out; omega)).mono ?_; rintro e w1 ⟨v1, rfl, ho1, hb1⟩
  have s1 := hb1.size
  go_wp2_with fail
  refine (Put_some _ [] B _ (Sh.nil _) (by simp)).mono ?_; rintro e w2 ⟨v2, c, rfl, hb2⟩
  have s2 := hb2.size
  have hb12 := bthen hb1 hb2 (Nat.le_refl _)
  go_wp2_with (go_at_call 15; refine (lives01 _).mono ?_; rintro e w4 ⟨rfl, hb4⟩)
  go_ret
  exact ⟨rfl, bthen hb12 hb4 (by omega)⟩
theorem PrefixOrder_big2 (A B : Nat) (w : World) (ha : A < 4611686018427387904) (hb : 4611686018427387904 ≤ B) :
    Calls Try.prog 4 #[.int .u64 (A : Int), .int .u64 (B : Int)] w fun e w' => e = .returned (.bool true) ∧ Below w.heap.size w w' := by
  have HA := Lib.hid ha
  have HB := Lib.hid hb
  clear ha hb
  go_enter Try.func4, Try.ntmps4
  go_wp2_with fail
  refine (Put_any _ [] A _ (Sh.nil _) (by simp) (by omega) (by have := HA.out; omega)).mono ?_; rintro e w1 ⟨v1, rfl, ho1, hb1⟩
  have s1 := hb1.size
  go_wp2_with fail
  refine (Put_no _ [] B _ (Sh.nil _) (by simp) (by have := HB.out; omega)).mono ?_; rintro e w2 ⟨v2, rfl, ho2, hb2⟩
  have s2 := hb2.size
  have hb12 := bthen hb1 hb2 (Nat.le_refl _)
  go_wp2_with (go_at_call 15; refine (lives01 _).mono ?_; rintro e w4 ⟨rfl, hb4⟩)
  go_ret
  exact ⟨rfl, bthen hb12 hb4 (by omega)⟩
theorem PrefixOrder_diff (A B : Nat) (w : World) (ha : A < 4611686018427387904) (hb : B < 4611686018427387904) (hs : nsize A ≠ nsize B) :
    Calls Try.prog 4 #[.int .u64 (A : Int), .int .u64 (B : Int)] w fun e w' => e = .returned (.bool true) ∧ Below w.heap.size w w' := by
  have hsz : (((nsize A : Nat) : Int) != ((nsize B : Nat) : Int)) = true := by rw [bne_iff_ne]; omega
  have HA := Lib.hid ha
  have HB := Lib.hid hb
  clear ha hb hs
  go_enter Try.func4, Try.ntmps4
  go_wp2_with fail
  refine (Put_any _ [] A _ (Sh.nil _) (by simp) (by omega) (by have := HA.out; omega)).mono ?_; rintro e w1 ⟨v1, rfl, ho1, hb1⟩
  have s1 := hb1.size
  go_wp2_with fail
  refine (Put_any _ [] B _ (Sh.nil _) (by simp) (by omega) (by have := HB.out; omega)).mono ?_; rintro e w2 ⟨v2, rfl, ho2, hb2⟩
  have s2 := hb2.size
  have hb12 := bthen hb1 hb2 (Nat.le_refl _)
  go_wp2_with (first
    | (go_at_call 13; refine (size_any _ (by omega) _).mono ?_; rintro e w' ⟨rfl, rfl⟩)
    | (go_at_call 15; refine (lives01 _).mono ?_; rintro e w4 ⟨rfl, hb4⟩))
  go_ret
  exact ⟨rfl, bthen hb12 hb4 (by omega)⟩
theorem PrefixOrder_walk (a b : Int) (w : World) (ha : 0 ≤ a) (_ha : a < 18446744073709551616) (hb : 0 ≤ b) (_hb : b < 18446744073709551616) :
    Calls Try.prog 4 #[.int .u64 a, .int .u64 b] w fun e w' => e = .returned (.bool true) ∧ Below w.heap.size w w' := by
  obtain ⟨A, rfl⟩ := Int.eq_ofNat_of_zero_le ha
  obtain ⟨B, rfl⟩ := Int.eq_ofNat_of_zero_le hb
  by_cases h1 : A < 4611686018427387904
  · by_cases h2 : B < 4611686018427387904
    · by_cases h3 : nsize A = nsize B
      · exact PrefixOrder_ok A B w h1 h2 h3
      · exact PrefixOrder_diff A B w h1 h2 h3
    · exact PrefixOrder_big2 A B w h1 (by omega)
  · exact PrefixOrder_big A B w (by omega)

theorem PrefixTakes_err (v : Value) (l : List UInt8) (w : World) (h : Sh w v l) (hl : l.length ≤ 140737488351232) (e : Nat) (ht : tk l = (0, 0, e)) (he : e = 3 ∨ e = 4) :
    Calls Try.prog 6 #[v] w fun e w' => e = .returned (.bool true) ∧ Below w.heap.size w w' := by
  have hr : tkRest l = [] := by unfold tkRest; rw [ht, if_neg (by show ¬ e = 0; omega)]
  have hne : ((e : Int) != 0) = true := by rw [bne_iff_ne]; omega
  have hee : ((e : Int) != (e : Int)) = false := by simp
  have HT := Lib.hid ht
  clear ht he
  go_enter Try.func6, Try.ntmps6
  go_wp2_with fail
  refine (own01_any v l _ h (by omega)).mono ?_; rintro e1 w1 ⟨v1, rfl, ho1, hb1⟩
  have s1 := hb1.size
  go_wp2_with fail
  refine (Take_any v1 l _ ho1.sh (by omega)).mono ?_; rw [HT.out, hr]; rintro e2 w2 ⟨v2, rfl, ho2, hb2⟩
  have s2 := hb2.size
  have hb12 := bthen hb1 hb2 (Nat.le_refl _)
  obtain ⟨x, cap, hv2, -⟩ := ho2.sh.open
  rw [hv2]
  go_wp2_with fail
  refine (refTake_any v l _ (h.below hb12)).mono ?_; rw [HT.out]; rintro e3 w3 ⟨rfl, rfl⟩
  go_wp2_with (go_at_call 15; refine (lives01 _).mono ?_; rintro e4 w4 ⟨rfl, hb4⟩)
  go_ret
  exact ⟨rfl, bthen hb12 hb4 (by omega)⟩
theorem PrefixTakes_ok (v : Value) (l : List UInt8) (w : World) (h : Sh w v l) (hl : l.length ≤ 140737488351232) (n k : Nat) (ht : tk l = (n, k, 0)) (hk : k ≤ l.length) (hn : n < 4611686018427387904) :
    Calls Try.prog 6 #[v] w fun e w' => e = .returned (.bool true) ∧ Below w.heap.size w w' := by
  have hr : tkRest l = l.drop k := by unfold tkRest; rw [ht]; rfl
  have hen := enc_tk l n k ht
  have HT := Lib.hid ht
  have HE := Lib.hid hen
  have HN := Lib.hid hn
  clear ht hen hn
  obtain ⟨x, cap, rfl, g1, g2, g3, g4⟩ := h.open
  clear g3
  go_enter Try.func6, Try.ntmps6
  go_wp2_with fail
  refine (own01_any _ l _ h (by omega)).mono ?_; rintro e1 w1 ⟨v1, rfl, ho1, hb1⟩
  have s1 := hb1.size
  go_wp2_with fail
  refine (Take_any v1 l _ ho1.sh (by omega)).mono ?_; rw [HT.out, hr]; rintro e2 w2 ⟨v2, rfl, ho2, hb2⟩
  have s2 := hb2.size
  have hb12 := bthen hb1 hb2 (Nat.le_refl _)
  go_wp2_with fail
  refine (refTake_any _ l _ (h.below hb12)).mono ?_; rw [HT.out]; rintro e3 w3 ⟨rfl, rfl⟩
  go_wp2_with fail
  refine (Put_any _ [] n _ (Sh.nil _) (by simp) (by omega) (by have := HN.out; omega)).mono ?_; rintro e w4 ⟨v4, rfl, ho4, hb4⟩
  have s4 := hb4.size
  have hb14 := bthen hb12 hb4 (by omega)
  go_wp2_with fail
  have hc2 := conv_run (w := w4.drew) ((ho2.sh.below hb4).below (Below.refl _ _).drew)
  have hc4 := conv_run (w := w4.drew) (ho4.sh.below (Below.refl _ _).drew)
  have hs1 := conv_run (w := w4.drew) (((h.below hb14).drop k hk).below (Below.refl _ _).drew)
  have hs2 := conv_run (w := w4.drew) (((h.below hb14).take k hk).below (Below.refl _ _).drew)
  have hee : ((([] ++ enc (n : Int).toNat) : List UInt8) == l.take k) = true := by simp [HE.out]
  simp only [List.nil_append, Int.toNat_natCast] at hee hc4
  have hkI : (k : Int) ≤ (l.length : Int) := by omega
  have hkC : (k : Int) ≤ (cap : Int) := by omega
  refine region_tail 21 (by kernel_rfl) (by kernel_rfl) ?_
  simp only [List.take_succ_cons, List.take_zero, List.drop_succ_cons, List.drop_zero]
  repeat still_step
  refine wpStill_nil ?_
  go_wp2_with (go_at_call 15; refine (lives01 _).mono ?_; rintro e5 w5 ⟨rfl, hb5⟩)
  all_goals
    go_ret
    exact ⟨rfl, bthen hb14 (((Below.refl _ _).drew).trans hb5) (by omega)⟩
theorem PrefixTakes_walk (v : Value) (l : List UInt8) (w : World) (h : Sh w v l) (hl : l.length ≤ 140737488351232) :
    Calls Try.prog 6 #[v] w fun e w' => e = .returned (.bool true) ∧ Below w.heap.size w w' := by
  rcases tk_cases l with ⟨e, ht, he⟩ | ⟨n, k, ht, hk1, hk2, hn⟩
  · exact PrefixTakes_err v l w h hl e ht he
  · exact PrefixTakes_ok v l w h hl n k ht hk2 hn

theorem PrefixBack_no (N : Nat) (v : Value) (r : List UInt8) (c : Int) (w : World) (hn : 4611686018427387904 ≤ N) :
    Calls Try.prog 7 #[.int .u64 (N : Int), v, .int .u8 c] w fun e w' => e = .returned (.bool true) ∧ Below w.heap.size w w' := by
  have hgt : decide ((4611686018427387903 : Int) < (N : Int)) = true := by simp; omega
  go_enter Try.func7, Try.ntmps7
  go_wp2_with fail
  refine (Put_no _ [] N _ (Sh.nil _) (by simp) (by omega)).mono ?_; rintro e w1 ⟨v1, rfl, ho1, hb1⟩
  go_wp2_with (go_at_call 15; refine (lives01 _).mono ?_; rintro e5 w5 ⟨rfl, hb5⟩)
  go_ret
  exact ⟨rfl, bthen hb1 hb5 (Nat.le_refl _)⟩
theorem PrefixBack_ok (N : Nat) (v : Value) (r : List UInt8) (c : Int) (w : World) (h : Sh w v r) (hr : r.length ≤ 140737488351232) (hc0 : 0 ≤ c) (hc1 : c < 256) (hn : N < 4611686018427387904) :
    Calls Try.prog 7 #[.int .u64 (N : Int), v, .int .u8 c] w fun e w' => e = .returned (.bool true) ∧ Below w.heap.size w w' := by
  have hel := enc_length N hn
  have hns : 1 ≤ nsize N ∧ nsize N ≤ 8 := by
    rcases size_cases N hn with k1 | ⟨k1, k2⟩ | ⟨k1, k2⟩ | ⟨k1, k2⟩
    · rw [nsize_1 k1]; omega
    · rw [nsize_2 k1 k2]; omega
    · rw [nsize_4 k1 k2]; omega
    · rw [nsize_8 k1 k2]; omega
  obtain ⟨J, hJ⟩ : ∃ J : Nat, c % ((nsize N : Nat) : Int) = (J : Int) := ⟨(c % ((nsize N : Nat) : Int)).toNat, (Int.toNat_of_nonneg (Int.emod_nonneg _ (by omega))).symm⟩
  have hJ1 : J < nsize N := by have := Int.emod_lt_of_pos c (show (0 : Int) < ((nsize N : Nat) : Int) by omega); omega
  have hJI : (J : Int) ≤ ((nsize N : Nat) : Int) := by omega
  have ht1 := tk_enc N hn r
  have ht2 := tk_cut N hn J hJ1
  have HT1 := Lib.hid ht1
  have HT2 := Lib.hid ht2
  have hr1 : tkRest (enc N ++ r) = r := by unfold tkRest; rw [ht1]; rw [← hel]; simp
  have hr2 : tkRest ((enc N).take J) = [] := by unfold tkRest; rw [ht2]; rfl
  have HR1 := Lib.hid hr1
  have HR2 := Lib.hid hr2
  clear ht1 ht2 hr1 hr2
  have HN := Lib.hid hn
  have HE := Lib.hid hel
  clear hn hel
  go_enter Try.func7, Try.ntmps7
  go_wp2_with fail
  refine (Put_any _ [] N _ (Sh.nil _) (by simp) (by omega) (by have := HN.out; omega)).mono ?_; rw [List.nil_append, Int.toNat_natCast]; rintro e1 w1 ⟨v1, rfl, ho1, hb1⟩
  obtain ⟨x, cap, hv1, g1, g2, g3, g4⟩ := ho1.sh.open
  rw [HE.out] at hv1 g1 g4
  rw [hv1] at ho1 ⊢
  clear hv1 g3
  have s1 := hb1.size
  go_wp2_with fail
  refine (own01_any _ (enc N) _ g4 (by have := HE.out; omega)).mono ?_; rintro e2 w2 ⟨v2, rfl, ho2, hb2⟩
  have s2 := hb2.size
  have hb12 := bthen hb1 hb2 (Nat.le_refl _)
  go_wp2_with (at_builtin; refine app_bytes (base := w1.heap.size) Try.underlying22 info_byte rfl (.tmp 32) (.tmp 33) rfl rfl ho2 rfl (h.below hb12) (by have := HE.out; omega) s2 ?_; intro v3 w3 ho3 hb3)
  have s3 := hb3.size
  have hb13 := bthen hb1 (hb2.trans hb3) (Nat.le_refl _)
  refine (Take_any v3 _ _ ho3.sh (by have := HE.out; simp; omega)).mono ?_; rw [HT1.out, HR1.out]; rintro e4 w4 ⟨v4, rfl, ho4, hb4⟩
  have s4 := hb4.size
  have hb14 := bthen hb13 hb4 (by omega)
  have hb04 := (bthen (hb2.trans hb3) hb4 (Nat.le_refl _))
  have htk := (g4.take J (by have := HE.out; omega)).below hb04
  go_wp2_with fail
  refine (own01_any _ _ _ htk (by have := HE.out; simp; omega)).mono ?_; rintro e5 w5 ⟨v5, rfl, ho5, hb5⟩
  have s5 := hb5.size
  have hb15 := bthen hb14 hb5 (by omega)
  go_wp2_with fail
  refine (Take_any v5 _ _ ho5.sh (by have := HE.out; simp; omega)).mono ?_; rw [HT2.out, HR2.out]; rintro e6 w6 ⟨v6, rfl, ho6, hb6⟩
  have s6 := hb6.size
  have hb16 := bthen hb15 hb6 (by omega)
  obtain ⟨x6, cap6, hv6, -⟩ := ho6.sh.open
  rw [hv6]
  have hc4 := conv_run ((ho4.sh.below hb5).below hb6)
  have hcv := conv_run (h.below hb16)
  go_wp2_with (go_at_call 15; refine (lives01 _).mono ?_; rintro e7 w7 ⟨rfl, hb7⟩)
  go_ret
  exact ⟨rfl, bthen hb16 hb7 (by omega)⟩
theorem PrefixBack_walk (a : Int) (v : Value) (r : List UInt8) (c : Int) (w : World) (ha : 0 ≤ a) (_ha : a < 18446744073709551616) (h : Sh w v r) (hr : r.length ≤ 140737488351232) (hc0 : 0 ≤ c) (hc1 : c < 256) :
    Calls Try.prog 7 #[.int .u64 a, v, .int .u8 c] w fun e w' => e = .returned (.bool true) ∧ Below w.heap.size w w' := by
  obtain ⟨N, rfl⟩ := Int.eq_ofNat_of_zero_le ha
  by_cases hn : N < 4611686018427387904
  · exact PrefixBack_ok N v r c w h hr hc0 hc1 hn
  · exact PrefixBack_no N v r c w (by omega)
end Go.Proofs.Ytgikmhpfkgacjaa
