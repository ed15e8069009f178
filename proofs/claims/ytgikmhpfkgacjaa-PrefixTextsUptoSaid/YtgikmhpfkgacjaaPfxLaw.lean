import Derived.Test.YtgikmhpfkgacjaaPfx4
namespace Go.Proofs.Ytgikmhpfkgacjaa
set_option linter.unusedVariables false
set_option linter.unusedSimpArgs false
set_option linter.unnecessarySimpa false
open Go.RowKit
set_option maxRecDepth 20000

theorem lives01 (w : World) : Calls Try.prog 15 #[] w fun e w' => e = .returned (.bool true) ∧ Below w.heap.size w w' := by
  have e1 : enc 64 = [64, 64] := rfl
  have e2 : nsize 64 = 2 := rfl
  go_enter Try.func15, Try.ntmps15
  go_wp2_with (first
    | (go_at_call 10; refine (Put_any _ [] 64 _ (Sh.nil _) (by simp) (by omega) (by omega)).mono ?_; rintro e w1 ⟨v1, rfl, ho1, hb1⟩; have hcv := conv_run ho1.sh)
    | (go_at_call 13; refine (size_any _ (by omega) _).mono ?_; rintro e w' ⟨rfl, rfl⟩))
  go_ret
  exact ⟨rfl, hb1⟩

theorem PrefixPuts_walk (v : Value) (l : List UInt8) (n : Int) (w : World) (h : Sh w v l) (hl : l.length ≤ 140737488351232) (h0 : 0 ≤ n) (_hn : n < 18446744073709551616) :
    Calls Try.prog 3 #[v, .int .u64 n] w fun e w' => e = .returned (.bool true) ∧ Below w.heap.size w w' := by
  obtain ⟨N, rfl⟩ := Int.eq_ofNat_of_zero_le h0
  by_cases hn : N < 4611686018427387904
  · have HN := Lib.hid hn
    clear hn
    go_enter Try.func3, Try.ntmps3
    go_wp2_with (first
      | (go_at_call 11; refine (own01_any v l _ h (by omega)).mono ?_; rintro e w1 ⟨v1, rfl, ho1, hb1⟩; have s1 := hb1.size)
      | (go_at_call 10; refine (Put_any v1 l _ _ ho1.sh (by omega) (by omega) (by have := HN.out; omega)).mono ?_; rintro e w2 ⟨v2, rfl, ho2, hb2⟩; have s2 := hb2.size; have hb12 := bthen hb1 hb2 (Nat.le_refl _))
      | (go_at_call 12; refine (refPut_any v l N _ (h.below hb12) (by omega) HN.out).mono ?_; rintro e w3 ⟨v3, rfl, ho3, hb3⟩; have s3 := hb3.size; have hc2 := conv_run (ho2.sh.below hb3); have hc3 := conv_run ho3.sh)
      | (go_at_call 13; refine (size_any _ (by omega) _).mono ?_; rintro e w' ⟨rfl, rfl⟩)
      | (go_at_call 14; refine (refSize_any _ (by omega) _).mono ?_; rintro e w' ⟨rfl, rfl⟩)
      | (go_at_call 15; refine (lives01 _).mono ?_; rintro e w4 ⟨rfl, hb4⟩))
    go_ret
    exact ⟨rfl, bthen (bthen hb12 hb3 (by omega)) hb4 (by omega)⟩
  · have HN := Lib.hid hn
    clear hn
    go_enter Try.func3, Try.ntmps3
    go_wp2_with (first
      | (go_at_call 11; refine (own01_any v l _ h (by omega)).mono ?_; rintro e w1 ⟨v1, rfl, ho1, hb1⟩; have s1 := hb1.size)
      | (go_at_call 10; refine (Put_no v1 l _ _ ho1.sh (by omega) (by have := HN.out; omega)).mono ?_; rintro e w2 ⟨v2, rfl, ho2, hb2⟩; have s2 := hb2.size; have hb12 := bthen hb1 hb2 (Nat.le_refl _))
      | (go_at_call 12; refine (refPut_no v l N _ (h.below hb12) (by omega) (by have := HN.out; omega)).mono ?_; rintro e w3 ⟨v3, rfl, ho3, hb3⟩; have s3 := hb3.size; have hc2 := conv_run (ho2.sh.below hb3); have hc3 := conv_run ho3.sh)
      | (go_at_call 13; refine (size_any _ (by omega) _).mono ?_; rintro e w' ⟨rfl, rfl⟩)
      | (go_at_call 14; refine (refSize_any _ (by omega) _).mono ?_; rintro e w' ⟨rfl, rfl⟩)
      | (go_at_call 15; refine (lives01 _).mono ?_; rintro e w4 ⟨rfl, hb4⟩))
    go_ret
    exact ⟨rfl, bthen (bthen hb12 hb3 (by omega)) hb4 (by omega)⟩
end Go.Proofs.Ytgikmhpfkgacjaa
