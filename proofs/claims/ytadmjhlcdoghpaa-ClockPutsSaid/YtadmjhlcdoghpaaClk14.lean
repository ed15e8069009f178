/- Clocks: the law ClockPuts. (printed by gen/clk14.py) -/
import Derived.Test.YtadmjhlcdoghpaaClk11
import Derived.Test.YtadmjhlcdoghpaaClk13
import Derived.Test.YtadmjhlcdoghpaaConv
namespace Go.Proofs.Ytadmjhlcdoghpaa
set_option linter.unusedVariables false
set_option linter.unusedSimpArgs false
set_option linter.unnecessarySimpa false
open Go.RowKit
set_option maxRecDepth 100000
set_option maxHeartbeats 8000000

theorem ClockPuts_bad (v : Value) (b : List UInt8) (A : List Int) (w : World) (h : Sh w v b) (hl : b.length ≤ 140737488351232) (hA : A.length = 8) (hp : ∀ j, j < 8 → 0 ≤ A.getD j 0) (k : Nat) (hk : k < 8) (h0 : ∀ j, j < k → 0 ≤ A.getD j 0 ∧ A.getD j 0 < 4611686018427387904) (hbad : 4611686018427387904 ≤ A.getD k 0) :
    Calls Try.prog 7 #[v, clockV A] w fun e w' => e = .returned (.bool true) ∧ Below w.heap.size w w' := by
  have HA := Lib.hid hA
  have H0 := Lib.hid h0
  have H' := Lib.hid h
  have HP := Lib.hid hp
  have HBd := Lib.hid hbad
  clear hp hbad
  clear hA h0 h
  unfold clockV
  go_enter Try.func7, Try.ntmps7
  go_upto_region 1 with fail
  obtain ⟨W, hW, R0, Hb, -⟩ := pre1 A w
  rw [hW]
  clear hW
  simp only [clockV_eq]
  have H := Lib.hid (show Sh W v b from H'.out.at' Hb.out (Nat.le_refl _))
  clear H'
  refine wp_region_held_drew (S := fun w' => Below W.heap.size W w') (by kernel_rfl) (by exact (Below.refl _ _).drew) (fun hHeld => ?_)
  refine wpAnyH_take (i := 3) (v := _) (by simp only [List.getElem?_toArray, List.getElem?_cons_zero, List.getElem?_cons_succ] <;> rfl) (by kernel_rfl) (by kernel_rfl) (by kernel_rfl) (by intro _ _ _ h; exact h) (yieldsIf_row (by with_unfolding_all rfl) (.tmp 3) rfl _ rfl A HA.out (fun w' hS => Arr.keep R0.out hS)) (by assumption) ?_
  try simp only [Act.put, List.setIfInBounds_toArray, List.set_cons_zero, List.set_cons_succ, Array.replicate]
  refine wpAnyH_take (i := 1) (v := ?_) (by simp only [List.getElem?_toArray, List.getElem?_cons_zero, List.getElem?_cons_succ] <;> rfl) (by kernel_rfl) (by kernel_rfl) (by kernel_rfl) (by intro _ _ _ h; exact h) (Or.inl ⟨by rfl, ?_⟩) (by assumption) ?_
  rotate_left
  · intro w _; go_simp; try with_reducible rfl
  try simp only [Act.put, List.setIfInBounds_toArray, List.set_cons_zero, List.set_cons_succ, Array.replicate]
  refine wpAnyH_ready (rs := [0]) (by kernel_rfl) (by simp) ?_
  refine AllReadyH.cons (by simp only [List.getElem?_toArray, List.getElem?_cons_zero, List.getElem?_cons_succ] <;> rfl) (fun K hK => ?_) ?_
  · go_simp
    refine hK.out _ _ (by first | exact bstep hHeld hbq | exact balloc hHeld _ | exact hHeld) (fun hHeld => ?_)
    clear hK K
    try simp only [Act.put, List.setIfInBounds_toArray, List.set_cons_zero, List.set_cons_succ, Array.replicate]
    refine wpAnyH_ready (rs := [2]) (by kernel_rfl) (by simp) ?_
    refine AllReadyH.cons (by simp only [List.getElem?_toArray, List.getElem?_cons_zero, List.getElem?_cons_succ] <;> rfl) (fun K hK => ?_) ?_
    · refine step_app_fresh_g Try.underlying31 info_byte rfl (by decide) (by with_unfolding_all rfl) (.tmp 15) (.tmp 16) rfl rfl (by first | exact Row.new _ _ [] | exact Row.keep (Row.new _ _ []) (by assumption)) rfl (Shows.below H.out (by exact hHeld)) (bytes_one _) (by omega) (by omega) ?_; intro v4 wq hcl0 hbq; have hcl : Sh wq v4 b := hcl0
      refine hK.out _ _ (by first | exact bstep hHeld hbq | exact balloc hHeld _ | exact hHeld) (fun hHeld => ?_)
      clear hK K
      try simp only [Act.put, List.setIfInBounds_toArray, List.set_cons_zero, List.set_cons_succ, Array.replicate]
      refine wpAnyH_ready (rs := [4]) (by kernel_rfl) (by simp) ?_
      refine AllReadyH.cons (by simp only [List.getElem?_toArray, List.getElem?_cons_zero, List.getElem?_cons_succ] <;> rfl) (fun K hK => ?_) ?_
      · go_simp; go_at_call 17; with_reducible refine (putC_no _ b A HA.out k hk H0.out HBd.out _ hcl (by omega)).mono ?_; rintro e wq ⟨vx, rfl, hox, hbq⟩; try go_simp
        refine hK.out _ _ (by first | exact bstep hHeld hbq | exact balloc hHeld _ | exact hHeld) (fun hHeld => ?_)
        clear hK K
        try simp only [Act.put, List.setIfInBounds_toArray, List.set_cons_zero, List.set_cons_succ, Array.replicate]
        refine wpAnyH_take (i := 5) (v := ?_) (by simp only [List.getElem?_toArray, List.getElem?_cons_zero, List.getElem?_cons_succ] <;> rfl) (by kernel_rfl) (by kernel_rfl) (by kernel_rfl) (by intro _ _ _ h; exact h) (Or.inl ⟨by rfl, ?_⟩) (by assumption) ?_
        rotate_left
        · intro w _; go_simp; try with_reducible rfl
        try simp only [Act.put, List.setIfInBounds_toArray, List.set_cons_zero, List.set_cons_succ, Array.replicate]
        refine wpAnyH_take (i := 6) (v := ?_) (by simp only [List.getElem?_toArray, List.getElem?_cons_zero, List.getElem?_cons_succ] <;> rfl) (by kernel_rfl) (by kernel_rfl) (by kernel_rfl) (by intro _ _ _ h; exact h) (Or.inl ⟨by rfl, ?_⟩) (by assumption) ?_
        rotate_left
        · intro w _; go_simp; try with_reducible rfl
        try simp only [Act.put, List.setIfInBounds_toArray, List.set_cons_zero, List.set_cons_succ, Array.replicate]
        refine wpAnyH_take (i := 7) (v := ?_) (by simp only [List.getElem?_toArray, List.getElem?_cons_zero, List.getElem?_cons_succ] <;> rfl) (by kernel_rfl) (by kernel_rfl) (by kernel_rfl) (by intro _ _ _ h; exact h) (Or.inl ⟨by rfl, ?_⟩) (by assumption) ?_
        rotate_left
        · intro w _; go_simp; try with_reducible rfl
        try simp only [Act.put, List.setIfInBounds_toArray, List.set_cons_zero, List.set_cons_succ, Array.replicate]
        refine wpAnyH_take (i := 8) (v := ?_) (by simp only [List.getElem?_toArray, List.getElem?_cons_zero, List.getElem?_cons_succ] <;> rfl) (by kernel_rfl) (by kernel_rfl) (by kernel_rfl) (by intro _ _ _ h; exact h) (Or.inl ⟨by rfl, ?_⟩) (by assumption) ?_
        rotate_left
        · intro w _; go_simp; try with_reducible rfl
        try simp only [Act.put, List.setIfInBounds_toArray, List.set_cons_zero, List.set_cons_succ, Array.replicate]
        refine wpAnyH_take (i := 9) (v := ?_) (by simp only [List.getElem?_toArray, List.getElem?_cons_zero, List.getElem?_cons_succ] <;> rfl) (by kernel_rfl) (by kernel_rfl) (by kernel_rfl) (by intro _ _ _ h; exact h) (Or.inl ⟨by rfl, ?_⟩) (by assumption) ?_
        rotate_left
        · intro w _; go_simp; try with_reducible rfl
        try simp only [Act.put, List.setIfInBounds_toArray, List.set_cons_zero, List.set_cons_succ, Array.replicate]
        refine wpAnyH_done (by kernel_rfl) ?_ _
        have hX := hox
        go_wp2_with (first
          | (with_reducible refine load_clock rfl (.tmp 3) rfl _ rfl A HA.out (Arr.keep R0.out (by exact hHeld)) ?_)
          | (go_at_call 18; with_reducible refine (refPutC_no _ b A HA.out HP.out k hk H0.out HBd.out _ (H.out.below (by exact hHeld)) (by omega)).mono ?_; rintro e w2 ⟨v2, rfl, ho2, hb2⟩; have hc1 := conv_run (hX.below hb2); have hc2 := conv_run ho2)
          | (go_at_call 11; with_reducible refine (lives13 _).mono ?_; rintro e w3 ⟨rfl, hb3⟩))
        go_ret
        exact ⟨rfl, bthen (bthen (bthen Hb.out hHeld (Nat.le_refl _)) hb2 (Nat.le_refl _)) hb3 (Nat.le_refl _)⟩
      exact AllReadyH.nil
    exact AllReadyH.nil
  exact AllReadyH.nil

theorem ClockPuts_ok (v : Value) (b : List UInt8) (A : List Int) (w : World) (h : Sh w v b) (hl : b.length ≤ 140737488351232) (hA : A.length = 8) (h0 : ∀ j, j < 8 → 0 ≤ A.getD j 0 ∧ A.getD j 0 < 4611686018427387904) :
    Calls Try.prog 7 #[v, clockV A] w fun e w' => e = .returned (.bool true) ∧ Below w.heap.size w w' := by
  have hpl : (putC A).length ≤ 65 := by
    have := encs_take_le A hA 8 (by omega) h0
    rw [List.take_of_length_le (by omega)] at this
    simp [putC]; omega
  have HA := Lib.hid hA
  have H0 := Lib.hid h0
  have H' := Lib.hid h
  have he := beq_self A
  clear hA h0 h
  unfold clockV
  go_enter Try.func7, Try.ntmps7
  go_upto_region 1 with fail
  obtain ⟨W, hW, R0, Hb, -⟩ := pre1 A w
  rw [hW]
  clear hW
  simp only [clockV_eq]
  have H := Lib.hid (show Sh W v b from H'.out.at' Hb.out (Nat.le_refl _))
  clear H'
  refine wp_region_held_drew (S := fun w' => Below W.heap.size W w') (by kernel_rfl) (by exact (Below.refl _ _).drew) (fun hHeld => ?_)
  refine wpAnyH_take (i := 3) (v := _) (by simp only [List.getElem?_toArray, List.getElem?_cons_zero, List.getElem?_cons_succ] <;> rfl) (by kernel_rfl) (by kernel_rfl) (by kernel_rfl) (by intro _ _ _ h; exact h) (yieldsIf_row (by with_unfolding_all rfl) (.tmp 3) rfl _ rfl A HA.out (fun w' hS => Arr.keep R0.out hS)) (by assumption) ?_
  try simp only [Act.put, List.setIfInBounds_toArray, List.set_cons_zero, List.set_cons_succ, Array.replicate]
  refine wpAnyH_take (i := 1) (v := ?_) (by simp only [List.getElem?_toArray, List.getElem?_cons_zero, List.getElem?_cons_succ] <;> rfl) (by kernel_rfl) (by kernel_rfl) (by kernel_rfl) (by intro _ _ _ h; exact h) (Or.inl ⟨by rfl, ?_⟩) (by assumption) ?_
  rotate_left
  · intro w _; go_simp; try with_reducible rfl
  try simp only [Act.put, List.setIfInBounds_toArray, List.set_cons_zero, List.set_cons_succ, Array.replicate]
  refine wpAnyH_ready (rs := [0]) (by kernel_rfl) (by simp) ?_
  refine AllReadyH.cons (by simp only [List.getElem?_toArray, List.getElem?_cons_zero, List.getElem?_cons_succ] <;> rfl) (fun K hK => ?_) ?_
  · go_simp
    refine hK.out _ _ (by first | exact bstep hHeld hbq | exact balloc hHeld _ | exact hHeld) (fun hHeld => ?_)
    clear hK K
    try simp only [Act.put, List.setIfInBounds_toArray, List.set_cons_zero, List.set_cons_succ, Array.replicate]
    refine wpAnyH_ready (rs := [2]) (by kernel_rfl) (by simp) ?_
    refine AllReadyH.cons (by simp only [List.getElem?_toArray, List.getElem?_cons_zero, List.getElem?_cons_succ] <;> rfl) (fun K hK => ?_) ?_
    · refine step_app_fresh_g Try.underlying31 info_byte rfl (by decide) (by with_unfolding_all rfl) (.tmp 15) (.tmp 16) rfl rfl (by first | exact Row.new _ _ [] | exact Row.keep (Row.new _ _ []) (by assumption)) rfl (Shows.below H.out (by exact hHeld)) (bytes_one _) (by omega) (by omega) ?_; intro v4 wq hcl0 hbq; have hcl : Sh wq v4 b := hcl0
      refine hK.out _ _ (by first | exact bstep hHeld hbq | exact balloc hHeld _ | exact hHeld) (fun hHeld => ?_)
      clear hK K
      try simp only [Act.put, List.setIfInBounds_toArray, List.set_cons_zero, List.set_cons_succ, Array.replicate]
      refine wpAnyH_ready (rs := [4]) (by kernel_rfl) (by simp) ?_
      refine AllReadyH.cons (by simp only [List.getElem?_toArray, List.getElem?_cons_zero, List.getElem?_cons_succ] <;> rfl) (fun K hK => ?_) ?_
      · go_simp; go_at_call 17; with_reducible refine (putC_any _ b A HA.out H0.out _ hcl (by omega)).mono ?_; rintro e wq ⟨vx, rfl, hox, hbq⟩; try go_simp
        refine hK.out _ _ (by first | exact bstep hHeld hbq | exact balloc hHeld _ | exact hHeld) (fun hHeld => ?_)
        clear hK K
        try simp only [Act.put, List.setIfInBounds_toArray, List.set_cons_zero, List.set_cons_succ, Array.replicate]
        refine wpAnyH_take (i := 5) (v := ?_) (by simp only [List.getElem?_toArray, List.getElem?_cons_zero, List.getElem?_cons_succ] <;> rfl) (by kernel_rfl) (by kernel_rfl) (by kernel_rfl) (by intro _ _ _ h; exact h) (Or.inl ⟨by rfl, ?_⟩) (by assumption) ?_
        rotate_left
        · intro w _; go_simp; try with_reducible rfl
        try simp only [Act.put, List.setIfInBounds_toArray, List.set_cons_zero, List.set_cons_succ, Array.replicate]
        refine wpAnyH_take (i := 6) (v := ?_) (by simp only [List.getElem?_toArray, List.getElem?_cons_zero, List.getElem?_cons_succ] <;> rfl) (by kernel_rfl) (by kernel_rfl) (by kernel_rfl) (by intro _ _ _ h; exact h) (Or.inl ⟨by rfl, ?_⟩) (by assumption) ?_
        rotate_left
        · intro w _; go_simp; try with_reducible rfl
        try simp only [Act.put, List.setIfInBounds_toArray, List.set_cons_zero, List.set_cons_succ, Array.replicate]
        refine wpAnyH_take (i := 7) (v := ?_) (by simp only [List.getElem?_toArray, List.getElem?_cons_zero, List.getElem?_cons_succ] <;> rfl) (by kernel_rfl) (by kernel_rfl) (by kernel_rfl) (by intro _ _ _ h; exact h) (Or.inl ⟨by rfl, ?_⟩) (by assumption) ?_
        rotate_left
        · intro w _; go_simp; try with_reducible rfl
        try simp only [Act.put, List.setIfInBounds_toArray, List.set_cons_zero, List.set_cons_succ, Array.replicate]
        refine wpAnyH_take (i := 8) (v := ?_) (by simp only [List.getElem?_toArray, List.getElem?_cons_zero, List.getElem?_cons_succ] <;> rfl) (by kernel_rfl) (by kernel_rfl) (by kernel_rfl) (by intro _ _ _ h; exact h) (Or.inl ⟨by rfl, ?_⟩) (by assumption) ?_
        rotate_left
        · intro w _; go_simp; try with_reducible rfl
        try simp only [Act.put, List.setIfInBounds_toArray, List.set_cons_zero, List.set_cons_succ, Array.replicate]
        refine wpAnyH_take (i := 9) (v := ?_) (by simp only [List.getElem?_toArray, List.getElem?_cons_zero, List.getElem?_cons_succ] <;> rfl) (by kernel_rfl) (by kernel_rfl) (by kernel_rfl) (by intro _ _ _ h; exact h) (Or.inl ⟨by rfl, ?_⟩) (by assumption) ?_
        rotate_left
        · intro w _; go_simp; try with_reducible rfl
        try simp only [Act.put, List.setIfInBounds_toArray, List.set_cons_zero, List.set_cons_succ, Array.replicate]
        refine wpAnyH_done (by kernel_rfl) ?_ _
        have hX := hox.sh
        go_upto_region 7 with (first
          | (with_reducible refine load_clock rfl (.tmp 3) rfl _ rfl A HA.out (Arr.keep R0.out (by exact hHeld)) ?_)
          | (go_at_call 18; with_reducible refine (refPutC_any _ b A HA.out H0.out _ (H.out.below (by exact hHeld)) (by omega)).mono ?_; rintro e w2 ⟨v2, rfl, ho2, hb2⟩; have hc1 := conv_run (hX.below hb2); have hc2 := conv_run ho2))
        have hWw2 : Below W.heap.size W w2 := bstep hHeld hb2
        have R2 := Lib.hid (Arr.keep R0.out hWw2)
        have H2 := Lib.hid (H.out.below hWw2)
        have B2 := Lib.hid (bthen Hb.out hWw2 (Nat.le_refl _))
        clear hHeld hb2 hWw2 hX hox hc1 hc2 ho2 R0 Hb H
        go_upto_region 8 with (first
          | (with_reducible refine load_clock rfl (.tmp 3) rfl _ rfl A HA.out R2.out ?_)
          | (go_at_call 17; with_reducible refine (putC_any _ [] A HA.out H0.out _ (Sh.nil _) (by simp)).mono ?_; rintro e w3 ⟨v3, rfl, ho3, hb3⟩))
        have Z3 := Lib.hid (show Sh w3 v3 (putC A) from by simpa using ho3.sh)
        have R3 := Lib.hid (Arr.keep R2.out hb3)
        have H3 := Lib.hid (H2.out.below hb3)
        have B3 := Lib.hid (bthen B2.out hb3 (Nat.le_refl _))
        clear ho3 hb3 R2 H2 B2
        have b0 : Below w3.heap.size w3 (w3.alloc (.cells #[] 5)) := balloc (Below.refl _ _) _
        have B0 := Lib.hid b0
        clear b0
        go_upto_region 9 with (first
          | (at_builtin; refine app_bytes (base := w3.heap.size) Try.underlying31 info_byte rfl (.tmp 47) (.tmp 48) rfl (l := []) rfl (Own.lit w3 5 []) rfl (Z3.out.below B0.out) (by simp; omega) (by simp) ?_; intro v5 w5 ho5 hb5; have O5 := Lib.hid ho5; have B5 := Lib.hid (B0.out.trans hb5); clear ho5 hb5)
          | (at_builtin; refine app_bytes (base := w3.heap.size) Try.underlying31 info_byte rfl (.tmp 49) (.tmp 50) rfl rfl O5.out rfl (H3.out.below B5.out) (by simp; omega) (by have := B5.out.size; omega) ?_; intro v6 w6 ho6 hb6; have O6 := Lib.hid (show Sh w6 v6 (putC A ++ b) from by simpa using ho6.sh); have B6 := Lib.hid (B5.out.trans hb6); clear ho6 hb6)
          | (go_at_call 19; with_reducible refine (takeC_any v6 b A HA.out H0.out _ O6.out (by omega)).mono ?_; rintro e w7 ⟨v7, rfl, ho7, hb7⟩; obtain ⟨W8, hW8, T8, Tb8, -⟩ := preZ w7)
          | (with_reducible refine store_clock rfl (.tmp 11) (.tmp 53) rfl _ rfl A rfl HA.out _ zeros T8.out rfl ?_))
        have b37 := bstep B6.out hb7
        have bU := bsetRow Tb8.out (Nat.le_refl _) (nums .u64 A).toArray
        have RA := Lib.hid (Arr.keep (Arr.keep R3.out b37) bU)
        have R11 := Lib.hid (Arr.setRow T8.out A)
        have hc3 := conv_run (ho7.below bU)
        have hc4 := conv_run ((H3.out.below b37).below bU)
        have BU := Lib.hid (bthen (bthen B3.out b37 (Nat.le_refl _)) bU (Nat.le_refl _))
        clear hW8 b37 bU ho7 T8 Tb8 hb7
        generalize W8.setRow w7.heap.size (nums .u64 A).toArray = U at *
        go_wp2_with (first
          | (with_reducible refine load_clock rfl (.tmp 11) rfl _ rfl A HA.out R11.out ?_)
          | (with_reducible refine load_clock rfl (.tmp 3) rfl _ rfl A HA.out RA.out ?_)
          | (with_reducible refine eql_clock rfl (.tmp 56) (.tmp 57) rfl A A rfl rfl HA.out HA.out _ he ?_)
          | (go_at_call 11; with_reducible refine (lives13 _).mono ?_; rintro e w9 ⟨rfl, hb9⟩))
        go_ret
        exact ⟨rfl, bthen BU.out hb9 (Nat.le_refl _)⟩
      exact AllReadyH.nil
    exact AllReadyH.nil
  exact AllReadyH.nil

theorem first_bad (A : List Int) : ∀ n, (∀ j, j < n → A.getD j 0 < 4611686018427387904) ∨ ∃ k, k < n ∧ 4611686018427387904 ≤ A.getD k 0 ∧ ∀ j, j < k → A.getD j 0 < 4611686018427387904
  | 0 => .inl fun j h => by omega
  | n + 1 => by
    rcases first_bad A n with h | ⟨k, hk, h1, h2⟩
    · by_cases hc : A.getD n 0 < 4611686018427387904
      · exact .inl fun j hj => by
          by_cases hjn : j < n
          · exact h j hjn
          · obtain rfl : j = n := by omega
            exact hc
      · exact .inr ⟨n, by omega, by omega, h⟩
    · exact .inr ⟨k, by omega, h1, h2⟩
theorem ClockPuts_walk (v : Value) (b : List UInt8) (A : List Int) (w : World) (h : Sh w v b) (hl : b.length ≤ 140737488351232) (hA : A.length = 8) (h0 : ∀ j, j < 8 → 0 ≤ A.getD j 0 ∧ A.getD j 0 < 18446744073709551616) :
    Calls Try.prog 7 #[v, clockV A] w fun e w' => e = .returned (.bool true) ∧ Below w.heap.size w w' := by
  rcases first_bad A 8 with hg | ⟨k, hk, h1, h2⟩
  · exact ClockPuts_ok v b A w h hl hA fun j hj => ⟨(h0 j hj).1, hg j hj⟩
  · exact ClockPuts_bad v b A w h hl hA (fun j hj => (h0 j hj).1) k hk (fun j hj => ⟨(h0 j (by omega)).1, h2 j hj⟩) h1
end Go.Proofs.Ytadmjhlcdoghpaa
