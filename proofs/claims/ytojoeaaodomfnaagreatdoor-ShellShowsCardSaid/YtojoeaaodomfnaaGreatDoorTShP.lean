/- The walk of ShellParses. (printed by gen/tshp.py) -/
import Derived.Test.YtojoeaaodomfnaaGreatDoorLiv28
import Derived.Test.YtojoeaaodomfnaaGreatDoorWay28
import Derived.Test.YtojoeaaodomfnaaGreatDoorRShl7
import Derived.OrdersHeld
import Derived.Deep.RegionHeld
namespace Go.Proofs.YtojoeaaodomfnaaGreatDoor
set_option linter.unusedVariables false
set_option linter.unusedSimpArgs false
set_option linter.unnecessarySimpa false
open Go.RowKit
set_option maxRecDepth 100000
set_option maxHeartbeats 4000000
theorem same_box (x : Shl.Ev) (w : World) : Calls Tryz.prog 9 #[.agg (evC x).toArray, .agg (evC x).toArray] w fun en w' => en = .returned (.bool true) ∧ Below w.heap.size w w' :=
  lsame_any x 0 0 _ _ _ _ nil0 nil0 nil0 nil0 w
/-- The document's words, the first one in a cell. -/
theorem words_first (s : ByteArray) (hs : s.size < 4294967281) (w : World) : Calls Tryz.prog 13 #[.string s] w fun e w' => ∃ b o n c, e = .returned (.slice (some ⟨b, o, none⟩) n c) ∧ 0 < n ∧ w'.cell? ⟨b, o, none⟩ = some (.string (bs ((Shl.wordsL s.data.toList).headD []))) ∧ Below w.heap.size w w' := by
  refine (rwords_any s hs w).mono ?_
  rintro e w' hq
  obtain ⟨v, rfl, hown, hb⟩ := hq
  have hl : 0 < (strs (wordsB s)).length := by rw [strs_length]; exact wordsB_pos s
  obtain ⟨a, c, rfl, h1, h2, h3, h4⟩ := hown.shows.open
  obtain ⟨b, o, rfl, h5⟩ := h4.cells1 hl
  refine ⟨b, o, _, c, rfl, hl, ?_, hb⟩
  have h6 := h5 0 (.string (bs ((Shl.wordsL s.data.toList).headD []))) (by
    have hn := Shl.wordsL_ne s.data.toList
    unfold wordsB strs
    cases hw : Shl.wordsL s.data.toList with
    | nil => exact absurd hw hn
    | cons x r => rfl)
  simpa using h6
theorem ShellParses_walk (s : ByteArray) (w : World) (hg : Gl w) : Calls Tryz.prog 5 #[.string s] w fun e w' => e = .returned (.bool true) ∧ Below w.heap.size w w' := by
  have HG := Lib.hid hg
  clear hg
  by_cases hbig : 3000 < s.size
  · have hbI : (3000 : Int) < (s.size : Int) := by omega
    go_enter Tryz.func5, Tryz.ntmps5
    go_wp2_with (go_at_call 6; refine (lives_any _ HG.out).mono ?_; rintro e w1 ⟨rfl, hb1⟩; have B1 := Lib.hid hb1; clear hb1)
    go_ret
    exact ⟨rfl, B1.out⟩
  have hbI : ¬ (3000 : Int) < (s.size : Int) := by omega
  have hsz : s.size < 4294967281 := by omega
  have hp := fun w1 h1 => Parse_any s hsz w1 h1
  have hr := fun w1 => rparse_any s hsz w1
  have HWD := Lib.hid (words_first s hsz)
  have HLV := Lib.hid lives_any
  obtain ⟨hd, hhd⟩ : ∃ hd, (Shl.wordsL s.data.toList).headD [] = hd := ⟨_, rfl⟩
  obtain ⟨pr, hpr⟩ : ∃ pr, Shl.parseL s.data.toList = pr := ⟨_, rfl⟩
  rw [hpr] at hp hr
  rw [hhd] at HWD
  clear hpr
  rcases pr with n | x
  · obtain ⟨Y, hY⟩ : ∃ Y, evC ev00 = Y := ⟨_, rfl⟩
    have hsm := fun w1 => same_box ev00 w1
    have HYL : Hid (Y.length = 11) := by rw [← hY]; exact (rfl : (evC ev00).length = 11)
    have HY1 : Hid (∀ u ∈ Y, u.oneCell' = true) := by rw [← hY]; exact evOne ev00
    simp only [parseV, rparseV, evV, hY] at hp hr
    rw [hY] at hsm
    rw [hhd] at hp
    have hwy : ∀ w1, Gl w1 → Calls Tryz.prog 11 #[Errs.flt (bs hd) (n : Int)] w1 fun e w' => e = .returned (.int .i64 (n : Int)) ∧ Below w1.heap.size w1 w' := fun w1 h1 => lwhy_F (bs hd) (n : Int) w1 h1
    have hway := fun w1 h1 => Way_F (bs hd) (n : Int) w1 h1
    have his := fun w1 => Errs.is_FE (bs hd) (n : Int) w1
    simp only [Errs.flt] at hp hwy hway his
    have HWAY := Lib.hid hway
    have HIS := Lib.hid his
    clear hway his
    have HP := Lib.hid hp
    have HR := Lib.hid hr
    have HSM := Lib.hid hsm
    have HWY := Lib.hid hwy
    clear hp hr hsm hwy hY
    go_enter Tryz.func5, Tryz.ntmps5
    go_upto_region 4 with (first
      | (go_at_call 8; refine (HP.out _ HG.out).mono ?_; rintro e w1 ⟨rfl, hb1⟩; have B1 := Lib.hid hb1; have hs1 := hb1.size; clear hb1)
      | (refine store_box rfl 28 (.tmp 3) (.tmp 15) (by rfl) w1.heap.size (by rfl) Y (by rfl) 28 (evC ev00) (Row.new w1 _ _) (by rw [HYL.out]; rfl) (by rw [HYL.out]; kernel_rfl) HY1.out ?_; intro w2 hr2 hu2; have R2 := Lib.hid hr2; have B2 := Lib.hid (Upd.below' (B1.out.alloc hs1 _) hu2 hs1 (by simp; omega)); clear hr2 hu2))
    have hs2 := B2.out.size
    go_upto_region 5 with (first
      | (go_at_call 10; refine (HR.out _).mono ?_; rintro e w3 ⟨rfl, hb3⟩; have B3 := Lib.hid (B2.out.trans (hb3.mono hs2)); have R3 := Lib.hid (R2.out.keep hb3); have hs3 := B3.out.size; have hl3 := R3.out.lt; clear hb3)
      | (refine store_box rfl 28 (.tmp 5) (.tmp 20) (by rfl) w3.heap.size (by rfl) Y (by rfl) 28 (evC ev00) (Row.new w3 _ _) (by rw [HYL.out]; rfl) (by rw [HYL.out]; kernel_rfl) HY1.out ?_; intro w4 hr4 hu4; have R4 := Lib.hid hr4; have B4 := Lib.hid (Upd.below' (B3.out.alloc hs3 _) hu4 hs3 (by simp; omega)); have Q4 := Lib.hid (hu4.row (R3.out.alloc _) (by omega)); clear hr4 hu4))
    go_upto_region 7 with (first
      | (refine load_box rfl 28 (.tmp 3) (by rfl) w1.heap.size (by rfl) Y 28 Q4.out _ Tryz.underlying28 rfl (by rw [HYL.out]; kernel_rfl) ?_)
      | (refine load_box rfl 28 (.tmp 5) (by rfl) w3.heap.size (by rfl) Y 28 R4.out _ Tryz.underlying28 rfl (by rw [HYL.out]; kernel_rfl) ?_)
      | (go_at_call 9; refine (HSM.out _).mono ?_; rintro e w5 ⟨rfl, hb5⟩; have B5 := Lib.hid (B4.out.trans (hb5.mono B4.out.size)); clear hb5)
      | (go_at_call 11; refine (HWY.out _ (HG.out.keep B5.out)).mono ?_; rintro e w6 ⟨rfl, hb6⟩; have B6 := Lib.hid (B5.out.trans (hb6.mono B5.out.size)); clear hb6))
    go_upto_region 10 with (go_at_call 12; refine (HWAY.out _ (HG.out.keep B6.out)).mono ?_; rintro e w7 ⟨g, c, rfl, hc7, hb7⟩; have B7 := Lib.hid (B6.out.trans (hb7.mono B6.out.size)); have C7 := Lib.hid hc7; clear hb7 hc7)
    refine wp_region_held_drew (S := fun w' => Below w7.heap.size w7 w') (by kernel_rfl) (by exact (Below.refl _ _).drew) (fun hHeld => ?_)
    refine wpAnyH_take (i := 0) (v := ?_) (by simp only [List.getElem?_toArray, List.getElem?_cons_zero, List.getElem?_cons_succ] <;> rfl) (by kernel_rfl) (by kernel_rfl) (by kernel_rfl) (by intro _ _ _ h; exact h) (Or.inl ⟨by rfl, ?_⟩) (by assumption) ?_
    rotate_left
    · intro w _; go_simp; try with_reducible rfl
    try simp only [Act.put, List.setIfInBounds_toArray, List.set_cons_zero, List.set_cons_succ, Array.replicate]
    refine wpAnyH_take (i := 1) (v := ?_) (by simp only [List.getElem?_toArray, List.getElem?_cons_zero, List.getElem?_cons_succ] <;> rfl) (by kernel_rfl) (by kernel_rfl) (by kernel_rfl) (by intro _ _ _ h; exact h) (Or.inl ⟨by rfl, ?_⟩) (by assumption) ?_
    rotate_left
    · intro w _; go_simp; try with_reducible rfl
    try simp only [Act.put, List.setIfInBounds_toArray, List.set_cons_zero, List.set_cons_succ, Array.replicate]
    refine wpAnyH_take (i := 2) (v := ?_) (by simp only [List.getElem?_toArray, List.getElem?_cons_zero, List.getElem?_cons_succ] <;> rfl) (by kernel_rfl) (by kernel_rfl) (by kernel_rfl) (by intro _ _ _ h; exact h) (Or.inl ⟨by rfl, ?_⟩) (by assumption) ?_
    rotate_left
    · intro w _; go_simp; try with_reducible rfl
    try simp only [Act.put, List.setIfInBounds_toArray, List.set_cons_zero, List.set_cons_succ, Array.replicate]
    refine wpAnyH_take (i := 3) (v := ?_) (by simp only [List.getElem?_toArray, List.getElem?_cons_zero, List.getElem?_cons_succ] <;> rfl) (by kernel_rfl) (by kernel_rfl) (by kernel_rfl) (by intro _ _ _ h; exact h) (Or.inl ⟨by rfl, ?_⟩) (by assumption) ?_
    rotate_left
    · intro w _; go_simp; try with_reducible rfl
    try simp only [Act.put, List.setIfInBounds_toArray, List.set_cons_zero, List.set_cons_succ, Array.replicate]
    refine wpAnyH_take (i := 4) (v := ?_) (by simp only [List.getElem?_toArray, List.getElem?_cons_zero, List.getElem?_cons_succ] <;> rfl) (by kernel_rfl) (by kernel_rfl) (by kernel_rfl) (by intro _ _ _ h; exact h) (Or.inl ⟨by rfl, ?_⟩) (by assumption) ?_
    rotate_left
    · intro w _; go_simp; try with_reducible rfl
    try simp only [Act.put, List.setIfInBounds_toArray, List.set_cons_zero, List.set_cons_succ, Array.replicate]
    refine wpAnyH_take (i := 5) (v := ?_) (by simp only [List.getElem?_toArray, List.getElem?_cons_zero, List.getElem?_cons_succ] <;> rfl) (by kernel_rfl) (by kernel_rfl) (by kernel_rfl) (by intro _ _ _ h; exact h) (Or.inl ⟨by rfl, ?_⟩) (by assumption) ?_
    rotate_left
    · intro w _; go_simp; try with_reducible rfl
    try simp only [Act.put, List.setIfInBounds_toArray, List.set_cons_zero, List.set_cons_succ, Array.replicate]
    refine wpAnyH_take (i := 6) (v := ?_) (by simp only [List.getElem?_toArray, List.getElem?_cons_zero, List.getElem?_cons_succ] <;> rfl) (by kernel_rfl) (by kernel_rfl) (by kernel_rfl) (by intro _ _ _ h; exact h) (Or.inl ⟨by rfl, ?_⟩) (by assumption) ?_
    rotate_left
    · intro w hSS; have hSC := bkeep hSS C7.out; go_simp; try with_reducible rfl
    try simp only [Act.put, List.setIfInBounds_toArray, List.set_cons_zero, List.set_cons_succ, Array.replicate]
    refine wpAnyH_take (i := 7) (v := ?_) (by simp only [List.getElem?_toArray, List.getElem?_cons_zero, List.getElem?_cons_succ] <;> rfl) (by kernel_rfl) (by kernel_rfl) (by kernel_rfl) (by intro _ _ _ h; exact h) (Or.inl ⟨by rfl, ?_⟩) (by assumption) ?_
    rotate_left
    · intro w _; go_simp; try with_reducible rfl
    try simp only [Act.put, List.setIfInBounds_toArray, List.set_cons_zero, List.set_cons_succ, Array.replicate]
    refine wpAnyH_ready (rs := [8]) (by kernel_rfl) (by simp) ?_
    refine AllReadyH.cons (by simp only [List.getElem?_toArray, List.getElem?_cons_zero, List.getElem?_cons_succ] <;> rfl) (fun K hK => ?_) ?_
    · go_simp; go_at_call 13; refine (HWD.out _).mono ?_; rintro e w8 ⟨b8, o8, n8, c8, rfl, hn8, hc8, hb8⟩; have hnI : (0 : Int) < (n8 : Int) := by omega; try go_simp
      refine hK.out _ _ (hHeld.trans (hb8.mono hHeld.size)) (fun hHeld => ?_)
      clear hK K
      try simp only [Act.put, List.setIfInBounds_toArray, List.set_cons_zero, List.set_cons_succ, Array.replicate]
      refine wpAnyH_take (i := 9) (v := ?_) (by simp only [List.getElem?_toArray, List.getElem?_cons_zero, List.getElem?_cons_succ] <;> rfl) (by kernel_rfl) (by kernel_rfl) (by kernel_rfl) (by intro _ _ _ h; exact h) (Or.inl ⟨by rfl, ?_⟩) (by assumption) ?_
      rotate_left
      · intro w _; go_simp; try with_reducible rfl
      try simp only [Act.put, List.setIfInBounds_toArray, List.set_cons_zero, List.set_cons_succ, Array.replicate]
      refine wpAnyH_ready (rs := [10]) (by kernel_rfl) (by simp) ?_
      refine AllReadyH.cons (by simp only [List.getElem?_toArray, List.getElem?_cons_zero, List.getElem?_cons_succ] <;> rfl) (fun K hK => ?_) ?_
      · go_simp
        refine hK.out _ _ (by exact hHeld) (fun hHeld => ?_)
        clear hK K
        try simp only [Act.put, List.setIfInBounds_toArray, List.set_cons_zero, List.set_cons_succ, Array.replicate]
        refine wpAnyH_take (i := 11) (v := ?_) (by simp only [List.getElem?_toArray, List.getElem?_cons_zero, List.getElem?_cons_succ] <;> rfl) (by kernel_rfl) (by kernel_rfl) (by kernel_rfl) (by intro _ _ _ h; exact h) (Or.inl ⟨by rfl, ?_⟩) (by assumption) ?_
        rotate_left
        · intro w _; go_simp; try with_reducible rfl
        try simp only [Act.put, List.setIfInBounds_toArray, List.set_cons_zero, List.set_cons_succ, Array.replicate]
        refine wpAnyH_take (i := 12) (v := ?_) (by simp only [List.getElem?_toArray, List.getElem?_cons_zero, List.getElem?_cons_succ] <;> rfl) (by kernel_rfl) (by kernel_rfl) (by kernel_rfl) (by intro _ _ _ h; exact h) (Or.inl ⟨by rfl, ?_⟩) (by assumption) ?_
        rotate_left
        · intro w _; go_simp; try with_reducible rfl
        try simp only [Act.put, List.setIfInBounds_toArray, List.set_cons_zero, List.set_cons_succ, Array.replicate]
        refine wpAnyH_take (i := 13) (v := ?_) (by simp only [List.getElem?_toArray, List.getElem?_cons_zero, List.getElem?_cons_succ] <;> rfl) (by kernel_rfl) (by kernel_rfl) (by kernel_rfl) (by intro _ _ _ h; exact h) (Or.inl ⟨by rfl, ?_⟩) (by assumption) ?_
        rotate_left
        · intro w _; go_simp; try with_reducible rfl
        try simp only [Act.put, List.setIfInBounds_toArray, List.set_cons_zero, List.set_cons_succ, Array.replicate]
        refine wpAnyH_take (i := 14) (v := ?_) (by simp only [List.getElem?_toArray, List.getElem?_cons_zero, List.getElem?_cons_succ] <;> rfl) (by kernel_rfl) (by kernel_rfl) (by kernel_rfl) (by intro _ _ _ h; exact h) (Or.inl ⟨by rfl, ?_⟩) (by assumption) ?_
        rotate_left
        · intro w _; go_simp; try with_reducible rfl
        try simp only [Act.put, List.setIfInBounds_toArray, List.set_cons_zero, List.set_cons_succ, Array.replicate]
        refine wpAnyH_take (i := 15) (v := ?_) (by simp only [List.getElem?_toArray, List.getElem?_cons_zero, List.getElem?_cons_succ] <;> rfl) (by kernel_rfl) (by kernel_rfl) (by kernel_rfl) (by intro _ _ _ h; exact h) (Or.inl ⟨by rfl, ?_⟩) (by assumption) ?_
        rotate_left
        · intro w _; go_simp; try with_reducible rfl
        try simp only [Act.put, List.setIfInBounds_toArray, List.set_cons_zero, List.set_cons_succ, Array.replicate]
        refine wpAnyH_take (i := 16) (v := ?_) (by simp only [List.getElem?_toArray, List.getElem?_cons_zero, List.getElem?_cons_succ] <;> rfl) (by kernel_rfl) (by kernel_rfl) (by kernel_rfl) (by intro _ _ _ h; exact h) (Or.inl ⟨by rfl, ?_⟩) (by assumption) ?_
        rotate_left
        · intro w _; go_simp; try with_reducible rfl
        try simp only [Act.put, List.setIfInBounds_toArray, List.set_cons_zero, List.set_cons_succ, Array.replicate]
        refine wpAnyH_ready (rs := [17]) (by kernel_rfl) (by simp) ?_
        refine AllReadyH.cons (by simp only [List.getElem?_toArray, List.getElem?_cons_zero, List.getElem?_cons_succ] <;> rfl) (fun K hK => ?_) ?_
        · go_simp; go_at_call 14; refine (HIS.out _).mono ?_; rintro e w9 ⟨rfl, hb9⟩; skip; try go_simp
          refine hK.out _ _ (hHeld.trans (hb9.mono hHeld.size)) (fun hHeld => ?_)
          clear hK K
          try simp only [Act.put, List.setIfInBounds_toArray, List.set_cons_zero, List.set_cons_succ, Array.replicate]
          refine wpAnyH_take (i := 18) (v := ?_) (by simp only [List.getElem?_toArray, List.getElem?_cons_zero, List.getElem?_cons_succ] <;> rfl) (by kernel_rfl) (by kernel_rfl) (by kernel_rfl) (by intro _ _ _ h; exact h) (Or.inl ⟨by rfl, ?_⟩) (by assumption) ?_
          rotate_left
          · intro w _; go_simp; try with_reducible rfl
          try simp only [Act.put, List.setIfInBounds_toArray, List.set_cons_zero, List.set_cons_succ, Array.replicate]
          refine wpAnyH_take (i := 19) (v := ?_) (by simp only [List.getElem?_toArray, List.getElem?_cons_zero, List.getElem?_cons_succ] <;> rfl) (by kernel_rfl) (by kernel_rfl) (by kernel_rfl) (by intro _ _ _ h; exact h) (Or.inl ⟨by rfl, ?_⟩) (by assumption) ?_
          rotate_left
          · intro w _; go_simp; try with_reducible rfl
          try simp only [Act.put, List.setIfInBounds_toArray, List.set_cons_zero, List.set_cons_succ, Array.replicate]
          refine wpAnyH_ready (rs := [20]) (by kernel_rfl) (by simp) ?_
          refine AllReadyH.cons (by simp only [List.getElem?_toArray, List.getElem?_cons_zero, List.getElem?_cons_succ] <;> rfl) (fun K hK => ?_) ?_
          · go_simp; go_at_call 6; refine (HLV.out _ (HG.out.keep (B7.out.trans (hHeld.mono B7.out.size)))).mono ?_; rintro e w10 ⟨rfl, hb10⟩; skip; try go_simp
            refine hK.out _ _ (hHeld.trans (hb10.mono hHeld.size)) (fun hHeld => ?_)
            clear hK K
            try simp only [Act.put, List.setIfInBounds_toArray, List.set_cons_zero, List.set_cons_succ, Array.replicate]
            refine wpAnyH_take (i := 21) (v := ?_) (by simp only [List.getElem?_toArray, List.getElem?_cons_zero, List.getElem?_cons_succ] <;> rfl) (by kernel_rfl) (by kernel_rfl) (by kernel_rfl) (by intro _ _ _ h; exact h) (Or.inl ⟨by rfl, ?_⟩) (by assumption) ?_
            rotate_left
            · intro w _; go_simp; try with_reducible rfl
            try simp only [Act.put, List.setIfInBounds_toArray, List.set_cons_zero, List.set_cons_succ, Array.replicate]
            refine wpAnyH_take (i := 22) (v := ?_) (by simp only [List.getElem?_toArray, List.getElem?_cons_zero, List.getElem?_cons_succ] <;> rfl) (by kernel_rfl) (by kernel_rfl) (by kernel_rfl) (by intro _ _ _ h; exact h) (Or.inl ⟨by rfl, ?_⟩) (by assumption) ?_
            rotate_left
            · intro w _; go_simp; try with_reducible rfl
            try simp only [Act.put, List.setIfInBounds_toArray, List.set_cons_zero, List.set_cons_succ, Array.replicate]
            refine wpAnyH_done (by kernel_rfl) ?_ _
            go_wp2_with fail
            go_ret
            exact ⟨rfl, B7.out.trans (hHeld.mono B7.out.size)⟩
          exact AllReadyH.nil
        exact AllReadyH.nil
      exact AllReadyH.nil
    exact AllReadyH.nil
  · obtain ⟨Y, hY⟩ : ∃ Y, evC x = Y := ⟨_, rfl⟩
    have hsm := fun w1 => same_box x w1
    have HYL : Hid (Y.length = 11) := by rw [← hY]; exact (rfl : (evC x).length = 11)
    have HY1 : Hid (∀ u ∈ Y, u.oneCell' = true) := by rw [← hY]; exact evOne x
    simp only [parseV, rparseV, evV, hY] at hp hr
    rw [hY] at hsm
    have hwy : ∀ w1, Gl w1 → Calls Tryz.prog 11 #[.nilIface] w1 fun e w' => e = .returned (.int .i64 0) ∧ Below w1.heap.size w1 w' := fun w1 _ => lwhy_nil w1
    have HP := Lib.hid hp
    have HR := Lib.hid hr
    have HSM := Lib.hid hsm
    have HWY := Lib.hid hwy
    clear hp hr hsm hwy hY
    go_enter Tryz.func5, Tryz.ntmps5
    go_upto_region 4 with (first
      | (go_at_call 8; refine (HP.out _ HG.out).mono ?_; rintro e w1 ⟨rfl, hb1⟩; have B1 := Lib.hid hb1; have hs1 := hb1.size; clear hb1)
      | (refine store_box rfl 28 (.tmp 3) (.tmp 15) (by rfl) w1.heap.size (by rfl) Y (by rfl) 28 (evC ev00) (Row.new w1 _ _) (by rw [HYL.out]; rfl) (by rw [HYL.out]; kernel_rfl) HY1.out ?_; intro w2 hr2 hu2; have R2 := Lib.hid hr2; have B2 := Lib.hid (Upd.below' (B1.out.alloc hs1 _) hu2 hs1 (by simp; omega)); clear hr2 hu2))
    have hs2 := B2.out.size
    go_upto_region 5 with (first
      | (go_at_call 10; refine (HR.out _).mono ?_; rintro e w3 ⟨rfl, hb3⟩; have B3 := Lib.hid (B2.out.trans (hb3.mono hs2)); have R3 := Lib.hid (R2.out.keep hb3); have hs3 := B3.out.size; have hl3 := R3.out.lt; clear hb3)
      | (refine store_box rfl 28 (.tmp 5) (.tmp 20) (by rfl) w3.heap.size (by rfl) Y (by rfl) 28 (evC ev00) (Row.new w3 _ _) (by rw [HYL.out]; rfl) (by rw [HYL.out]; kernel_rfl) HY1.out ?_; intro w4 hr4 hu4; have R4 := Lib.hid hr4; have B4 := Lib.hid (Upd.below' (B3.out.alloc hs3 _) hu4 hs3 (by simp; omega)); have Q4 := Lib.hid (hu4.row (R3.out.alloc _) (by omega)); clear hr4 hu4))
    go_upto_region 7 with (first
      | (refine load_box rfl 28 (.tmp 3) (by rfl) w1.heap.size (by rfl) Y 28 Q4.out _ Tryz.underlying28 rfl (by rw [HYL.out]; kernel_rfl) ?_)
      | (refine load_box rfl 28 (.tmp 5) (by rfl) w3.heap.size (by rfl) Y 28 R4.out _ Tryz.underlying28 rfl (by rw [HYL.out]; kernel_rfl) ?_)
      | (go_at_call 9; refine (HSM.out _).mono ?_; rintro e w5 ⟨rfl, hb5⟩; have B5 := Lib.hid (B4.out.trans (hb5.mono B4.out.size)); clear hb5)
      | (go_at_call 11; refine (HWY.out _ (HG.out.keep B5.out)).mono ?_; rintro e w6 ⟨rfl, hb6⟩; have B6 := Lib.hid (B5.out.trans (hb6.mono B5.out.size)); clear hb6))
    go_wp2_with (go_at_call 6; refine (HLV.out _ (HG.out.keep B6.out)).mono ?_; rintro e w7 ⟨rfl, hb7⟩; have B7 := Lib.hid (B6.out.trans (hb7.mono B6.out.size)); clear hb7)
    go_ret
    exact ⟨rfl, B7.out⟩
end Go.Proofs.YtojoeaaodomfnaaGreatDoor
