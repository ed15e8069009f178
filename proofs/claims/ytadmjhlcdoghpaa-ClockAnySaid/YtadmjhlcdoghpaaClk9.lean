/- Clocks: the law ClockAny. -/
import Derived.Test.YtadmjhlcdoghpaaClk8
namespace Go.Proofs.Ytadmjhlcdoghpaa
set_option linter.unusedVariables false
set_option linter.unusedSimpArgs false
set_option linter.unnecessarySimpa false
open Go.RowKit
set_option maxRecDepth 100000
set_option maxHeartbeats 4000000

theorem build_step {w : World} {ops : Array Oper} {rest : List Oper} {o : Oper} {a : Act} {Q : Exit → Act → World → Prop} (hgd : o.guard = none) (ho : o.op = .build 24 #[])
    (h : wpList Try.prog ops Q rest (a.put o.dst (clockV zeros)) w) : wpList Try.prog ops Q (o :: rest) a w := build_clock hgd ho h
theorem preZZ (w : World) : ∃ W, ((w.alloc (.cells #[.int .u64 0, .int .u64 0, .int .u64 0, .int .u64 0, .int .u64 0, .int .u64 0, .int .u64 0, .int .u64 0] 24)).alloc (.cells #[.int .u64 0, .int .u64 0, .int .u64 0, .int .u64 0, .int .u64 0, .int .u64 0, .int .u64 0, .int .u64 0] 24)) = W ∧ Hid (Arr W w.heap.size 24 .u64 zeros) ∧ Hid (Arr W (w.heap.size + 1) 24 .u64 zeros) ∧ Hid (Below w.heap.size w W) := by
  obtain ⟨W1, h1, a1, b1, c1⟩ := preZ w
  obtain ⟨W2, h2, a2, b2, c2⟩ := preZ W1
  rw [c1.out] at a2 b2 c2
  exact ⟨W2, by rw [h1, h2], Row.below a1.out b2.out (by omega), a2, b1.out.trans (b2.out.mono (by omega))⟩

theorem ClockAny_walk (lv : Value) (L : List (List Int)) (ov : Value) (ol : List UInt8) (w : World) (hs : Clocks w lv L) (hL : ∀ A ∈ L, A.length = 8) (hn : L.length ≤ 10000000000000) (h : Sh w ov ol) (hol : ol.length ≤ 140737488355328) :
    Calls Try.prog 4 #[lv, ov] w fun e w' => e = .returned (.bool true) ∧ Below w.heap.size w w' := by
  obtain ⟨x, cap, rfl, g1, g2, g3, g4⟩ := Shows.open hs
  obtain ⟨y, cap2, rfl, k1, k2, k3, k4⟩ := h.open
  have HS := Lib.hid (show Clocks w (.slice x L.length cap) L from g4)
  have H := Lib.hid k4
  have HL := Lib.hid hL
  clear hs h g3 k3 g4 k4 hL
  go_enter Try.func4, Try.ntmps4
  obtain ⟨W, hW, R0, R1, Hb⟩ := preZZ w
  go_upto_region 2 with (first
    | (with_reducible refine build_step rfl rfl ?_)
    | (with_reducible refine store_clock rfl (.tmp 5) (.tmp 10) rfl _ rfl zeros rfl rfl _ zeros R0.out rfl ?_)
    | (with_reducible refine store_clock rfl (.tmp 6) (.tmp 11) rfl _ rfl zeros rfl rfl _ zeros (Arr.setRow_other R1.out (by omega) _) rfl ?_))
  have s0 := Arr.setRow_other (Arr.setRow R0.out zeros) (by omega : w.heap.size ≠ w.heap.size + 1) (nums .u64 zeros).toArray
  have s1 := Arr.setRow (Arr.setRow_other R1.out (by omega : w.heap.size + 1 ≠ w.heap.size) (nums .u64 zeros).toArray) zeros
  have sb := bsetRow (bsetRow Hb.out (Nat.le_refl _) (nums .u64 zeros).toArray) (by omega : w.heap.size ≤ w.heap.size + 1) (nums .u64 zeros).toArray
  have S0 := Lib.hid s0
  have S1 := Lib.hid s1
  have SB := Lib.hid sb
  clear s0 s1 sb hW R0 R1 Hb
  generalize (W.setRow w.heap.size (nums .u64 zeros).toArray).setRow (w.heap.size + 1) (nums .u64 zeros).toArray = V at *
  try simp only [Act.put]
  go_wp2_with fail
  go_loopw [7] (fun i wr => ∃ j : Nat, j ≤ L.length ∧ i = .int .i64 j ∧ Arr wr w.heap.size 24 .u64 (joined zeros (L.take j)) ∧ Arr wr (w.heap.size + 1) 24 .u64 zeros ∧ Below w.heap.size w wr) (fun i _ => L.length - (intOf i).toNat)
  case atStart => exact ⟨0, by omega, rfl, S0.out, S1.out, SB.out⟩
  case round =>
    clear S0 S1 SB
    obtain ⟨j, hj, rfl, r0, r1, hb⟩ := hrel
    have hbs := hb.size
    have R0 := Lib.hid r0
    have R1 := Lib.hid r1
    have HB := Lib.hid hb
    clear r0 r1 hb
    by_cases hlt : j < L.length
    · have HJ := Lib.hid (joined_take (Z := zeros) L j hlt)
      have HZ := Lib.hid (joined_length (Z := zeros) rfl (L.take j) fun A hA => HL.out A (List.mem_of_mem_take hA))
      have HA := Lib.hid (HL.out _ (getD_mem hlt))
      obtain ⟨b, off, rfl, -, hat⟩ := Clocks.at HS.out HL.out (by omega)
      have HAt := Lib.hid (hat j hlt)
      have hjI : (j : Int) < (L.length : Int) := by omega
      have HM := Lib.hid (merged_length HZ.out HA.out)
      clear hat
      generalize joined zeros (L.take j) = Z at *
      generalize L.getD j [] = A at *
      go_upto_region 5 with fail
      refine wp_region_any (by kernel_rfl) ?_
      try (change wpAny _ _ _ _ _ _ _ (World.drew _))
      refine wpAny_take (i := 1) (v := ?_) (by simp only [List.getElem?_toArray, List.getElem?_cons_zero, List.getElem?_cons_succ] <;> rfl) (by kernel_rfl) (by kernel_rfl) (by kernel_rfl) (by intro _ _ _ h; exact h) (Or.inl ⟨by rfl, ?_⟩) ?_
      rotate_left
      · intro w; go_simp; try with_reducible rfl
      try simp only [Act.put, List.setIfInBounds_toArray, List.set_cons_zero, List.set_cons_succ, Array.replicate]
      refine wpAny_take (i := 2) (v := ?_) (by simp only [List.getElem?_toArray, List.getElem?_cons_zero, List.getElem?_cons_succ] <;> rfl) (by kernel_rfl) (by kernel_rfl) (by kernel_rfl) (by intro _ _ _ h; exact h) (Or.inl ⟨by rfl, ?_⟩) ?_
      rotate_left
      · intro w; go_simp; try with_reducible rfl
      try simp only [Act.put, List.setIfInBounds_toArray, List.set_cons_zero, List.set_cons_succ, Array.replicate]
      refine wpAny_take (i := 3) (v := ?_) (by simp only [List.getElem?_toArray, List.getElem?_cons_zero, List.getElem?_cons_succ] <;> rfl) (by kernel_rfl) (by kernel_rfl) (by kernel_rfl) (by intro _ _ _ h; exact h) (Or.inl ⟨by rfl, ?_⟩) ?_
      rotate_left
      · intro w; go_simp; try with_reducible rfl
      try simp only [Act.put, List.setIfInBounds_toArray, List.set_cons_zero, List.set_cons_succ, Array.replicate]
      refine wpAny_ready (rs := [0, 4]) (by kernel_rfl) (by simp) ?_
      refine AllReady.cons (by simp only [List.getElem?_toArray, List.getElem?_cons_zero, List.getElem?_cons_succ] <;> rfl) (fun K hK => ?_) ?_
      · refine step_load (by with_unfolding_all rfl) (.tmp 5) rfl _ rfl Z HZ.out (Arr.keep R0.out (by repeat (first | with_reducible exact Below.refl _ _ | with_reducible refine bdrew ?_ | with_reducible refine balloc ?_ _ | with_reducible refine bstep ?_ (by assumption)))) ?_
        refine hK _ _ ?_
        clear hK K
        try simp only [Act.put, List.setIfInBounds_toArray, List.set_cons_zero, List.set_cons_succ, Array.replicate]
        refine wpAny_ready (rs := [4]) (by kernel_rfl) (by simp) ?_
        refine AllReady.cons (by simp only [List.getElem?_toArray, List.getElem?_cons_zero, List.getElem?_cons_succ] <;> rfl) (fun K hK => ?_) ?_
        · refine step_load_at (by with_unfolding_all rfl) (.tmp 21) rfl ⟨b, off + j * 8, none⟩ rfl A HA.out (At.keep HAt.out (by exact HB.out.drew)) ?_
          refine hK _ _ ?_
          clear hK K
          try simp only [Act.put, List.setIfInBounds_toArray, List.set_cons_zero, List.set_cons_succ, Array.replicate]
          refine wpAny_ready (rs := [5]) (by kernel_rfl) (by simp) ?_
          refine AllReady.cons (by simp only [List.getElem?_toArray, List.getElem?_cons_zero, List.getElem?_cons_succ] <;> rfl) (fun K hK => ?_) ?_
          · go_simp; go_at_call 8; with_reducible refine (merge_any Z A HZ.out HA.out _).mono ?_; rintro e w1 ⟨rfl, hb1⟩; try go_simp
            refine hK _ _ ?_
            clear hK K
            try simp only [Act.put, List.setIfInBounds_toArray, List.set_cons_zero, List.set_cons_succ, Array.replicate]
            refine wpAny_ready (rs := [6]) (by kernel_rfl) (by simp) ?_
            refine AllReady.cons (by simp only [List.getElem?_toArray, List.getElem?_cons_zero, List.getElem?_cons_succ] <;> rfl) (fun K hK => ?_) ?_
            · refine step_store (by with_unfolding_all rfl) (.tmp 5) (.tmp 23) rfl _ rfl (merged Z A) rfl HM.out _ Z (Arr.keep R0.out (by repeat (first | with_reducible exact Below.refl _ _ | with_reducible refine bdrew ?_ | with_reducible refine balloc ?_ _ | with_reducible refine bstep ?_ (by assumption)))) HZ.out ?_
              refine hK _ _ ?_
              clear hK K
              try simp only [Act.put, List.setIfInBounds_toArray, List.set_cons_zero, List.set_cons_succ, Array.replicate]
              refine wpAny_done (by kernel_rfl) ?_ _
              go_wp2_with fail
              refine ⟨⟨j + 1, by omega, by go_num, by rw [HJ.out]; exact Arr.setRow (Arr.keep (w := wr.drew) R0.out hb1) _, Arr.setRow_other (Arr.keep (w := wr.drew) R1.out hb1) (by omega) _, bsetRow (bthen HB.out.drew hb1 (Nat.le_refl _)) (Nat.le_refl _) _⟩, by simp [intOf]; omega⟩
            exact AllReady.nil
          exact AllReady.nil
        exact AllReady.nil
      refine AllReady.cons (by simp only [List.getElem?_toArray, List.getElem?_cons_zero, List.getElem?_cons_succ] <;> rfl) (fun K hK => ?_) ?_
      · refine step_load_at (by with_unfolding_all rfl) (.tmp 21) rfl ⟨b, off + j * 8, none⟩ rfl A HA.out (At.keep HAt.out (by exact HB.out.drew)) ?_
        refine hK _ _ ?_
        clear hK K
        try simp only [Act.put, List.setIfInBounds_toArray, List.set_cons_zero, List.set_cons_succ, Array.replicate]
        refine wpAny_ready (rs := [0]) (by kernel_rfl) (by simp) ?_
        refine AllReady.cons (by simp only [List.getElem?_toArray, List.getElem?_cons_zero, List.getElem?_cons_succ] <;> rfl) (fun K hK => ?_) ?_
        · refine step_load (by with_unfolding_all rfl) (.tmp 5) rfl _ rfl Z HZ.out (Arr.keep R0.out (by repeat (first | with_reducible exact Below.refl _ _ | with_reducible refine bdrew ?_ | with_reducible refine balloc ?_ _ | with_reducible refine bstep ?_ (by assumption)))) ?_
          refine hK _ _ ?_
          clear hK K
          try simp only [Act.put, List.setIfInBounds_toArray, List.set_cons_zero, List.set_cons_succ, Array.replicate]
          refine wpAny_ready (rs := [5]) (by kernel_rfl) (by simp) ?_
          refine AllReady.cons (by simp only [List.getElem?_toArray, List.getElem?_cons_zero, List.getElem?_cons_succ] <;> rfl) (fun K hK => ?_) ?_
          · go_simp; go_at_call 8; with_reducible refine (merge_any Z A HZ.out HA.out _).mono ?_; rintro e w1 ⟨rfl, hb1⟩; try go_simp
            refine hK _ _ ?_
            clear hK K
            try simp only [Act.put, List.setIfInBounds_toArray, List.set_cons_zero, List.set_cons_succ, Array.replicate]
            refine wpAny_ready (rs := [6]) (by kernel_rfl) (by simp) ?_
            refine AllReady.cons (by simp only [List.getElem?_toArray, List.getElem?_cons_zero, List.getElem?_cons_succ] <;> rfl) (fun K hK => ?_) ?_
            · refine step_store (by with_unfolding_all rfl) (.tmp 5) (.tmp 23) rfl _ rfl (merged Z A) rfl HM.out _ Z (Arr.keep R0.out (by repeat (first | with_reducible exact Below.refl _ _ | with_reducible refine bdrew ?_ | with_reducible refine balloc ?_ _ | with_reducible refine bstep ?_ (by assumption)))) HZ.out ?_
              refine hK _ _ ?_
              clear hK K
              try simp only [Act.put, List.setIfInBounds_toArray, List.set_cons_zero, List.set_cons_succ, Array.replicate]
              refine wpAny_done (by kernel_rfl) ?_ _
              go_wp2_with fail
              refine ⟨⟨j + 1, by omega, by go_num, by rw [HJ.out]; exact Arr.setRow (Arr.keep (w := wr.drew) R0.out hb1) _, Arr.setRow_other (Arr.keep (w := wr.drew) R1.out hb1) (by omega) _, bsetRow (bthen HB.out.drew hb1 (Nat.le_refl _)) (Nat.le_refl _) _⟩, by simp [intOf]; omega⟩
            exact AllReady.nil
          exact AllReady.nil
        exact AllReady.nil
      exact AllReady.nil
    · obtain rfl : j = L.length := by omega
      have hT := R0.out
      rw [List.take_length] at hT
      have HTl := Lib.hid (joined_length (Z := zeros) rfl L HL.out)
      have HTa := Lib.hid (joined_above (Z := zeros) rfl L HL.out)
      have HTm := Lib.hid (fun (C : List Int) => joined_least (Z := zeros) (C := C) rfl L HL.out)
      have R0 := Lib.hid hT
      clear hT
      generalize joined zeros L = T at *
      go_wp2_with fail
      go_loopw [8] (fun i wr => ∃ (j : Nat) (B : List Int), j ≤ ol.length ∧ i = .int .i64 j ∧ Arr wr w.heap.size 24 .u64 T ∧ Arr wr (w.heap.size + 1) 24 .u64 B ∧ B.length = 8 ∧ Leq zeros B ∧ Leq B T ∧ Below w.heap.size w wr) (fun i _ => ol.length - (intOf i).toNat)
      case atStart => exact ⟨0, zeros, by omega, rfl, R0.out, R1.out, rfl, Leq.refl _, HTa.out.1, HB.out⟩
      case round =>
        clear R0 R1 HB hbs
        obtain ⟨j, B, hj, rfl, r0, r1, hB, hzB, hBT, hb⟩ := hrel
        have hbs := hb.size
        have R0 := Lib.hid r0
        have R1 := Lib.hid r1
        have HB := Lib.hid hb
        have HBl := Lib.hid hB
        have HzB := Lib.hid hzB
        have HBT := Lib.hid hBT
        clear r0 r1 hb hB hzB hBT
        by_cases hgo : j < ol.length ∧ 0 < L.length
        · obtain ⟨hlt, hpos⟩ := hgo
          obtain ⟨b, off, rfl, -, hat⟩ := Clocks.at HS.out HL.out hpos
          obtain ⟨b2, off2, rfl, hby⟩ := H.out.cells (by omega)
          have hbyte := hby j hlt
          have hbd : wr.drew.cell? ⟨b2, off2 + j, none⟩ = some (.int .u8 ((ol.getD j 0).toNat : Int)) := bcell HB.out.drew hbyte (blt hbyte)
          have hjI : (j : Int) < (ol.length : Int) := by omega
          have hkl : (ol.getD j 0).toNat % L.length < L.length := Nat.mod_lt _ hpos
          have hc256 := UInt8.toNat_lt (ol.getD j 0)
          have hkm : (IntKind.i64.wrap ((ol.getD j 0).toNat : Int)).tmod (L.length : Int) = (((ol.getD j 0).toNat % L.length : Nat) : Int) := by rw [IntWalk.i64_in _ ⟨by omega, by omega⟩, Int.tmod_eq_emod_of_nonneg (by omega)]; omega
          have hLI : ¬ L = [] := by intro h; rw [h] at hpos; simp at hpos
          clear hc256
          have HA := Lib.hid (HL.out _ (getD_mem hkl))
          have HAt := Lib.hid (hat _ hkl)
          have hAT := HTa.out.2 _ (getD_mem hkl)
          have HAT := Lib.hid hAT
          clear hat hby hbyte hAT
          generalize (ol.getD j 0).toNat % L.length = k at *
          generalize (ol.getD j 0).toNat = c at *
          generalize L.getD k [] = A at *
          have HM := Lib.hid (merged_length HBl.out HA.out)
          have hkI : (k : Int) < (L.length : Int) := by omega
          clear hkl
          have hposI : 0 < (L.length : Int) := by omega
          go_upto_region 9 with fail
          refine wp_region_any (by kernel_rfl) ?_
          try (change wpAny _ _ _ _ _ _ _ (World.drew _))
          refine wpAny_take (i := 1) (v := ?_) (by simp only [List.getElem?_toArray, List.getElem?_cons_zero, List.getElem?_cons_succ] <;> rfl) (by kernel_rfl) (by kernel_rfl) (by kernel_rfl) (by intro _ _ _ h; exact h) (Or.inl ⟨by rfl, ?_⟩) ?_
          rotate_left
          · intro w; go_simp; try with_reducible rfl
          try simp only [Act.put, List.setIfInBounds_toArray, List.set_cons_zero, List.set_cons_succ, Array.replicate]
          refine wpAny_take (i := 2) (v := ?_) (by simp only [List.getElem?_toArray, List.getElem?_cons_zero, List.getElem?_cons_succ] <;> rfl) (by kernel_rfl) (by kernel_rfl) (by kernel_rfl) (by intro _ _ _ h; exact h) (Or.inl ⟨by rfl, ?_⟩) ?_
          rotate_left
          · intro w; go_simp; try with_reducible rfl
          try simp only [Act.put, List.setIfInBounds_toArray, List.set_cons_zero, List.set_cons_succ, Array.replicate]
          refine wpAny_take (i := 3) (v := ?_) (by simp only [List.getElem?_toArray, List.getElem?_cons_zero, List.getElem?_cons_succ] <;> rfl) (by kernel_rfl) (by kernel_rfl) (by kernel_rfl) (by intro _ _ _ h; exact h) (Or.inl ⟨by rfl, ?_⟩) ?_
          rotate_left
          · intro w; go_simp; try with_reducible rfl
          try simp only [Act.put, List.setIfInBounds_toArray, List.set_cons_zero, List.set_cons_succ, Array.replicate]
          refine wpAny_take (i := 4) (v := ?_) (by simp only [List.getElem?_toArray, List.getElem?_cons_zero, List.getElem?_cons_succ] <;> rfl) (by kernel_rfl) (by kernel_rfl) (by kernel_rfl) (by intro _ _ _ h; exact h) (Or.inl ⟨by rfl, ?_⟩) ?_
          rotate_left
          · intro w; go_simp; try with_reducible rfl
          try simp only [Act.put, List.setIfInBounds_toArray, List.set_cons_zero, List.set_cons_succ, Array.replicate]
          refine wpAny_take (i := 7) (v := ?_) (by simp only [List.getElem?_toArray, List.getElem?_cons_zero, List.getElem?_cons_succ] <;> rfl) (by kernel_rfl) (by kernel_rfl) (by kernel_rfl) (by intro _ _ _ h; exact h) (Or.inl ⟨by rfl, ?_⟩) ?_
          rotate_left
          · intro w; go_simp; try with_reducible rfl
          try simp only [Act.put, List.setIfInBounds_toArray, List.set_cons_zero, List.set_cons_succ, Array.replicate]
          refine wpAny_take (i := 8) (v := ?_) (by simp only [List.getElem?_toArray, List.getElem?_cons_zero, List.getElem?_cons_succ] <;> rfl) (by kernel_rfl) (by kernel_rfl) (by kernel_rfl) (by intro _ _ _ h; exact h) (Or.inl ⟨by rfl, ?_⟩) ?_
          rotate_left
          · intro w; go_simp; try with_reducible rfl
          try simp only [Act.put, List.setIfInBounds_toArray, List.set_cons_zero, List.set_cons_succ, Array.replicate]
          refine wpAny_ready (rs := [0, 5]) (by kernel_rfl) (by simp) ?_
          refine AllReady.cons (by simp only [List.getElem?_toArray, List.getElem?_cons_zero, List.getElem?_cons_succ] <;> rfl) (fun K hK => ?_) ?_
          · refine step_load (by with_unfolding_all rfl) (.tmp 6) rfl _ rfl B HBl.out (Arr.keep R1.out (by repeat (first | with_reducible exact Below.refl _ _ | with_reducible refine bdrew ?_ | with_reducible refine balloc ?_ _ | with_reducible refine bstep ?_ (by assumption)))) ?_
            refine hK _ _ ?_
            clear hK K
            try simp only [Act.put, List.setIfInBounds_toArray, List.set_cons_zero, List.set_cons_succ, Array.replicate]
            refine wpAny_ready (rs := [5]) (by kernel_rfl) (by simp) ?_
            refine AllReady.cons (by simp only [List.getElem?_toArray, List.getElem?_cons_zero, List.getElem?_cons_succ] <;> rfl) (fun K hK => ?_) ?_
            · go_simp
              refine hK _ _ ?_
              clear hK K
              try simp only [Act.put, List.setIfInBounds_toArray, List.set_cons_zero, List.set_cons_succ, Array.replicate]
              refine wpAny_take (i := 6) (v := ?_) (by simp only [List.getElem?_toArray, List.getElem?_cons_zero, List.getElem?_cons_succ] <;> rfl) (by kernel_rfl) (by kernel_rfl) (by kernel_rfl) (by intro _ _ _ h; exact h) (Or.inl ⟨by rfl, ?_⟩) ?_
              rotate_left
              · intro w; go_simp; try with_reducible rfl
              try simp only [Act.put, List.setIfInBounds_toArray, List.set_cons_zero, List.set_cons_succ, Array.replicate]
              refine wpAny_take (i := 9) (v := ?_) (by simp only [List.getElem?_toArray, List.getElem?_cons_zero, List.getElem?_cons_succ] <;> rfl) (by kernel_rfl) (by kernel_rfl) (by kernel_rfl) (by intro _ _ _ h; exact h) (Or.inl ⟨by rfl, ?_⟩) ?_
              rotate_left
              · intro w; go_simp; try with_reducible rfl
              try simp only [Act.put, List.setIfInBounds_toArray, List.set_cons_zero, List.set_cons_succ, Array.replicate]
              refine wpAny_take (i := 10) (v := ?_) (by simp only [List.getElem?_toArray, List.getElem?_cons_zero, List.getElem?_cons_succ] <;> rfl) (by kernel_rfl) (by kernel_rfl) (by kernel_rfl) (by intro _ _ _ h; exact h) (Or.inl ⟨by rfl, ?_⟩) ?_
              rotate_left
              · intro w; go_simp; try with_reducible rfl
              try simp only [Act.put, List.setIfInBounds_toArray, List.set_cons_zero, List.set_cons_succ, Array.replicate]
              refine wpAny_ready (rs := [11]) (by kernel_rfl) (by simp) ?_
              refine AllReady.cons (by simp only [List.getElem?_toArray, List.getElem?_cons_zero, List.getElem?_cons_succ] <;> rfl) (fun K hK => ?_) ?_
              · refine step_load_at (by with_unfolding_all rfl) (.tmp 45) rfl ⟨b, off + k * 8, none⟩ rfl A HA.out (At.keep HAt.out (by exact HB.out.drew)) ?_
                refine hK _ _ ?_
                clear hK K
                try simp only [Act.put, List.setIfInBounds_toArray, List.set_cons_zero, List.set_cons_succ, Array.replicate]
                refine wpAny_ready (rs := [12]) (by kernel_rfl) (by simp) ?_
                refine AllReady.cons (by simp only [List.getElem?_toArray, List.getElem?_cons_zero, List.getElem?_cons_succ] <;> rfl) (fun K hK => ?_) ?_
                · go_simp; go_at_call 8; with_reducible refine (merge_any B A HBl.out HA.out _).mono ?_; rintro e w1 ⟨rfl, hb1⟩; try go_simp
                  refine hK _ _ ?_
                  clear hK K
                  try simp only [Act.put, List.setIfInBounds_toArray, List.set_cons_zero, List.set_cons_succ, Array.replicate]
                  refine wpAny_ready (rs := [13]) (by kernel_rfl) (by simp) ?_
                  refine AllReady.cons (by simp only [List.getElem?_toArray, List.getElem?_cons_zero, List.getElem?_cons_succ] <;> rfl) (fun K hK => ?_) ?_
                  · refine step_store (by with_unfolding_all rfl) (.tmp 6) (.tmp 47) rfl _ rfl (merged B A) rfl HM.out _ B (Arr.keep R1.out (by repeat (first | with_reducible exact Below.refl _ _ | with_reducible refine bdrew ?_ | with_reducible refine balloc ?_ _ | with_reducible refine bstep ?_ (by assumption)))) HBl.out ?_
                    refine hK _ _ ?_
                    clear hK K
                    try simp only [Act.put, List.setIfInBounds_toArray, List.set_cons_zero, List.set_cons_succ, Array.replicate]
                    refine wpAny_done (by kernel_rfl) ?_ _
                    go_wp2_with fail
                    refine ⟨⟨j + 1, merged B A, by omega, by go_num, Arr.setRow_other (Arr.keep (w := wr.drew) R0.out hb1) (by omega) _, Arr.setRow (Arr.keep (w := wr.drew) R1.out hb1) _, HM.out, HzB.out.trans (leq_merged1 HBl.out HA.out), merged_leq HBl.out HA.out HBT.out HAT.out, bsetRow (bthen HB.out.drew hb1 (Nat.le_refl _)) (by omega) _⟩, by simp [intOf]; omega⟩
                  exact AllReady.nil
                exact AllReady.nil
              exact AllReady.nil
            exact AllReady.nil
          refine AllReady.cons (by simp only [List.getElem?_toArray, List.getElem?_cons_zero, List.getElem?_cons_succ] <;> rfl) (fun K hK => ?_) ?_
          · go_simp
            refine hK _ _ ?_
            clear hK K
            try simp only [Act.put, List.setIfInBounds_toArray, List.set_cons_zero, List.set_cons_succ, Array.replicate]
            refine wpAny_take (i := 6) (v := ?_) (by simp only [List.getElem?_toArray, List.getElem?_cons_zero, List.getElem?_cons_succ] <;> rfl) (by kernel_rfl) (by kernel_rfl) (by kernel_rfl) (by intro _ _ _ h; exact h) (Or.inl ⟨by rfl, ?_⟩) ?_
            rotate_left
            · intro w; go_simp; try with_reducible rfl
            try simp only [Act.put, List.setIfInBounds_toArray, List.set_cons_zero, List.set_cons_succ, Array.replicate]
            refine wpAny_take (i := 9) (v := ?_) (by simp only [List.getElem?_toArray, List.getElem?_cons_zero, List.getElem?_cons_succ] <;> rfl) (by kernel_rfl) (by kernel_rfl) (by kernel_rfl) (by intro _ _ _ h; exact h) (Or.inl ⟨by rfl, ?_⟩) ?_
            rotate_left
            · intro w; go_simp; try with_reducible rfl
            try simp only [Act.put, List.setIfInBounds_toArray, List.set_cons_zero, List.set_cons_succ, Array.replicate]
            refine wpAny_take (i := 10) (v := ?_) (by simp only [List.getElem?_toArray, List.getElem?_cons_zero, List.getElem?_cons_succ] <;> rfl) (by kernel_rfl) (by kernel_rfl) (by kernel_rfl) (by intro _ _ _ h; exact h) (Or.inl ⟨by rfl, ?_⟩) ?_
            rotate_left
            · intro w; go_simp; try with_reducible rfl
            try simp only [Act.put, List.setIfInBounds_toArray, List.set_cons_zero, List.set_cons_succ, Array.replicate]
            refine wpAny_ready (rs := [0, 11]) (by kernel_rfl) (by simp) ?_
            refine AllReady.cons (by simp only [List.getElem?_toArray, List.getElem?_cons_zero, List.getElem?_cons_succ] <;> rfl) (fun K hK => ?_) ?_
            · refine step_load (by with_unfolding_all rfl) (.tmp 6) rfl _ rfl B HBl.out (Arr.keep R1.out (by repeat (first | with_reducible exact Below.refl _ _ | with_reducible refine bdrew ?_ | with_reducible refine balloc ?_ _ | with_reducible refine bstep ?_ (by assumption)))) ?_
              refine hK _ _ ?_
              clear hK K
              try simp only [Act.put, List.setIfInBounds_toArray, List.set_cons_zero, List.set_cons_succ, Array.replicate]
              refine wpAny_ready (rs := [11]) (by kernel_rfl) (by simp) ?_
              refine AllReady.cons (by simp only [List.getElem?_toArray, List.getElem?_cons_zero, List.getElem?_cons_succ] <;> rfl) (fun K hK => ?_) ?_
              · refine step_load_at (by with_unfolding_all rfl) (.tmp 45) rfl ⟨b, off + k * 8, none⟩ rfl A HA.out (At.keep HAt.out (by exact HB.out.drew)) ?_
                refine hK _ _ ?_
                clear hK K
                try simp only [Act.put, List.setIfInBounds_toArray, List.set_cons_zero, List.set_cons_succ, Array.replicate]
                refine wpAny_ready (rs := [12]) (by kernel_rfl) (by simp) ?_
                refine AllReady.cons (by simp only [List.getElem?_toArray, List.getElem?_cons_zero, List.getElem?_cons_succ] <;> rfl) (fun K hK => ?_) ?_
                · go_simp; go_at_call 8; with_reducible refine (merge_any B A HBl.out HA.out _).mono ?_; rintro e w1 ⟨rfl, hb1⟩; try go_simp
                  refine hK _ _ ?_
                  clear hK K
                  try simp only [Act.put, List.setIfInBounds_toArray, List.set_cons_zero, List.set_cons_succ, Array.replicate]
                  refine wpAny_ready (rs := [13]) (by kernel_rfl) (by simp) ?_
                  refine AllReady.cons (by simp only [List.getElem?_toArray, List.getElem?_cons_zero, List.getElem?_cons_succ] <;> rfl) (fun K hK => ?_) ?_
                  · refine step_store (by with_unfolding_all rfl) (.tmp 6) (.tmp 47) rfl _ rfl (merged B A) rfl HM.out _ B (Arr.keep R1.out (by repeat (first | with_reducible exact Below.refl _ _ | with_reducible refine bdrew ?_ | with_reducible refine balloc ?_ _ | with_reducible refine bstep ?_ (by assumption)))) HBl.out ?_
                    refine hK _ _ ?_
                    clear hK K
                    try simp only [Act.put, List.setIfInBounds_toArray, List.set_cons_zero, List.set_cons_succ, Array.replicate]
                    refine wpAny_done (by kernel_rfl) ?_ _
                    go_wp2_with fail
                    refine ⟨⟨j + 1, merged B A, by omega, by go_num, Arr.setRow_other (Arr.keep (w := wr.drew) R0.out hb1) (by omega) _, Arr.setRow (Arr.keep (w := wr.drew) R1.out hb1) _, HM.out, HzB.out.trans (leq_merged1 HBl.out HA.out), merged_leq HBl.out HA.out HBT.out HAT.out, bsetRow (bthen HB.out.drew hb1 (Nat.le_refl _)) (by omega) _⟩, by simp [intOf]; omega⟩
                  exact AllReady.nil
                exact AllReady.nil
              exact AllReady.nil
            refine AllReady.cons (by simp only [List.getElem?_toArray, List.getElem?_cons_zero, List.getElem?_cons_succ] <;> rfl) (fun K hK => ?_) ?_
            · refine step_load_at (by with_unfolding_all rfl) (.tmp 45) rfl ⟨b, off + k * 8, none⟩ rfl A HA.out (At.keep HAt.out (by exact HB.out.drew)) ?_
              refine hK _ _ ?_
              clear hK K
              try simp only [Act.put, List.setIfInBounds_toArray, List.set_cons_zero, List.set_cons_succ, Array.replicate]
              refine wpAny_ready (rs := [0]) (by kernel_rfl) (by simp) ?_
              refine AllReady.cons (by simp only [List.getElem?_toArray, List.getElem?_cons_zero, List.getElem?_cons_succ] <;> rfl) (fun K hK => ?_) ?_
              · refine step_load (by with_unfolding_all rfl) (.tmp 6) rfl _ rfl B HBl.out (Arr.keep R1.out (by repeat (first | with_reducible exact Below.refl _ _ | with_reducible refine bdrew ?_ | with_reducible refine balloc ?_ _ | with_reducible refine bstep ?_ (by assumption)))) ?_
                refine hK _ _ ?_
                clear hK K
                try simp only [Act.put, List.setIfInBounds_toArray, List.set_cons_zero, List.set_cons_succ, Array.replicate]
                refine wpAny_ready (rs := [12]) (by kernel_rfl) (by simp) ?_
                refine AllReady.cons (by simp only [List.getElem?_toArray, List.getElem?_cons_zero, List.getElem?_cons_succ] <;> rfl) (fun K hK => ?_) ?_
                · go_simp; go_at_call 8; with_reducible refine (merge_any B A HBl.out HA.out _).mono ?_; rintro e w1 ⟨rfl, hb1⟩; try go_simp
                  refine hK _ _ ?_
                  clear hK K
                  try simp only [Act.put, List.setIfInBounds_toArray, List.set_cons_zero, List.set_cons_succ, Array.replicate]
                  refine wpAny_ready (rs := [13]) (by kernel_rfl) (by simp) ?_
                  refine AllReady.cons (by simp only [List.getElem?_toArray, List.getElem?_cons_zero, List.getElem?_cons_succ] <;> rfl) (fun K hK => ?_) ?_
                  · refine step_store (by with_unfolding_all rfl) (.tmp 6) (.tmp 47) rfl _ rfl (merged B A) rfl HM.out _ B (Arr.keep R1.out (by repeat (first | with_reducible exact Below.refl _ _ | with_reducible refine bdrew ?_ | with_reducible refine balloc ?_ _ | with_reducible refine bstep ?_ (by assumption)))) HBl.out ?_
                    refine hK _ _ ?_
                    clear hK K
                    try simp only [Act.put, List.setIfInBounds_toArray, List.set_cons_zero, List.set_cons_succ, Array.replicate]
                    refine wpAny_done (by kernel_rfl) ?_ _
                    go_wp2_with fail
                    refine ⟨⟨j + 1, merged B A, by omega, by go_num, Arr.setRow_other (Arr.keep (w := wr.drew) R0.out hb1) (by omega) _, Arr.setRow (Arr.keep (w := wr.drew) R1.out hb1) _, HM.out, HzB.out.trans (leq_merged1 HBl.out HA.out), merged_leq HBl.out HA.out HBT.out HAT.out, bsetRow (bthen HB.out.drew hb1 (Nat.le_refl _)) (by omega) _⟩, by simp [intOf]; omega⟩
                  exact AllReady.nil
                exact AllReady.nil
              exact AllReady.nil
            exact AllReady.nil
          exact AllReady.nil
        · by_cases hlt : j < ol.length
          · have hpos : L.length = 0 := by omega
            have hposI : ¬ 0 < (L.length : Int) := by omega
            have hjI : (j : Int) < (ol.length : Int) := by omega
            clear hgo hpos
            go_wp2_with fail
            clear hposI
            go_loopw [9] (fun i wr => ∃ (t : Nat) (B : List Int), t ≤ L.length ∧ i = .int .i64 ((t : Int) - 1) ∧ Arr wr w.heap.size 24 .u64 T ∧ Arr wr (w.heap.size + 1) 24 .u64 B ∧ B.length = 8 ∧ Leq zeros B ∧ Leq B T ∧ (∀ i, t ≤ i → i < L.length → Leq (L.getD i []) B) ∧ Below w.heap.size w wr) (fun i _ => (intOf i + 1).toNat)
            case atStart => exact ⟨L.length, B, by omega, rfl, R0.out, R1.out, HBl.out, HzB.out, HBT.out, fun i h1 h2 => absurd h1 (by omega), HB.out⟩
            case round =>
              clear R0 R1 HB hbs HBl HzB HBT
              obtain ⟨t, B, ht, rfl, r0, r1, hB, hzB, hBT, hall, hb⟩ := hrel
              have hbs := hb.size
              have R0 := Lib.hid r0
              have R1 := Lib.hid r1
              have HB := Lib.hid hb
              have HBl := Lib.hid hB
              have HzB := Lib.hid hzB
              have HBT := Lib.hid hBT
              have HAll := Lib.hid hall
              clear r0 r1 hb hB hzB hBT hall
              cases t with
              | zero =>
                have hTB : T = B := leq_antisymm HTl.out HBl.out (HTm.out B HzB.out fun A hA => by
                  obtain ⟨i, hi, rfl⟩ := List.mem_iff_getElem.1 hA
                  have := HAll.out i (by omega) hi
                  simpa [List.getD, List.getElem?_eq_getElem hi] using this) HBT.out
                have he : (T == B) = true := by rw [hTB]; simp
                clear hTB
                go_wp2_with (first
                  | (with_reducible refine load_clock rfl (.tmp 5) rfl _ rfl T HTl.out R0.out ?_)
                  | (with_reducible refine load_clock rfl (.tmp 6) rfl _ rfl B HBl.out R1.out ?_)
                  | (with_reducible refine eql_clock rfl (.tmp 61) (.tmp 62) rfl T B rfl rfl HTl.out HBl.out _ he ?_)
                  | (go_at_call 11; with_reducible refine (lives13 _).mono ?_; rintro e wq ⟨rfl, hbq⟩))
                go_ret
                exact ⟨rfl, bthen HB.out hbq (Nat.le_refl _)⟩
              | succ j =>
                have hlt : j < L.length := by omega
                have hv : ((j + 1 : Nat) : Int) - 1 = (j : Int) := by omega
                rw [hv]
                obtain ⟨b, off, rfl, -, hat⟩ := Clocks.at HS.out HL.out (by omega)
                have HA := Lib.hid (HL.out _ (getD_mem hlt))
                have HAt := Lib.hid (hat j hlt)
                have HAT := Lib.hid (HTa.out.2 _ (getD_mem hlt))
                have hjI : (j : Int) < (L.length : Int) := by omega
                have HE := Lib.hid (show L.getD j [] = L.getD j [] from rfl)
                clear hat hv
                generalize hA' : L.getD j [] = A at HA HAt HAT
                have HA' := Lib.hid hA'
                clear HE hA'
                have HM := Lib.hid (merged_length HBl.out HA.out)
                go_upto_region 13 with fail
                refine wp_region_any (by kernel_rfl) ?_
                try (change wpAny _ _ _ _ _ _ _ (World.drew _))
                refine wpAny_take (i := 1) (v := ?_) (by simp only [List.getElem?_toArray, List.getElem?_cons_zero, List.getElem?_cons_succ] <;> rfl) (by kernel_rfl) (by kernel_rfl) (by kernel_rfl) (by intro _ _ _ h; exact h) (Or.inl ⟨by rfl, ?_⟩) ?_
                rotate_left
                · intro w; go_simp; try with_reducible rfl
                try simp only [Act.put, List.setIfInBounds_toArray, List.set_cons_zero, List.set_cons_succ, Array.replicate]
                refine wpAny_take (i := 2) (v := ?_) (by simp only [List.getElem?_toArray, List.getElem?_cons_zero, List.getElem?_cons_succ] <;> rfl) (by kernel_rfl) (by kernel_rfl) (by kernel_rfl) (by intro _ _ _ h; exact h) (Or.inl ⟨by rfl, ?_⟩) ?_
                rotate_left
                · intro w; go_simp; try with_reducible rfl
                try simp only [Act.put, List.setIfInBounds_toArray, List.set_cons_zero, List.set_cons_succ, Array.replicate]
                refine wpAny_take (i := 3) (v := ?_) (by simp only [List.getElem?_toArray, List.getElem?_cons_zero, List.getElem?_cons_succ] <;> rfl) (by kernel_rfl) (by kernel_rfl) (by kernel_rfl) (by intro _ _ _ h; exact h) (Or.inl ⟨by rfl, ?_⟩) ?_
                rotate_left
                · intro w; go_simp; try with_reducible rfl
                try simp only [Act.put, List.setIfInBounds_toArray, List.set_cons_zero, List.set_cons_succ, Array.replicate]
                refine wpAny_ready (rs := [0, 4]) (by kernel_rfl) (by simp) ?_
                refine AllReady.cons (by simp only [List.getElem?_toArray, List.getElem?_cons_zero, List.getElem?_cons_succ] <;> rfl) (fun K hK => ?_) ?_
                · refine step_load (by with_unfolding_all rfl) (.tmp 6) rfl _ rfl B HBl.out (Arr.keep R1.out (by repeat (first | with_reducible exact Below.refl _ _ | with_reducible refine bdrew ?_ | with_reducible refine balloc ?_ _ | with_reducible refine bstep ?_ (by assumption)))) ?_
                  refine hK _ _ ?_
                  clear hK K
                  try simp only [Act.put, List.setIfInBounds_toArray, List.set_cons_zero, List.set_cons_succ, Array.replicate]
                  refine wpAny_ready (rs := [4]) (by kernel_rfl) (by simp) ?_
                  refine AllReady.cons (by simp only [List.getElem?_toArray, List.getElem?_cons_zero, List.getElem?_cons_succ] <;> rfl) (fun K hK => ?_) ?_
                  · refine step_load_at (by with_unfolding_all rfl) (.tmp 58) rfl ⟨b, off + j * 8, none⟩ rfl A HA.out (At.keep HAt.out (by exact HB.out.drew)) ?_
                    refine hK _ _ ?_
                    clear hK K
                    try simp only [Act.put, List.setIfInBounds_toArray, List.set_cons_zero, List.set_cons_succ, Array.replicate]
                    refine wpAny_ready (rs := [5]) (by kernel_rfl) (by simp) ?_
                    refine AllReady.cons (by simp only [List.getElem?_toArray, List.getElem?_cons_zero, List.getElem?_cons_succ] <;> rfl) (fun K hK => ?_) ?_
                    · go_simp; go_at_call 8; with_reducible refine (merge_any B A HBl.out HA.out _).mono ?_; rintro e w1 ⟨rfl, hb1⟩; try go_simp
                      refine hK _ _ ?_
                      clear hK K
                      try simp only [Act.put, List.setIfInBounds_toArray, List.set_cons_zero, List.set_cons_succ, Array.replicate]
                      refine wpAny_ready (rs := [6]) (by kernel_rfl) (by simp) ?_
                      refine AllReady.cons (by simp only [List.getElem?_toArray, List.getElem?_cons_zero, List.getElem?_cons_succ] <;> rfl) (fun K hK => ?_) ?_
                      · refine step_store (by with_unfolding_all rfl) (.tmp 6) (.tmp 60) rfl _ rfl (merged B A) rfl HM.out _ B (Arr.keep R1.out (by repeat (first | with_reducible exact Below.refl _ _ | with_reducible refine bdrew ?_ | with_reducible refine balloc ?_ _ | with_reducible refine bstep ?_ (by assumption)))) HBl.out ?_
                        refine hK _ _ ?_
                        clear hK K
                        try simp only [Act.put, List.setIfInBounds_toArray, List.set_cons_zero, List.set_cons_succ, Array.replicate]
                        refine wpAny_done (by kernel_rfl) ?_ _
                        go_wp2_with fail
                        refine ⟨⟨j, merged B A, by omega, by go_num, Arr.setRow_other (Arr.keep (w := wr.drew) R0.out hb1) (by omega) _, Arr.setRow (Arr.keep (w := wr.drew) R1.out hb1) _, HM.out, HzB.out.trans (leq_merged1 HBl.out HA.out), merged_leq HBl.out HA.out HBT.out HAT.out, ?_, bsetRow (bthen HB.out.drew hb1 (Nat.le_refl _)) (by omega) _⟩, by simp [intOf]⟩
                        intro i h1 h2
                        by_cases hij : i = j
                        · subst hij; rw [HA'.out]; exact leq_merged2 HBl.out HA.out
                        · exact (HAll.out i (by omega) h2).trans (leq_merged1 HBl.out HA.out)
                      exact AllReady.nil
                    exact AllReady.nil
                  exact AllReady.nil
                refine AllReady.cons (by simp only [List.getElem?_toArray, List.getElem?_cons_zero, List.getElem?_cons_succ] <;> rfl) (fun K hK => ?_) ?_
                · refine step_load_at (by with_unfolding_all rfl) (.tmp 58) rfl ⟨b, off + j * 8, none⟩ rfl A HA.out (At.keep HAt.out (by exact HB.out.drew)) ?_
                  refine hK _ _ ?_
                  clear hK K
                  try simp only [Act.put, List.setIfInBounds_toArray, List.set_cons_zero, List.set_cons_succ, Array.replicate]
                  refine wpAny_ready (rs := [0]) (by kernel_rfl) (by simp) ?_
                  refine AllReady.cons (by simp only [List.getElem?_toArray, List.getElem?_cons_zero, List.getElem?_cons_succ] <;> rfl) (fun K hK => ?_) ?_
                  · refine step_load (by with_unfolding_all rfl) (.tmp 6) rfl _ rfl B HBl.out (Arr.keep R1.out (by repeat (first | with_reducible exact Below.refl _ _ | with_reducible refine bdrew ?_ | with_reducible refine balloc ?_ _ | with_reducible refine bstep ?_ (by assumption)))) ?_
                    refine hK _ _ ?_
                    clear hK K
                    try simp only [Act.put, List.setIfInBounds_toArray, List.set_cons_zero, List.set_cons_succ, Array.replicate]
                    refine wpAny_ready (rs := [5]) (by kernel_rfl) (by simp) ?_
                    refine AllReady.cons (by simp only [List.getElem?_toArray, List.getElem?_cons_zero, List.getElem?_cons_succ] <;> rfl) (fun K hK => ?_) ?_
                    · go_simp; go_at_call 8; with_reducible refine (merge_any B A HBl.out HA.out _).mono ?_; rintro e w1 ⟨rfl, hb1⟩; try go_simp
                      refine hK _ _ ?_
                      clear hK K
                      try simp only [Act.put, List.setIfInBounds_toArray, List.set_cons_zero, List.set_cons_succ, Array.replicate]
                      refine wpAny_ready (rs := [6]) (by kernel_rfl) (by simp) ?_
                      refine AllReady.cons (by simp only [List.getElem?_toArray, List.getElem?_cons_zero, List.getElem?_cons_succ] <;> rfl) (fun K hK => ?_) ?_
                      · refine step_store (by with_unfolding_all rfl) (.tmp 6) (.tmp 60) rfl _ rfl (merged B A) rfl HM.out _ B (Arr.keep R1.out (by repeat (first | with_reducible exact Below.refl _ _ | with_reducible refine bdrew ?_ | with_reducible refine balloc ?_ _ | with_reducible refine bstep ?_ (by assumption)))) HBl.out ?_
                        refine hK _ _ ?_
                        clear hK K
                        try simp only [Act.put, List.setIfInBounds_toArray, List.set_cons_zero, List.set_cons_succ, Array.replicate]
                        refine wpAny_done (by kernel_rfl) ?_ _
                        go_wp2_with fail
                        refine ⟨⟨j, merged B A, by omega, by go_num, Arr.setRow_other (Arr.keep (w := wr.drew) R0.out hb1) (by omega) _, Arr.setRow (Arr.keep (w := wr.drew) R1.out hb1) _, HM.out, HzB.out.trans (leq_merged1 HBl.out HA.out), merged_leq HBl.out HA.out HBT.out HAT.out, ?_, bsetRow (bthen HB.out.drew hb1 (Nat.le_refl _)) (by omega) _⟩, by simp [intOf]⟩
                        intro i h1 h2
                        by_cases hij : i = j
                        · subst hij; rw [HA'.out]; exact leq_merged2 HBl.out HA.out
                        · exact (HAll.out i (by omega) h2).trans (leq_merged1 HBl.out HA.out)
                      exact AllReady.nil
                    exact AllReady.nil
                  exact AllReady.nil
                exact AllReady.nil
          · obtain rfl : j = ol.length := by omega
            clear hgo
            go_wp2_with fail
            go_loopw [9] (fun i wr => ∃ (t : Nat) (B : List Int), t ≤ L.length ∧ i = .int .i64 ((t : Int) - 1) ∧ Arr wr w.heap.size 24 .u64 T ∧ Arr wr (w.heap.size + 1) 24 .u64 B ∧ B.length = 8 ∧ Leq zeros B ∧ Leq B T ∧ (∀ i, t ≤ i → i < L.length → Leq (L.getD i []) B) ∧ Below w.heap.size w wr) (fun i _ => (intOf i + 1).toNat)
            case atStart => exact ⟨L.length, B, by omega, rfl, R0.out, R1.out, HBl.out, HzB.out, HBT.out, fun i h1 h2 => absurd h1 (by omega), HB.out⟩
            case round =>
              clear R0 R1 HB hbs HBl HzB HBT
              obtain ⟨t, B, ht, rfl, r0, r1, hB, hzB, hBT, hall, hb⟩ := hrel
              have hbs := hb.size
              have R0 := Lib.hid r0
              have R1 := Lib.hid r1
              have HB := Lib.hid hb
              have HBl := Lib.hid hB
              have HzB := Lib.hid hzB
              have HBT := Lib.hid hBT
              have HAll := Lib.hid hall
              clear r0 r1 hb hB hzB hBT hall
              cases t with
              | zero =>
                have hTB : T = B := leq_antisymm HTl.out HBl.out (HTm.out B HzB.out fun A hA => by
                  obtain ⟨i, hi, rfl⟩ := List.mem_iff_getElem.1 hA
                  have := HAll.out i (by omega) hi
                  simpa [List.getD, List.getElem?_eq_getElem hi] using this) HBT.out
                have he : (T == B) = true := by rw [hTB]; simp
                clear hTB
                go_wp2_with (first
                  | (with_reducible refine load_clock rfl (.tmp 5) rfl _ rfl T HTl.out R0.out ?_)
                  | (with_reducible refine load_clock rfl (.tmp 6) rfl _ rfl B HBl.out R1.out ?_)
                  | (with_reducible refine eql_clock rfl (.tmp 61) (.tmp 62) rfl T B rfl rfl HTl.out HBl.out _ he ?_)
                  | (go_at_call 11; with_reducible refine (lives13 _).mono ?_; rintro e wq ⟨rfl, hbq⟩))
                go_ret
                exact ⟨rfl, bthen HB.out hbq (Nat.le_refl _)⟩
              | succ j =>
                have hlt : j < L.length := by omega
                have hv : ((j + 1 : Nat) : Int) - 1 = (j : Int) := by omega
                rw [hv]
                obtain ⟨b, off, rfl, -, hat⟩ := Clocks.at HS.out HL.out (by omega)
                have HA := Lib.hid (HL.out _ (getD_mem hlt))
                have HAt := Lib.hid (hat j hlt)
                have HAT := Lib.hid (HTa.out.2 _ (getD_mem hlt))
                have hjI : (j : Int) < (L.length : Int) := by omega
                have HE := Lib.hid (show L.getD j [] = L.getD j [] from rfl)
                clear hat hv
                generalize hA' : L.getD j [] = A at HA HAt HAT
                have HA' := Lib.hid hA'
                clear HE hA'
                have HM := Lib.hid (merged_length HBl.out HA.out)
                go_upto_region 13 with fail
                refine wp_region_any (by kernel_rfl) ?_
                try (change wpAny _ _ _ _ _ _ _ (World.drew _))
                refine wpAny_take (i := 1) (v := ?_) (by simp only [List.getElem?_toArray, List.getElem?_cons_zero, List.getElem?_cons_succ] <;> rfl) (by kernel_rfl) (by kernel_rfl) (by kernel_rfl) (by intro _ _ _ h; exact h) (Or.inl ⟨by rfl, ?_⟩) ?_
                rotate_left
                · intro w; go_simp; try with_reducible rfl
                try simp only [Act.put, List.setIfInBounds_toArray, List.set_cons_zero, List.set_cons_succ, Array.replicate]
                refine wpAny_take (i := 2) (v := ?_) (by simp only [List.getElem?_toArray, List.getElem?_cons_zero, List.getElem?_cons_succ] <;> rfl) (by kernel_rfl) (by kernel_rfl) (by kernel_rfl) (by intro _ _ _ h; exact h) (Or.inl ⟨by rfl, ?_⟩) ?_
                rotate_left
                · intro w; go_simp; try with_reducible rfl
                try simp only [Act.put, List.setIfInBounds_toArray, List.set_cons_zero, List.set_cons_succ, Array.replicate]
                refine wpAny_take (i := 3) (v := ?_) (by simp only [List.getElem?_toArray, List.getElem?_cons_zero, List.getElem?_cons_succ] <;> rfl) (by kernel_rfl) (by kernel_rfl) (by kernel_rfl) (by intro _ _ _ h; exact h) (Or.inl ⟨by rfl, ?_⟩) ?_
                rotate_left
                · intro w; go_simp; try with_reducible rfl
                try simp only [Act.put, List.setIfInBounds_toArray, List.set_cons_zero, List.set_cons_succ, Array.replicate]
                refine wpAny_ready (rs := [0, 4]) (by kernel_rfl) (by simp) ?_
                refine AllReady.cons (by simp only [List.getElem?_toArray, List.getElem?_cons_zero, List.getElem?_cons_succ] <;> rfl) (fun K hK => ?_) ?_
                · refine step_load (by with_unfolding_all rfl) (.tmp 6) rfl _ rfl B HBl.out (Arr.keep R1.out (by repeat (first | with_reducible exact Below.refl _ _ | with_reducible refine bdrew ?_ | with_reducible refine balloc ?_ _ | with_reducible refine bstep ?_ (by assumption)))) ?_
                  refine hK _ _ ?_
                  clear hK K
                  try simp only [Act.put, List.setIfInBounds_toArray, List.set_cons_zero, List.set_cons_succ, Array.replicate]
                  refine wpAny_ready (rs := [4]) (by kernel_rfl) (by simp) ?_
                  refine AllReady.cons (by simp only [List.getElem?_toArray, List.getElem?_cons_zero, List.getElem?_cons_succ] <;> rfl) (fun K hK => ?_) ?_
                  · refine step_load_at (by with_unfolding_all rfl) (.tmp 58) rfl ⟨b, off + j * 8, none⟩ rfl A HA.out (At.keep HAt.out (by exact HB.out.drew)) ?_
                    refine hK _ _ ?_
                    clear hK K
                    try simp only [Act.put, List.setIfInBounds_toArray, List.set_cons_zero, List.set_cons_succ, Array.replicate]
                    refine wpAny_ready (rs := [5]) (by kernel_rfl) (by simp) ?_
                    refine AllReady.cons (by simp only [List.getElem?_toArray, List.getElem?_cons_zero, List.getElem?_cons_succ] <;> rfl) (fun K hK => ?_) ?_
                    · go_simp; go_at_call 8; with_reducible refine (merge_any B A HBl.out HA.out _).mono ?_; rintro e w1 ⟨rfl, hb1⟩; try go_simp
                      refine hK _ _ ?_
                      clear hK K
                      try simp only [Act.put, List.setIfInBounds_toArray, List.set_cons_zero, List.set_cons_succ, Array.replicate]
                      refine wpAny_ready (rs := [6]) (by kernel_rfl) (by simp) ?_
                      refine AllReady.cons (by simp only [List.getElem?_toArray, List.getElem?_cons_zero, List.getElem?_cons_succ] <;> rfl) (fun K hK => ?_) ?_
                      · refine step_store (by with_unfolding_all rfl) (.tmp 6) (.tmp 60) rfl _ rfl (merged B A) rfl HM.out _ B (Arr.keep R1.out (by repeat (first | with_reducible exact Below.refl _ _ | with_reducible refine bdrew ?_ | with_reducible refine balloc ?_ _ | with_reducible refine bstep ?_ (by assumption)))) HBl.out ?_
                        refine hK _ _ ?_
                        clear hK K
                        try simp only [Act.put, List.setIfInBounds_toArray, List.set_cons_zero, List.set_cons_succ, Array.replicate]
                        refine wpAny_done (by kernel_rfl) ?_ _
                        go_wp2_with fail
                        refine ⟨⟨j, merged B A, by omega, by go_num, Arr.setRow_other (Arr.keep (w := wr.drew) R0.out hb1) (by omega) _, Arr.setRow (Arr.keep (w := wr.drew) R1.out hb1) _, HM.out, HzB.out.trans (leq_merged1 HBl.out HA.out), merged_leq HBl.out HA.out HBT.out HAT.out, ?_, bsetRow (bthen HB.out.drew hb1 (Nat.le_refl _)) (by omega) _⟩, by simp [intOf]⟩
                        intro i h1 h2
                        by_cases hij : i = j
                        · subst hij; rw [HA'.out]; exact leq_merged2 HBl.out HA.out
                        · exact (HAll.out i (by omega) h2).trans (leq_merged1 HBl.out HA.out)
                      exact AllReady.nil
                    exact AllReady.nil
                  exact AllReady.nil
                refine AllReady.cons (by simp only [List.getElem?_toArray, List.getElem?_cons_zero, List.getElem?_cons_succ] <;> rfl) (fun K hK => ?_) ?_
                · refine step_load_at (by with_unfolding_all rfl) (.tmp 58) rfl ⟨b, off + j * 8, none⟩ rfl A HA.out (At.keep HAt.out (by exact HB.out.drew)) ?_
                  refine hK _ _ ?_
                  clear hK K
                  try simp only [Act.put, List.setIfInBounds_toArray, List.set_cons_zero, List.set_cons_succ, Array.replicate]
                  refine wpAny_ready (rs := [0]) (by kernel_rfl) (by simp) ?_
                  refine AllReady.cons (by simp only [List.getElem?_toArray, List.getElem?_cons_zero, List.getElem?_cons_succ] <;> rfl) (fun K hK => ?_) ?_
                  · refine step_load (by with_unfolding_all rfl) (.tmp 6) rfl _ rfl B HBl.out (Arr.keep R1.out (by repeat (first | with_reducible exact Below.refl _ _ | with_reducible refine bdrew ?_ | with_reducible refine balloc ?_ _ | with_reducible refine bstep ?_ (by assumption)))) ?_
                    refine hK _ _ ?_
                    clear hK K
                    try simp only [Act.put, List.setIfInBounds_toArray, List.set_cons_zero, List.set_cons_succ, Array.replicate]
                    refine wpAny_ready (rs := [5]) (by kernel_rfl) (by simp) ?_
                    refine AllReady.cons (by simp only [List.getElem?_toArray, List.getElem?_cons_zero, List.getElem?_cons_succ] <;> rfl) (fun K hK => ?_) ?_
                    · go_simp; go_at_call 8; with_reducible refine (merge_any B A HBl.out HA.out _).mono ?_; rintro e w1 ⟨rfl, hb1⟩; try go_simp
                      refine hK _ _ ?_
                      clear hK K
                      try simp only [Act.put, List.setIfInBounds_toArray, List.set_cons_zero, List.set_cons_succ, Array.replicate]
                      refine wpAny_ready (rs := [6]) (by kernel_rfl) (by simp) ?_
                      refine AllReady.cons (by simp only [List.getElem?_toArray, List.getElem?_cons_zero, List.getElem?_cons_succ] <;> rfl) (fun K hK => ?_) ?_
                      · refine step_store (by with_unfolding_all rfl) (.tmp 6) (.tmp 60) rfl _ rfl (merged B A) rfl HM.out _ B (Arr.keep R1.out (by repeat (first | with_reducible exact Below.refl _ _ | with_reducible refine bdrew ?_ | with_reducible refine balloc ?_ _ | with_reducible refine bstep ?_ (by assumption)))) HBl.out ?_
                        refine hK _ _ ?_
                        clear hK K
                        try simp only [Act.put, List.setIfInBounds_toArray, List.set_cons_zero, List.set_cons_succ, Array.replicate]
                        refine wpAny_done (by kernel_rfl) ?_ _
                        go_wp2_with fail
                        refine ⟨⟨j, merged B A, by omega, by go_num, Arr.setRow_other (Arr.keep (w := wr.drew) R0.out hb1) (by omega) _, Arr.setRow (Arr.keep (w := wr.drew) R1.out hb1) _, HM.out, HzB.out.trans (leq_merged1 HBl.out HA.out), merged_leq HBl.out HA.out HBT.out HAT.out, ?_, bsetRow (bthen HB.out.drew hb1 (Nat.le_refl _)) (by omega) _⟩, by simp [intOf]⟩
                        intro i h1 h2
                        by_cases hij : i = j
                        · subst hij; rw [HA'.out]; exact leq_merged2 HBl.out HA.out
                        · exact (HAll.out i (by omega) h2).trans (leq_merged1 HBl.out HA.out)
                      exact AllReady.nil
                    exact AllReady.nil
                  exact AllReady.nil
                exact AllReady.nil
end Go.Proofs.Ytadmjhlcdoghpaa
