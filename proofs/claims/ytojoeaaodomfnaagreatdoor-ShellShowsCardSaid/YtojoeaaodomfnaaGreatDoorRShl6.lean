/- ref28.Parse: the verbs 11,12,13,14. (printed by gen/rshl2.py) -/
import Derived.Test.YtojoeaaodomfnaaGreatDoorRShl2
namespace Go.Proofs.YtojoeaaodomfnaaGreatDoor
set_option linter.unusedVariables false
set_option linter.unusedSimpArgs false
set_option linter.unnecessarySimpa false
open Go.RowKit
set_option maxRecDepth 100000
set_option maxHeartbeats 8000000

theorem rparse_short11 (s : ByteArray) (hs : s.size < 4294967281) (w : World) (hi : atL Shl.dnames ((Shl.wordsL s.data.toList).headD []) = 12) (hlt : (wordsB s).length < 3) :
    Calls Tryz.prog 10 #[.string s] w fun e w' => e = .returned (rparseV (.inl 3)) ∧ Below w.heap.size w w' := by
  obtain ⟨hd, hhd⟩ : ∃ hd, (Shl.wordsL s.data.toList).headD [] = hd := ⟨_, rfl⟩
  rw [hhd] at hi
  have HI := Lib.hid hi
  have hwl : 1 ≤ (wordsB s).length := wordsB_pos s
  have HW0 : Hid ((strs (wordsB s))[0]? = some (.string (bs hd))) := by
    show _ = _
    unfold strs wordsB
    rw [Shl.words_head_tail, hhd]
    rfl
  have Z1 := Lib.hid (Row.new w 28 (evC ev00))
  have Z2 : Hid (Below w.heap.size w (w.alloc (.cells (evC ev00).toArray 28))) := balloc (Below.refl _ _) _
  clear hi hhd
  go_enter Tryz.func10, Tryz.ntmps10
  go_upto_region 2 with (go_at_call 13; refine (rwords_any s hs _).mono ?_; rintro e w1 ⟨v1, rfl, ho1, hb1⟩; have O1 := Lib.hid ho1; have B1 := Lib.hid (Z2.out.trans (hb1.mono Z2.out.size)); have R1 := Lib.hid (Z1.out.keep hb1); have hs1 : w.heap.size < w1.heap.size := (by have := hb1.size; simp at this; omega); clear ho1 hb1)
  obtain ⟨ov, oc, hv1, hoc1, hoc2, -, hsh1⟩ := O1.out.shows.open
  subst hv1
  obtain ⟨ob, oo, hov, hcs⟩ := hsh1.cells1 (by rw [strs_length]; omega)
  subst hov
  have HCS := Lib.hid hcs
  have hsl : (strs (wordsB s)).length = (wordsB s).length := strs_length _
  rw [hsl] at hoc1 ⊢
  have hc0 := HCS.out 0 _ HW0.out
  rw [Nat.add_zero] at hc0
  have hl0 := blt hc0
  have hbd : Below w1.heap.size w1 (w1.alloc (.cells (strs (Shl.dnames.map bs)).toArray 9)) := balloc (Below.refl _ _) _
  generalize hLL : (wordsB s).length = L at *
  have HLL := Lib.hid hLL
  clear hcs hsh1 hLL hsl
  go_upto_region 3 with (go_at_call 21; refine (rat_any w1.heap.size 0 16 16 Shl.dnames rfl (bs hd) (by omega) _ (dn_cells w1)).mono ?_; rw [bs_data, HI.out]; rintro e w2 ⟨rfl, rfl⟩)
  obtain ⟨W2, hW2⟩ : ∃ W2, w1.alloc (.cells (strs (Shl.dnames.map bs)).toArray 9) = W2 := ⟨_, rfl⟩
  rw [hW2] at hbd ⊢
  have B2 := Lib.hid (B1.out.trans (hbd.mono B1.out.size))
  have R2 := Lib.hid (R1.out.keep hbd)
  have HC2 : Hid (∀ j u, (strs (wordsB s))[j]? = some u → W2.cell? ⟨ob, oo + j, none⟩ = some u) := fun j u hu => bkeep hbd (HCS.out j u hu)
  have hs2 : w.heap.size < W2.heap.size := by have := hbd.size; omega
  have hl2 : ob < W2.heap.size := by have := hbd.size; omega
  clear hW2 hbd B1 R1 HCS O1 hc0 hl0 Z1 Z2
  go_upto_region 6 with fail
  obtain ⟨W3, hW3⟩ : ∃ W3, W2.alloc (.cells (nums .i64 [4, 4, 4, 3, 3, 3, 3, 0, 2, 2, 2, 2, 3, 3, 2, 3]).toArray 3) = W3 := ⟨_, rfl⟩
  have hb3 : Below W2.heap.size W2 W3 := by rw [← hW3]; exact balloc (Below.refl _ _) _
  have e3 : W2.alloc (.cells #[.int .i64 4, .int .i64 4, .int .i64 4, .int .i64 3, .int .i64 3, .int .i64 3, .int .i64 3, .int .i64 0, .int .i64 2, .int .i64 2, .int .i64 2, .int .i64 2, .int .i64 3, .int .i64 3, .int .i64 2, .int .i64 3] 3) = W3 := hW3
  rw [e3]
  have B3 := Lib.hid (B2.out.trans (hb3.mono B2.out.size))
  have R3 := Lib.hid (R2.out.keep hb3)
  have HC3 : Hid (∀ j u, (strs (wordsB s))[j]? = some u → W3.cell? ⟨ob, oo + j, none⟩ = some u) := fun j u hu => bkeep hb3 (HC2.out j u hu)
  have hs3 : w.heap.size < W3.heap.size := by have := hb3.size; omega
  have hl3 : ob < W3.heap.size := by have := hb3.size; omega
  clear hW3 e3 hb3 B2 R2 HC2 hs2 hl2
  have hltI : (L : Int) < 3 := by omega
  go_wp2_with (refine store_box rfl 28 (.tmp 2) (.tmp 34) (by rfl) w.heap.size (by rfl) (evC ev00) (by rfl) 28 (evC ev00) R3.out rfl (evSz _) (evOne _) ?_; intro w9 hr9 hu9; have R9 := Lib.hid hr9; have B9 := Lib.hid (Upd.below' B3.out hu9 (Nat.le_refl _) B3.out.size); clear hr9 hu9)
  refine ret_box rfl rfl w.heap.size rfl (evC ev00) R9.out Tryz.underlying28 rfl (evSz _) ?_
  exact ⟨rfl, B9.out⟩
theorem rparse_long11 (s : ByteArray) (hs : s.size < 4294967281) (w : World) (hi : atL Shl.dnames ((Shl.wordsL s.data.toList).headD []) = 12) (hlt : 3 < (wordsB s).length) :
    Calls Tryz.prog 10 #[.string s] w fun e w' => e = .returned (rparseV (.inl 2)) ∧ Below w.heap.size w w' := by
  obtain ⟨hd, hhd⟩ : ∃ hd, (Shl.wordsL s.data.toList).headD [] = hd := ⟨_, rfl⟩
  rw [hhd] at hi
  have HI := Lib.hid hi
  have hwl : 1 ≤ (wordsB s).length := wordsB_pos s
  have HW0 : Hid ((strs (wordsB s))[0]? = some (.string (bs hd))) := by
    show _ = _
    unfold strs wordsB
    rw [Shl.words_head_tail, hhd]
    rfl
  have Z1 := Lib.hid (Row.new w 28 (evC ev00))
  have Z2 : Hid (Below w.heap.size w (w.alloc (.cells (evC ev00).toArray 28))) := balloc (Below.refl _ _) _
  clear hi hhd
  go_enter Tryz.func10, Tryz.ntmps10
  go_upto_region 2 with (go_at_call 13; refine (rwords_any s hs _).mono ?_; rintro e w1 ⟨v1, rfl, ho1, hb1⟩; have O1 := Lib.hid ho1; have B1 := Lib.hid (Z2.out.trans (hb1.mono Z2.out.size)); have R1 := Lib.hid (Z1.out.keep hb1); have hs1 : w.heap.size < w1.heap.size := (by have := hb1.size; simp at this; omega); clear ho1 hb1)
  obtain ⟨ov, oc, hv1, hoc1, hoc2, -, hsh1⟩ := O1.out.shows.open
  subst hv1
  obtain ⟨ob, oo, hov, hcs⟩ := hsh1.cells1 (by rw [strs_length]; omega)
  subst hov
  have HCS := Lib.hid hcs
  have hsl : (strs (wordsB s)).length = (wordsB s).length := strs_length _
  rw [hsl] at hoc1 ⊢
  have hc0 := HCS.out 0 _ HW0.out
  rw [Nat.add_zero] at hc0
  have hl0 := blt hc0
  have hbd : Below w1.heap.size w1 (w1.alloc (.cells (strs (Shl.dnames.map bs)).toArray 9)) := balloc (Below.refl _ _) _
  generalize hLL : (wordsB s).length = L at *
  have HLL := Lib.hid hLL
  clear hcs hsh1 hLL hsl
  go_upto_region 3 with (go_at_call 21; refine (rat_any w1.heap.size 0 16 16 Shl.dnames rfl (bs hd) (by omega) _ (dn_cells w1)).mono ?_; rw [bs_data, HI.out]; rintro e w2 ⟨rfl, rfl⟩)
  obtain ⟨W2, hW2⟩ : ∃ W2, w1.alloc (.cells (strs (Shl.dnames.map bs)).toArray 9) = W2 := ⟨_, rfl⟩
  rw [hW2] at hbd ⊢
  have B2 := Lib.hid (B1.out.trans (hbd.mono B1.out.size))
  have R2 := Lib.hid (R1.out.keep hbd)
  have HC2 : Hid (∀ j u, (strs (wordsB s))[j]? = some u → W2.cell? ⟨ob, oo + j, none⟩ = some u) := fun j u hu => bkeep hbd (HCS.out j u hu)
  have hs2 : w.heap.size < W2.heap.size := by have := hbd.size; omega
  have hl2 : ob < W2.heap.size := by have := hbd.size; omega
  clear hW2 hbd B1 R1 HCS O1 hc0 hl0 Z1 Z2
  go_upto_region 6 with fail
  obtain ⟨W3, hW3⟩ : ∃ W3, W2.alloc (.cells (nums .i64 [4, 4, 4, 3, 3, 3, 3, 0, 2, 2, 2, 2, 3, 3, 2, 3]).toArray 3) = W3 := ⟨_, rfl⟩
  have hb3 : Below W2.heap.size W2 W3 := by rw [← hW3]; exact balloc (Below.refl _ _) _
  have e3 : W2.alloc (.cells #[.int .i64 4, .int .i64 4, .int .i64 4, .int .i64 3, .int .i64 3, .int .i64 3, .int .i64 3, .int .i64 0, .int .i64 2, .int .i64 2, .int .i64 2, .int .i64 2, .int .i64 3, .int .i64 3, .int .i64 2, .int .i64 3] 3) = W3 := hW3
  rw [e3]
  have B3 := Lib.hid (B2.out.trans (hb3.mono B2.out.size))
  have R3 := Lib.hid (R2.out.keep hb3)
  have HC3 : Hid (∀ j u, (strs (wordsB s))[j]? = some u → W3.cell? ⟨ob, oo + j, none⟩ = some u) := fun j u hu => bkeep hb3 (HC2.out j u hu)
  have hs3 : w.heap.size < W3.heap.size := by have := hb3.size; omega
  have hl3 : ob < W3.heap.size := by have := hb3.size; omega
  clear hW3 e3 hb3 B2 R2 HC2 hs2 hl2
  have hltI : ¬ (L : Int) < 3 := by omega
  have hltI2 : (3 : Int) < (L : Int) := by omega
  go_wp2_with (refine store_box rfl 28 (.tmp 2) (.tmp 43) (by rfl) w.heap.size (by rfl) (evC ev00) (by rfl) 28 (evC ev00) R3.out rfl (evSz _) (evOne _) ?_; intro w9 hr9 hu9; have R9 := Lib.hid hr9; have B9 := Lib.hid (Upd.below' B3.out hu9 (Nat.le_refl _) B3.out.size); clear hr9 hu9)
  refine ret_box rfl rfl w.heap.size rfl (evC ev00) R9.out Tryz.underlying28 rfl (evSz _) ?_
  exact ⟨rfl, B9.out⟩
theorem rparse_ok11 (s : ByteArray) (hs : s.size < 4294967281) (w : World) (hi : atL Shl.dnames ((Shl.wordsL s.data.toList).headD []) = 12) (x1 x2 : List UInt8) (hT : (Shl.wordsL s.data.toList).drop 1 = [x1, x2]) (hn : (verbs_nm 11) = (Shl.wordsL s.data.toList).headD []) :
    Calls Tryz.prog 10 #[.string s] w fun e w' => e = .returned (rparseV (Shl.parseL s.data.toList)) ∧ Below w.heap.size w w' := by
  have hPL : Shl.parseL s.data.toList = match Shl.setAll (Shl.verbs.getD 11 dV).pat [x1, x2] (Shl.ev0 (Shl.verbs.getD 11 dV)) with | none => .inl 4 | some e => .inr e := by
    rw [Shl.parse_at (j := 11) (by omega) hn, hT]
    rfl
  have hLa : 3 ≤ (wordsB s).length := by
    have : (wordsB s).length = ((Shl.wordsL s.data.toList).drop 1).length + 1 := by
      have h1 : (wordsB s).length = (Shl.wordsL s.data.toList).length := by simp [wordsB]
      have h2 := wordsB_pos s
      rw [List.length_drop]; omega
    rw [this, hT]; simp
  have hLb : (wordsB s).length ≤ 3 := by
    have : (wordsB s).length = ((Shl.wordsL s.data.toList).drop 1).length + 1 := by
      have h1 : (wordsB s).length = (Shl.wordsL s.data.toList).length := by simp [wordsB]
      have h2 := wordsB_pos s
      rw [List.length_drop]; omega
    rw [this, hT]; simp
  have HX1 : Hid ((strs (wordsB s))[1]? = some (.string (bs x1)) ∧ x1.length ≤ 4294967281) := by
    have h1 : x1 ∈ (Shl.wordsL s.data.toList).drop 1 := by rw [hT]; simp
    have h2 := Shl.words_len _ _ (List.mem_of_mem_drop h1)
    have h3 : s.data.toList.length = s.size := rfl
    refine ⟨?_, by omega⟩
    unfold strs wordsB
    rw [Shl.words_head_tail, hT]
    rfl
  have HX2 : Hid ((strs (wordsB s))[2]? = some (.string (bs x2)) ∧ x2.length ≤ 4294967281) := by
    have h1 : x2 ∈ (Shl.wordsL s.data.toList).drop 1 := by rw [hT]; simp
    have h2 := Shl.words_len _ _ (List.mem_of_mem_drop h1)
    have h3 : s.data.toList.length = s.size := rfl
    refine ⟨?_, by omega⟩
    unfold strs wordsB
    rw [Shl.words_head_tail, hT]
    rfl
  have HPL := Lib.hid hPL
  clear hPL hT hn
  obtain ⟨hd, hhd⟩ : ∃ hd, (Shl.wordsL s.data.toList).headD [] = hd := ⟨_, rfl⟩
  rw [hhd] at hi
  have HI := Lib.hid hi
  have hwl : 1 ≤ (wordsB s).length := wordsB_pos s
  have HW0 : Hid ((strs (wordsB s))[0]? = some (.string (bs hd))) := by
    show _ = _
    unfold strs wordsB
    rw [Shl.words_head_tail, hhd]
    rfl
  have Z1 := Lib.hid (Row.new w 28 (evC ev00))
  have Z2 : Hid (Below w.heap.size w (w.alloc (.cells (evC ev00).toArray 28))) := balloc (Below.refl _ _) _
  clear hi hhd
  go_enter Tryz.func10, Tryz.ntmps10
  go_upto_region 2 with (go_at_call 13; refine (rwords_any s hs _).mono ?_; rintro e w1 ⟨v1, rfl, ho1, hb1⟩; have O1 := Lib.hid ho1; have B1 := Lib.hid (Z2.out.trans (hb1.mono Z2.out.size)); have R1 := Lib.hid (Z1.out.keep hb1); have hs1 : w.heap.size < w1.heap.size := (by have := hb1.size; simp at this; omega); clear ho1 hb1)
  obtain ⟨ov, oc, hv1, hoc1, hoc2, -, hsh1⟩ := O1.out.shows.open
  subst hv1
  obtain ⟨ob, oo, hov, hcs⟩ := hsh1.cells1 (by rw [strs_length]; omega)
  subst hov
  have HCS := Lib.hid hcs
  have hsl : (strs (wordsB s)).length = (wordsB s).length := strs_length _
  rw [hsl] at hoc1 ⊢
  have hc0 := HCS.out 0 _ HW0.out
  rw [Nat.add_zero] at hc0
  have hl0 := blt hc0
  have hbd : Below w1.heap.size w1 (w1.alloc (.cells (strs (Shl.dnames.map bs)).toArray 9)) := balloc (Below.refl _ _) _
  generalize hLL : (wordsB s).length = L at *
  have HLL := Lib.hid hLL
  clear hcs hsh1 hLL hsl
  go_upto_region 3 with (go_at_call 21; refine (rat_any w1.heap.size 0 16 16 Shl.dnames rfl (bs hd) (by omega) _ (dn_cells w1)).mono ?_; rw [bs_data, HI.out]; rintro e w2 ⟨rfl, rfl⟩)
  obtain ⟨W2, hW2⟩ : ∃ W2, w1.alloc (.cells (strs (Shl.dnames.map bs)).toArray 9) = W2 := ⟨_, rfl⟩
  rw [hW2] at hbd ⊢
  have B2 := Lib.hid (B1.out.trans (hbd.mono B1.out.size))
  have R2 := Lib.hid (R1.out.keep hbd)
  have HC2 : Hid (∀ j u, (strs (wordsB s))[j]? = some u → W2.cell? ⟨ob, oo + j, none⟩ = some u) := fun j u hu => bkeep hbd (HCS.out j u hu)
  have hs2 : w.heap.size < W2.heap.size := by have := hbd.size; omega
  have hl2 : ob < W2.heap.size := by have := hbd.size; omega
  clear hW2 hbd B1 R1 HCS O1 hc0 hl0 Z1 Z2
  go_upto_region 6 with fail
  obtain ⟨W3, hW3⟩ : ∃ W3, W2.alloc (.cells (nums .i64 [4, 4, 4, 3, 3, 3, 3, 0, 2, 2, 2, 2, 3, 3, 2, 3]).toArray 3) = W3 := ⟨_, rfl⟩
  have hb3 : Below W2.heap.size W2 W3 := by rw [← hW3]; exact balloc (Below.refl _ _) _
  have e3 : W2.alloc (.cells #[.int .i64 4, .int .i64 4, .int .i64 4, .int .i64 3, .int .i64 3, .int .i64 3, .int .i64 3, .int .i64 0, .int .i64 2, .int .i64 2, .int .i64 2, .int .i64 2, .int .i64 3, .int .i64 3, .int .i64 2, .int .i64 3] 3) = W3 := hW3
  rw [e3]
  have B3 := Lib.hid (B2.out.trans (hb3.mono B2.out.size))
  have R3 := Lib.hid (R2.out.keep hb3)
  have HC3 : Hid (∀ j u, (strs (wordsB s))[j]? = some u → W3.cell? ⟨ob, oo + j, none⟩ = some u) := fun j u hu => bkeep hb3 (HC2.out j u hu)
  have hs3 : w.heap.size < W3.heap.size := by have := hb3.size; omega
  have hl3 : ob < W3.heap.size := by have := hb3.size; omega
  clear hW3 e3 hb3 B2 R2 HC2 hs2 hl2
  have hq1 : ¬ (L : Int) < 3 := by omega
  have hq2 : ¬ (3 : Int) < (L : Int) := by omega
  have hx1c := HC3.out 1 _ HX1.out.1
  have hlx1 : (1 : Int) < (L : Int) := by omega
  have hx2c := HC3.out 2 _ HX2.out.1
  have hlx2 : (2 : Int) < (L : Int) := by omega
  obtain ⟨r1, hr1⟩ : ∃ r1, Shl.numL x1 = r1 := ⟨_, rfl⟩
  have HR1 := Lib.hid hr1
  clear hr1
  go_upto_region 11 with (go_at_call 22; refine (rnum_any (bs x1) _ HX1.out.2).mono ?_; rw [bs_data, HR1.out]; rintro e w4 ⟨⟨v1, rfl, hv⟩, rfl⟩; have HV1 := Lib.hid hv; clear hv)
  go_upto_region 12 with fail
  obtain ⟨W4, hW4⟩ : ∃ W4, W3.alloc (.cells (evC ⟨0, v1, 0, 0, [], [], 0⟩).toArray 28) = W4 := ⟨_, rfl⟩
  have hb4 : Below W3.heap.size W3 W4 := by rw [← hW4]; exact balloc (Below.refl _ _) _
  have E4 : Hid (Row W4 W3.heap.size 28 (evC ⟨0, v1, 0, 0, [], [], 0⟩)) := by rw [← hW4]; exact Row.new W3 _ _
  have e4 : W3.alloc (.cells #[.int .i64 0, .int .i64 v1, .int .i64 0, .int .i64 0, .string ⟨#[]⟩, .string ⟨#[]⟩, .int .i64 0, .int .i64 0, .int .u64 0, .slice none 0 0, .slice none 0 0] 28) = W4 := hW4
  rw [e4]
  have B4 := Lib.hid (B3.out.trans (hb4.mono B3.out.size))
  have R4 := Lib.hid (R3.out.keep hb4)
  have HC4 : Hid (∀ j u, (strs (wordsB s))[j]? = some u → W4.cell? ⟨ob, oo + j, none⟩ = some u) := fun j u hu => bkeep hb4 (HC3.out j u hu)
  have hs4 : W3.heap.size < W4.heap.size := by rw [← hW4]; simp
  clear hW4 e4 hb4 B3 R3 HC3 hx1c hx2c
  generalize W3.heap.size = eb at *
  have q0 := E4.out.cell 0
  have q2 := E4.out.cell 2
  have q3 := E4.out.cell 3
  have q4 := E4.out.cell 4
  have q5 := E4.out.cell 5
  have q6 := E4.out.cell 6
  simp only [evC, List.getElem?_cons_zero, List.getElem?_cons_succ] at q0 q2 q3 q4 q5 q6
  have z0 := E4.out.frozen 0
  have z2 := E4.out.frozen 2
  have z3 := E4.out.frozen 3
  have z4 := E4.out.frozen 4
  have z5 := E4.out.frozen 5
  have z6 := E4.out.frozen 6
  have hx1c := HC4.out 1 _ HX1.out.1
  have hx2c := HC4.out 2 _ HX2.out.1
  obtain ⟨r2, hr2⟩ : ∃ r2, Shl.numL x2 = r2 := ⟨_, rfl⟩
  have HR2 := Lib.hid hr2
  clear hr2
  go_upto_region 20 with (go_at_call 22; refine (rnum_any (bs x2) _ HX2.out.2).mono ?_; rw [bs_data, HR2.out]; rintro e w5 ⟨⟨v2, rfl, hv⟩, rfl⟩; have HV2 := Lib.hid hv; clear hv)
  cases r1 with
  | none =>
    cases r2 with
    | none =>
      go_wp2_with (refine store_box rfl 28 (.tmp 2) (.tmp 102) (by rfl) w.heap.size (by rfl) (evC ev00) (by rfl) 28 (evC ev00) R4.out rfl (evSz _) (evOne _) ?_; intro w9 hr9 hu9; have R9 := Lib.hid hr9; have B9 := Lib.hid (Upd.below' B4.out hu9 (Nat.le_refl _) B4.out.size); clear hr9 hu9)
      refine ret_box rfl rfl w.heap.size rfl (evC ev00) R9.out Tryz.underlying28 rfl (evSz _) ?_
      have HPN : Shl.parseL s.data.toList = .inl 4 := by
        rw [HPL.out]
        show (match Shl.setAll [114, 98] [x1, x2] (Shl.ev0 (Shl.verbs.getD 11 dV)) with | none => _ | some e => _) = _
        simp only [Shl.setAll, Shl.setE_r, Shl.setE_b, Shl.setE_n, Shl.setE_p, Shl.setE_s, Shl.setE_t, HR1.out, HR2.out, Option.map_some, Option.map_none, Option.bind_some, Option.bind_none]
      exact ⟨by rw [HPN]; rfl, B9.out⟩
    | some a2 =>
      go_wp2_with (refine store_box rfl 28 (.tmp 2) (.tmp 102) (by rfl) w.heap.size (by rfl) (evC ev00) (by rfl) 28 (evC ev00) R4.out rfl (evSz _) (evOne _) ?_; intro w9 hr9 hu9; have R9 := Lib.hid hr9; have B9 := Lib.hid (Upd.below' B4.out hu9 (Nat.le_refl _) B4.out.size); clear hr9 hu9)
      refine ret_box rfl rfl w.heap.size rfl (evC ev00) R9.out Tryz.underlying28 rfl (evSz _) ?_
      have HPN : Shl.parseL s.data.toList = .inl 4 := by
        rw [HPL.out]
        show (match Shl.setAll [114, 98] [x1, x2] (Shl.ev0 (Shl.verbs.getD 11 dV)) with | none => _ | some e => _) = _
        simp only [Shl.setAll, Shl.setE_r, Shl.setE_b, Shl.setE_n, Shl.setE_p, Shl.setE_s, Shl.setE_t, HR1.out, HR2.out, Option.map_some, Option.map_none, Option.bind_some, Option.bind_none]
      exact ⟨by rw [HPN]; rfl, B9.out⟩
  | some a1 =>
    obtain rfl := HV1.out a1 rfl
    cases r2 with
    | none =>
      go_wp2_with (refine store_box rfl 28 (.tmp 2) (.tmp 102) (by rfl) w.heap.size (by rfl) (evC ev00) (by rfl) 28 (evC ev00) R4.out rfl (evSz _) (evOne _) ?_; intro w9 hr9 hu9; have R9 := Lib.hid hr9; have B9 := Lib.hid (Upd.below' B4.out hu9 (Nat.le_refl _) B4.out.size); clear hr9 hu9)
      refine ret_box rfl rfl w.heap.size rfl (evC ev00) R9.out Tryz.underlying28 rfl (evSz _) ?_
      have HPN : Shl.parseL s.data.toList = .inl 4 := by
        rw [HPL.out]
        show (match Shl.setAll [114, 98] [x1, x2] (Shl.ev0 (Shl.verbs.getD 11 dV)) with | none => _ | some e => _) = _
        simp only [Shl.setAll, Shl.setE_r, Shl.setE_b, Shl.setE_n, Shl.setE_p, Shl.setE_s, Shl.setE_t, HR1.out, HR2.out, Option.map_some, Option.map_none, Option.bind_some, Option.bind_none]
      exact ⟨by rw [HPN]; rfl, B9.out⟩
    | some a2 =>
      obtain rfl := HV2.out a2 rfl
      go_wp2_with (first
        | (refine load_box rfl 28 (.tmp 9) (by rfl) eb (by rfl) (evC ⟨5, (a1 : Int), (a2 : Int), 0, [], [], 0⟩) 28 (by exact ((E4.out.set 0 _).set 2 _)) _ Tryz.underlying28 rfl (evSz _) ?_)
        | (refine store_box rfl 28 (.tmp 2) (.tmp 132) (by rfl) w.heap.size (by rfl) (evC ⟨5, (a1 : Int), (a2 : Int), 0, [], [], 0⟩) (by rfl) 28 (evC ev00) (by exact (Row.set_other (Row.set_other R4.out (p := ⟨eb, 0, none⟩) (by show w.heap.size ≠ eb; omega) _) (p := ⟨eb, 2, none⟩) (by show w.heap.size ≠ eb; omega) _)) rfl (evSz _) (evOne _) ?_; intro w9 hr9 hu9; have R9 := Lib.hid hr9; have B9 := Lib.hid (Upd.below' ((B4.out.setCell (p := ⟨eb, 0, none⟩) (by show w.heap.size ≤ eb; omega) _).setCell (p := ⟨eb, 2, none⟩) (by show w.heap.size ≤ eb; omega) _) hu9 (Nat.le_refl _) (by simp; omega)); clear hr9 hu9))
      refine ret_box rfl rfl w.heap.size rfl (evC ⟨5, (a1 : Int), (a2 : Int), 0, [], [], 0⟩) R9.out Tryz.underlying28 rfl (evSz _) ?_
      have HPN : Shl.parseL s.data.toList = .inr ⟨5, (a1 : Int), (a2 : Int), 0, [], [], 0⟩ := by
        rw [HPL.out]
        show (match Shl.setAll [114, 98] [x1, x2] (Shl.ev0 (Shl.verbs.getD 11 dV)) with | none => _ | some e => _) = _
        simp only [Shl.setAll, Shl.setE_r, Shl.setE_b, Shl.setE_n, Shl.setE_p, Shl.setE_s, Shl.setE_t, HR1.out, HR2.out, Option.map_some, Option.map_none, Option.bind_some, Option.bind_none]
        try rfl
      exact ⟨by rw [HPN]; rfl, B9.out⟩
theorem rparse_short12 (s : ByteArray) (hs : s.size < 4294967281) (w : World) (hi : atL Shl.dnames ((Shl.wordsL s.data.toList).headD []) = 13) (hlt : (wordsB s).length < 3) :
    Calls Tryz.prog 10 #[.string s] w fun e w' => e = .returned (rparseV (.inl 3)) ∧ Below w.heap.size w w' := by
  obtain ⟨hd, hhd⟩ : ∃ hd, (Shl.wordsL s.data.toList).headD [] = hd := ⟨_, rfl⟩
  rw [hhd] at hi
  have HI := Lib.hid hi
  have hwl : 1 ≤ (wordsB s).length := wordsB_pos s
  have HW0 : Hid ((strs (wordsB s))[0]? = some (.string (bs hd))) := by
    show _ = _
    unfold strs wordsB
    rw [Shl.words_head_tail, hhd]
    rfl
  have Z1 := Lib.hid (Row.new w 28 (evC ev00))
  have Z2 : Hid (Below w.heap.size w (w.alloc (.cells (evC ev00).toArray 28))) := balloc (Below.refl _ _) _
  clear hi hhd
  go_enter Tryz.func10, Tryz.ntmps10
  go_upto_region 2 with (go_at_call 13; refine (rwords_any s hs _).mono ?_; rintro e w1 ⟨v1, rfl, ho1, hb1⟩; have O1 := Lib.hid ho1; have B1 := Lib.hid (Z2.out.trans (hb1.mono Z2.out.size)); have R1 := Lib.hid (Z1.out.keep hb1); have hs1 : w.heap.size < w1.heap.size := (by have := hb1.size; simp at this; omega); clear ho1 hb1)
  obtain ⟨ov, oc, hv1, hoc1, hoc2, -, hsh1⟩ := O1.out.shows.open
  subst hv1
  obtain ⟨ob, oo, hov, hcs⟩ := hsh1.cells1 (by rw [strs_length]; omega)
  subst hov
  have HCS := Lib.hid hcs
  have hsl : (strs (wordsB s)).length = (wordsB s).length := strs_length _
  rw [hsl] at hoc1 ⊢
  have hc0 := HCS.out 0 _ HW0.out
  rw [Nat.add_zero] at hc0
  have hl0 := blt hc0
  have hbd : Below w1.heap.size w1 (w1.alloc (.cells (strs (Shl.dnames.map bs)).toArray 9)) := balloc (Below.refl _ _) _
  generalize hLL : (wordsB s).length = L at *
  have HLL := Lib.hid hLL
  clear hcs hsh1 hLL hsl
  go_upto_region 3 with (go_at_call 21; refine (rat_any w1.heap.size 0 16 16 Shl.dnames rfl (bs hd) (by omega) _ (dn_cells w1)).mono ?_; rw [bs_data, HI.out]; rintro e w2 ⟨rfl, rfl⟩)
  obtain ⟨W2, hW2⟩ : ∃ W2, w1.alloc (.cells (strs (Shl.dnames.map bs)).toArray 9) = W2 := ⟨_, rfl⟩
  rw [hW2] at hbd ⊢
  have B2 := Lib.hid (B1.out.trans (hbd.mono B1.out.size))
  have R2 := Lib.hid (R1.out.keep hbd)
  have HC2 : Hid (∀ j u, (strs (wordsB s))[j]? = some u → W2.cell? ⟨ob, oo + j, none⟩ = some u) := fun j u hu => bkeep hbd (HCS.out j u hu)
  have hs2 : w.heap.size < W2.heap.size := by have := hbd.size; omega
  have hl2 : ob < W2.heap.size := by have := hbd.size; omega
  clear hW2 hbd B1 R1 HCS O1 hc0 hl0 Z1 Z2
  go_upto_region 6 with fail
  obtain ⟨W3, hW3⟩ : ∃ W3, W2.alloc (.cells (nums .i64 [4, 4, 4, 3, 3, 3, 3, 0, 2, 2, 2, 2, 3, 3, 2, 3]).toArray 3) = W3 := ⟨_, rfl⟩
  have hb3 : Below W2.heap.size W2 W3 := by rw [← hW3]; exact balloc (Below.refl _ _) _
  have e3 : W2.alloc (.cells #[.int .i64 4, .int .i64 4, .int .i64 4, .int .i64 3, .int .i64 3, .int .i64 3, .int .i64 3, .int .i64 0, .int .i64 2, .int .i64 2, .int .i64 2, .int .i64 2, .int .i64 3, .int .i64 3, .int .i64 2, .int .i64 3] 3) = W3 := hW3
  rw [e3]
  have B3 := Lib.hid (B2.out.trans (hb3.mono B2.out.size))
  have R3 := Lib.hid (R2.out.keep hb3)
  have HC3 : Hid (∀ j u, (strs (wordsB s))[j]? = some u → W3.cell? ⟨ob, oo + j, none⟩ = some u) := fun j u hu => bkeep hb3 (HC2.out j u hu)
  have hs3 : w.heap.size < W3.heap.size := by have := hb3.size; omega
  have hl3 : ob < W3.heap.size := by have := hb3.size; omega
  clear hW3 e3 hb3 B2 R2 HC2 hs2 hl2
  have hltI : (L : Int) < 3 := by omega
  go_wp2_with (refine store_box rfl 28 (.tmp 2) (.tmp 34) (by rfl) w.heap.size (by rfl) (evC ev00) (by rfl) 28 (evC ev00) R3.out rfl (evSz _) (evOne _) ?_; intro w9 hr9 hu9; have R9 := Lib.hid hr9; have B9 := Lib.hid (Upd.below' B3.out hu9 (Nat.le_refl _) B3.out.size); clear hr9 hu9)
  refine ret_box rfl rfl w.heap.size rfl (evC ev00) R9.out Tryz.underlying28 rfl (evSz _) ?_
  exact ⟨rfl, B9.out⟩
theorem rparse_long12 (s : ByteArray) (hs : s.size < 4294967281) (w : World) (hi : atL Shl.dnames ((Shl.wordsL s.data.toList).headD []) = 13) (hlt : 3 < (wordsB s).length) :
    Calls Tryz.prog 10 #[.string s] w fun e w' => e = .returned (rparseV (.inl 2)) ∧ Below w.heap.size w w' := by
  obtain ⟨hd, hhd⟩ : ∃ hd, (Shl.wordsL s.data.toList).headD [] = hd := ⟨_, rfl⟩
  rw [hhd] at hi
  have HI := Lib.hid hi
  have hwl : 1 ≤ (wordsB s).length := wordsB_pos s
  have HW0 : Hid ((strs (wordsB s))[0]? = some (.string (bs hd))) := by
    show _ = _
    unfold strs wordsB
    rw [Shl.words_head_tail, hhd]
    rfl
  have Z1 := Lib.hid (Row.new w 28 (evC ev00))
  have Z2 : Hid (Below w.heap.size w (w.alloc (.cells (evC ev00).toArray 28))) := balloc (Below.refl _ _) _
  clear hi hhd
  go_enter Tryz.func10, Tryz.ntmps10
  go_upto_region 2 with (go_at_call 13; refine (rwords_any s hs _).mono ?_; rintro e w1 ⟨v1, rfl, ho1, hb1⟩; have O1 := Lib.hid ho1; have B1 := Lib.hid (Z2.out.trans (hb1.mono Z2.out.size)); have R1 := Lib.hid (Z1.out.keep hb1); have hs1 : w.heap.size < w1.heap.size := (by have := hb1.size; simp at this; omega); clear ho1 hb1)
  obtain ⟨ov, oc, hv1, hoc1, hoc2, -, hsh1⟩ := O1.out.shows.open
  subst hv1
  obtain ⟨ob, oo, hov, hcs⟩ := hsh1.cells1 (by rw [strs_length]; omega)
  subst hov
  have HCS := Lib.hid hcs
  have hsl : (strs (wordsB s)).length = (wordsB s).length := strs_length _
  rw [hsl] at hoc1 ⊢
  have hc0 := HCS.out 0 _ HW0.out
  rw [Nat.add_zero] at hc0
  have hl0 := blt hc0
  have hbd : Below w1.heap.size w1 (w1.alloc (.cells (strs (Shl.dnames.map bs)).toArray 9)) := balloc (Below.refl _ _) _
  generalize hLL : (wordsB s).length = L at *
  have HLL := Lib.hid hLL
  clear hcs hsh1 hLL hsl
  go_upto_region 3 with (go_at_call 21; refine (rat_any w1.heap.size 0 16 16 Shl.dnames rfl (bs hd) (by omega) _ (dn_cells w1)).mono ?_; rw [bs_data, HI.out]; rintro e w2 ⟨rfl, rfl⟩)
  obtain ⟨W2, hW2⟩ : ∃ W2, w1.alloc (.cells (strs (Shl.dnames.map bs)).toArray 9) = W2 := ⟨_, rfl⟩
  rw [hW2] at hbd ⊢
  have B2 := Lib.hid (B1.out.trans (hbd.mono B1.out.size))
  have R2 := Lib.hid (R1.out.keep hbd)
  have HC2 : Hid (∀ j u, (strs (wordsB s))[j]? = some u → W2.cell? ⟨ob, oo + j, none⟩ = some u) := fun j u hu => bkeep hbd (HCS.out j u hu)
  have hs2 : w.heap.size < W2.heap.size := by have := hbd.size; omega
  have hl2 : ob < W2.heap.size := by have := hbd.size; omega
  clear hW2 hbd B1 R1 HCS O1 hc0 hl0 Z1 Z2
  go_upto_region 6 with fail
  obtain ⟨W3, hW3⟩ : ∃ W3, W2.alloc (.cells (nums .i64 [4, 4, 4, 3, 3, 3, 3, 0, 2, 2, 2, 2, 3, 3, 2, 3]).toArray 3) = W3 := ⟨_, rfl⟩
  have hb3 : Below W2.heap.size W2 W3 := by rw [← hW3]; exact balloc (Below.refl _ _) _
  have e3 : W2.alloc (.cells #[.int .i64 4, .int .i64 4, .int .i64 4, .int .i64 3, .int .i64 3, .int .i64 3, .int .i64 3, .int .i64 0, .int .i64 2, .int .i64 2, .int .i64 2, .int .i64 2, .int .i64 3, .int .i64 3, .int .i64 2, .int .i64 3] 3) = W3 := hW3
  rw [e3]
  have B3 := Lib.hid (B2.out.trans (hb3.mono B2.out.size))
  have R3 := Lib.hid (R2.out.keep hb3)
  have HC3 : Hid (∀ j u, (strs (wordsB s))[j]? = some u → W3.cell? ⟨ob, oo + j, none⟩ = some u) := fun j u hu => bkeep hb3 (HC2.out j u hu)
  have hs3 : w.heap.size < W3.heap.size := by have := hb3.size; omega
  have hl3 : ob < W3.heap.size := by have := hb3.size; omega
  clear hW3 e3 hb3 B2 R2 HC2 hs2 hl2
  have hltI : ¬ (L : Int) < 3 := by omega
  have hltI2 : (3 : Int) < (L : Int) := by omega
  go_wp2_with (refine store_box rfl 28 (.tmp 2) (.tmp 43) (by rfl) w.heap.size (by rfl) (evC ev00) (by rfl) 28 (evC ev00) R3.out rfl (evSz _) (evOne _) ?_; intro w9 hr9 hu9; have R9 := Lib.hid hr9; have B9 := Lib.hid (Upd.below' B3.out hu9 (Nat.le_refl _) B3.out.size); clear hr9 hu9)
  refine ret_box rfl rfl w.heap.size rfl (evC ev00) R9.out Tryz.underlying28 rfl (evSz _) ?_
  exact ⟨rfl, B9.out⟩
theorem rparse_ok12 (s : ByteArray) (hs : s.size < 4294967281) (w : World) (hi : atL Shl.dnames ((Shl.wordsL s.data.toList).headD []) = 13) (x1 x2 : List UInt8) (hT : (Shl.wordsL s.data.toList).drop 1 = [x1, x2]) (hn : (verbs_nm 12) = (Shl.wordsL s.data.toList).headD []) :
    Calls Tryz.prog 10 #[.string s] w fun e w' => e = .returned (rparseV (Shl.parseL s.data.toList)) ∧ Below w.heap.size w w' := by
  have hPL : Shl.parseL s.data.toList = match Shl.setAll (Shl.verbs.getD 12 dV).pat [x1, x2] (Shl.ev0 (Shl.verbs.getD 12 dV)) with | none => .inl 4 | some e => .inr e := by
    rw [Shl.parse_at (j := 12) (by omega) hn, hT]
    rfl
  have hLa : 3 ≤ (wordsB s).length := by
    have : (wordsB s).length = ((Shl.wordsL s.data.toList).drop 1).length + 1 := by
      have h1 : (wordsB s).length = (Shl.wordsL s.data.toList).length := by simp [wordsB]
      have h2 := wordsB_pos s
      rw [List.length_drop]; omega
    rw [this, hT]; simp
  have hLb : (wordsB s).length ≤ 3 := by
    have : (wordsB s).length = ((Shl.wordsL s.data.toList).drop 1).length + 1 := by
      have h1 : (wordsB s).length = (Shl.wordsL s.data.toList).length := by simp [wordsB]
      have h2 := wordsB_pos s
      rw [List.length_drop]; omega
    rw [this, hT]; simp
  have HX1 : Hid ((strs (wordsB s))[1]? = some (.string (bs x1)) ∧ x1.length ≤ 4294967281) := by
    have h1 : x1 ∈ (Shl.wordsL s.data.toList).drop 1 := by rw [hT]; simp
    have h2 := Shl.words_len _ _ (List.mem_of_mem_drop h1)
    have h3 : s.data.toList.length = s.size := rfl
    refine ⟨?_, by omega⟩
    unfold strs wordsB
    rw [Shl.words_head_tail, hT]
    rfl
  have HX2 : Hid ((strs (wordsB s))[2]? = some (.string (bs x2)) ∧ x2.length ≤ 4294967281) := by
    have h1 : x2 ∈ (Shl.wordsL s.data.toList).drop 1 := by rw [hT]; simp
    have h2 := Shl.words_len _ _ (List.mem_of_mem_drop h1)
    have h3 : s.data.toList.length = s.size := rfl
    refine ⟨?_, by omega⟩
    unfold strs wordsB
    rw [Shl.words_head_tail, hT]
    rfl
  have HPL := Lib.hid hPL
  clear hPL hT hn
  obtain ⟨hd, hhd⟩ : ∃ hd, (Shl.wordsL s.data.toList).headD [] = hd := ⟨_, rfl⟩
  rw [hhd] at hi
  have HI := Lib.hid hi
  have hwl : 1 ≤ (wordsB s).length := wordsB_pos s
  have HW0 : Hid ((strs (wordsB s))[0]? = some (.string (bs hd))) := by
    show _ = _
    unfold strs wordsB
    rw [Shl.words_head_tail, hhd]
    rfl
  have Z1 := Lib.hid (Row.new w 28 (evC ev00))
  have Z2 : Hid (Below w.heap.size w (w.alloc (.cells (evC ev00).toArray 28))) := balloc (Below.refl _ _) _
  clear hi hhd
  go_enter Tryz.func10, Tryz.ntmps10
  go_upto_region 2 with (go_at_call 13; refine (rwords_any s hs _).mono ?_; rintro e w1 ⟨v1, rfl, ho1, hb1⟩; have O1 := Lib.hid ho1; have B1 := Lib.hid (Z2.out.trans (hb1.mono Z2.out.size)); have R1 := Lib.hid (Z1.out.keep hb1); have hs1 : w.heap.size < w1.heap.size := (by have := hb1.size; simp at this; omega); clear ho1 hb1)
  obtain ⟨ov, oc, hv1, hoc1, hoc2, -, hsh1⟩ := O1.out.shows.open
  subst hv1
  obtain ⟨ob, oo, hov, hcs⟩ := hsh1.cells1 (by rw [strs_length]; omega)
  subst hov
  have HCS := Lib.hid hcs
  have hsl : (strs (wordsB s)).length = (wordsB s).length := strs_length _
  rw [hsl] at hoc1 ⊢
  have hc0 := HCS.out 0 _ HW0.out
  rw [Nat.add_zero] at hc0
  have hl0 := blt hc0
  have hbd : Below w1.heap.size w1 (w1.alloc (.cells (strs (Shl.dnames.map bs)).toArray 9)) := balloc (Below.refl _ _) _
  generalize hLL : (wordsB s).length = L at *
  have HLL := Lib.hid hLL
  clear hcs hsh1 hLL hsl
  go_upto_region 3 with (go_at_call 21; refine (rat_any w1.heap.size 0 16 16 Shl.dnames rfl (bs hd) (by omega) _ (dn_cells w1)).mono ?_; rw [bs_data, HI.out]; rintro e w2 ⟨rfl, rfl⟩)
  obtain ⟨W2, hW2⟩ : ∃ W2, w1.alloc (.cells (strs (Shl.dnames.map bs)).toArray 9) = W2 := ⟨_, rfl⟩
  rw [hW2] at hbd ⊢
  have B2 := Lib.hid (B1.out.trans (hbd.mono B1.out.size))
  have R2 := Lib.hid (R1.out.keep hbd)
  have HC2 : Hid (∀ j u, (strs (wordsB s))[j]? = some u → W2.cell? ⟨ob, oo + j, none⟩ = some u) := fun j u hu => bkeep hbd (HCS.out j u hu)
  have hs2 : w.heap.size < W2.heap.size := by have := hbd.size; omega
  have hl2 : ob < W2.heap.size := by have := hbd.size; omega
  clear hW2 hbd B1 R1 HCS O1 hc0 hl0 Z1 Z2
  go_upto_region 6 with fail
  obtain ⟨W3, hW3⟩ : ∃ W3, W2.alloc (.cells (nums .i64 [4, 4, 4, 3, 3, 3, 3, 0, 2, 2, 2, 2, 3, 3, 2, 3]).toArray 3) = W3 := ⟨_, rfl⟩
  have hb3 : Below W2.heap.size W2 W3 := by rw [← hW3]; exact balloc (Below.refl _ _) _
  have e3 : W2.alloc (.cells #[.int .i64 4, .int .i64 4, .int .i64 4, .int .i64 3, .int .i64 3, .int .i64 3, .int .i64 3, .int .i64 0, .int .i64 2, .int .i64 2, .int .i64 2, .int .i64 2, .int .i64 3, .int .i64 3, .int .i64 2, .int .i64 3] 3) = W3 := hW3
  rw [e3]
  have B3 := Lib.hid (B2.out.trans (hb3.mono B2.out.size))
  have R3 := Lib.hid (R2.out.keep hb3)
  have HC3 : Hid (∀ j u, (strs (wordsB s))[j]? = some u → W3.cell? ⟨ob, oo + j, none⟩ = some u) := fun j u hu => bkeep hb3 (HC2.out j u hu)
  have hs3 : w.heap.size < W3.heap.size := by have := hb3.size; omega
  have hl3 : ob < W3.heap.size := by have := hb3.size; omega
  clear hW3 e3 hb3 B2 R2 HC2 hs2 hl2
  have hq1 : ¬ (L : Int) < 3 := by omega
  have hq2 : ¬ (3 : Int) < (L : Int) := by omega
  have hx1c := HC3.out 1 _ HX1.out.1
  have hlx1 : (1 : Int) < (L : Int) := by omega
  have hx2c := HC3.out 2 _ HX2.out.1
  have hlx2 : (2 : Int) < (L : Int) := by omega
  obtain ⟨r1, hr1⟩ : ∃ r1, Shl.numL x1 = r1 := ⟨_, rfl⟩
  have HR1 := Lib.hid hr1
  clear hr1
  go_upto_region 11 with (go_at_call 22; refine (rnum_any (bs x1) _ HX1.out.2).mono ?_; rw [bs_data, HR1.out]; rintro e w4 ⟨⟨v1, rfl, hv⟩, rfl⟩; have HV1 := Lib.hid hv; clear hv)
  go_upto_region 12 with fail
  obtain ⟨W4, hW4⟩ : ∃ W4, W3.alloc (.cells (evC ⟨0, v1, 0, 0, [], [], 0⟩).toArray 28) = W4 := ⟨_, rfl⟩
  have hb4 : Below W3.heap.size W3 W4 := by rw [← hW4]; exact balloc (Below.refl _ _) _
  have E4 : Hid (Row W4 W3.heap.size 28 (evC ⟨0, v1, 0, 0, [], [], 0⟩)) := by rw [← hW4]; exact Row.new W3 _ _
  have e4 : W3.alloc (.cells #[.int .i64 0, .int .i64 v1, .int .i64 0, .int .i64 0, .string ⟨#[]⟩, .string ⟨#[]⟩, .int .i64 0, .int .i64 0, .int .u64 0, .slice none 0 0, .slice none 0 0] 28) = W4 := hW4
  rw [e4]
  have B4 := Lib.hid (B3.out.trans (hb4.mono B3.out.size))
  have R4 := Lib.hid (R3.out.keep hb4)
  have HC4 : Hid (∀ j u, (strs (wordsB s))[j]? = some u → W4.cell? ⟨ob, oo + j, none⟩ = some u) := fun j u hu => bkeep hb4 (HC3.out j u hu)
  have hs4 : W3.heap.size < W4.heap.size := by rw [← hW4]; simp
  clear hW4 e4 hb4 B3 R3 HC3 hx1c hx2c
  generalize W3.heap.size = eb at *
  have q0 := E4.out.cell 0
  have q2 := E4.out.cell 2
  have q3 := E4.out.cell 3
  have q4 := E4.out.cell 4
  have q5 := E4.out.cell 5
  have q6 := E4.out.cell 6
  simp only [evC, List.getElem?_cons_zero, List.getElem?_cons_succ] at q0 q2 q3 q4 q5 q6
  have z0 := E4.out.frozen 0
  have z2 := E4.out.frozen 2
  have z3 := E4.out.frozen 3
  have z4 := E4.out.frozen 4
  have z5 := E4.out.frozen 5
  have z6 := E4.out.frozen 6
  have hx1c := HC4.out 1 _ HX1.out.1
  have hx2c := HC4.out 2 _ HX2.out.1
  obtain ⟨r2, hr2⟩ : ∃ r2, Shl.numL x2 = r2 := ⟨_, rfl⟩
  have HR2 := Lib.hid hr2
  clear hr2
  go_upto_region 20 with (go_at_call 22; refine (rnum_any (bs x2) _ HX2.out.2).mono ?_; rw [bs_data, HR2.out]; rintro e w5 ⟨⟨v2, rfl, hv⟩, rfl⟩; have HV2 := Lib.hid hv; clear hv)
  cases r1 with
  | none =>
    cases r2 with
    | none =>
      go_wp2_with (refine store_box rfl 28 (.tmp 2) (.tmp 102) (by rfl) w.heap.size (by rfl) (evC ev00) (by rfl) 28 (evC ev00) R4.out rfl (evSz _) (evOne _) ?_; intro w9 hr9 hu9; have R9 := Lib.hid hr9; have B9 := Lib.hid (Upd.below' B4.out hu9 (Nat.le_refl _) B4.out.size); clear hr9 hu9)
      refine ret_box rfl rfl w.heap.size rfl (evC ev00) R9.out Tryz.underlying28 rfl (evSz _) ?_
      have HPN : Shl.parseL s.data.toList = .inl 4 := by
        rw [HPL.out]
        show (match Shl.setAll [114, 98] [x1, x2] (Shl.ev0 (Shl.verbs.getD 12 dV)) with | none => _ | some e => _) = _
        simp only [Shl.setAll, Shl.setE_r, Shl.setE_b, Shl.setE_n, Shl.setE_p, Shl.setE_s, Shl.setE_t, HR1.out, HR2.out, Option.map_some, Option.map_none, Option.bind_some, Option.bind_none]
      exact ⟨by rw [HPN]; rfl, B9.out⟩
    | some a2 =>
      go_wp2_with (refine store_box rfl 28 (.tmp 2) (.tmp 102) (by rfl) w.heap.size (by rfl) (evC ev00) (by rfl) 28 (evC ev00) R4.out rfl (evSz _) (evOne _) ?_; intro w9 hr9 hu9; have R9 := Lib.hid hr9; have B9 := Lib.hid (Upd.below' B4.out hu9 (Nat.le_refl _) B4.out.size); clear hr9 hu9)
      refine ret_box rfl rfl w.heap.size rfl (evC ev00) R9.out Tryz.underlying28 rfl (evSz _) ?_
      have HPN : Shl.parseL s.data.toList = .inl 4 := by
        rw [HPL.out]
        show (match Shl.setAll [114, 98] [x1, x2] (Shl.ev0 (Shl.verbs.getD 12 dV)) with | none => _ | some e => _) = _
        simp only [Shl.setAll, Shl.setE_r, Shl.setE_b, Shl.setE_n, Shl.setE_p, Shl.setE_s, Shl.setE_t, HR1.out, HR2.out, Option.map_some, Option.map_none, Option.bind_some, Option.bind_none]
      exact ⟨by rw [HPN]; rfl, B9.out⟩
  | some a1 =>
    obtain rfl := HV1.out a1 rfl
    cases r2 with
    | none =>
      go_wp2_with (refine store_box rfl 28 (.tmp 2) (.tmp 102) (by rfl) w.heap.size (by rfl) (evC ev00) (by rfl) 28 (evC ev00) R4.out rfl (evSz _) (evOne _) ?_; intro w9 hr9 hu9; have R9 := Lib.hid hr9; have B9 := Lib.hid (Upd.below' B4.out hu9 (Nat.le_refl _) B4.out.size); clear hr9 hu9)
      refine ret_box rfl rfl w.heap.size rfl (evC ev00) R9.out Tryz.underlying28 rfl (evSz _) ?_
      have HPN : Shl.parseL s.data.toList = .inl 4 := by
        rw [HPL.out]
        show (match Shl.setAll [114, 98] [x1, x2] (Shl.ev0 (Shl.verbs.getD 12 dV)) with | none => _ | some e => _) = _
        simp only [Shl.setAll, Shl.setE_r, Shl.setE_b, Shl.setE_n, Shl.setE_p, Shl.setE_s, Shl.setE_t, HR1.out, HR2.out, Option.map_some, Option.map_none, Option.bind_some, Option.bind_none]
      exact ⟨by rw [HPN]; rfl, B9.out⟩
    | some a2 =>
      obtain rfl := HV2.out a2 rfl
      go_wp2_with (first
        | (refine load_box rfl 28 (.tmp 9) (by rfl) eb (by rfl) (evC ⟨6, (a1 : Int), (a2 : Int), 0, [], [], 0⟩) 28 (by exact ((E4.out.set 0 _).set 2 _)) _ Tryz.underlying28 rfl (evSz _) ?_)
        | (refine store_box rfl 28 (.tmp 2) (.tmp 132) (by rfl) w.heap.size (by rfl) (evC ⟨6, (a1 : Int), (a2 : Int), 0, [], [], 0⟩) (by rfl) 28 (evC ev00) (by exact (Row.set_other (Row.set_other R4.out (p := ⟨eb, 0, none⟩) (by show w.heap.size ≠ eb; omega) _) (p := ⟨eb, 2, none⟩) (by show w.heap.size ≠ eb; omega) _)) rfl (evSz _) (evOne _) ?_; intro w9 hr9 hu9; have R9 := Lib.hid hr9; have B9 := Lib.hid (Upd.below' ((B4.out.setCell (p := ⟨eb, 0, none⟩) (by show w.heap.size ≤ eb; omega) _).setCell (p := ⟨eb, 2, none⟩) (by show w.heap.size ≤ eb; omega) _) hu9 (Nat.le_refl _) (by simp; omega)); clear hr9 hu9))
      refine ret_box rfl rfl w.heap.size rfl (evC ⟨6, (a1 : Int), (a2 : Int), 0, [], [], 0⟩) R9.out Tryz.underlying28 rfl (evSz _) ?_
      have HPN : Shl.parseL s.data.toList = .inr ⟨6, (a1 : Int), (a2 : Int), 0, [], [], 0⟩ := by
        rw [HPL.out]
        show (match Shl.setAll [114, 98] [x1, x2] (Shl.ev0 (Shl.verbs.getD 12 dV)) with | none => _ | some e => _) = _
        simp only [Shl.setAll, Shl.setE_r, Shl.setE_b, Shl.setE_n, Shl.setE_p, Shl.setE_s, Shl.setE_t, HR1.out, HR2.out, Option.map_some, Option.map_none, Option.bind_some, Option.bind_none]
        try rfl
      exact ⟨by rw [HPN]; rfl, B9.out⟩
theorem rparse_short13 (s : ByteArray) (hs : s.size < 4294967281) (w : World) (hi : atL Shl.dnames ((Shl.wordsL s.data.toList).headD []) = 14) (hlt : (wordsB s).length < 2) :
    Calls Tryz.prog 10 #[.string s] w fun e w' => e = .returned (rparseV (.inl 3)) ∧ Below w.heap.size w w' := by
  obtain ⟨hd, hhd⟩ : ∃ hd, (Shl.wordsL s.data.toList).headD [] = hd := ⟨_, rfl⟩
  rw [hhd] at hi
  have HI := Lib.hid hi
  have hwl : 1 ≤ (wordsB s).length := wordsB_pos s
  have HW0 : Hid ((strs (wordsB s))[0]? = some (.string (bs hd))) := by
    show _ = _
    unfold strs wordsB
    rw [Shl.words_head_tail, hhd]
    rfl
  have Z1 := Lib.hid (Row.new w 28 (evC ev00))
  have Z2 : Hid (Below w.heap.size w (w.alloc (.cells (evC ev00).toArray 28))) := balloc (Below.refl _ _) _
  clear hi hhd
  go_enter Tryz.func10, Tryz.ntmps10
  go_upto_region 2 with (go_at_call 13; refine (rwords_any s hs _).mono ?_; rintro e w1 ⟨v1, rfl, ho1, hb1⟩; have O1 := Lib.hid ho1; have B1 := Lib.hid (Z2.out.trans (hb1.mono Z2.out.size)); have R1 := Lib.hid (Z1.out.keep hb1); have hs1 : w.heap.size < w1.heap.size := (by have := hb1.size; simp at this; omega); clear ho1 hb1)
  obtain ⟨ov, oc, hv1, hoc1, hoc2, -, hsh1⟩ := O1.out.shows.open
  subst hv1
  obtain ⟨ob, oo, hov, hcs⟩ := hsh1.cells1 (by rw [strs_length]; omega)
  subst hov
  have HCS := Lib.hid hcs
  have hsl : (strs (wordsB s)).length = (wordsB s).length := strs_length _
  rw [hsl] at hoc1 ⊢
  have hc0 := HCS.out 0 _ HW0.out
  rw [Nat.add_zero] at hc0
  have hl0 := blt hc0
  have hbd : Below w1.heap.size w1 (w1.alloc (.cells (strs (Shl.dnames.map bs)).toArray 9)) := balloc (Below.refl _ _) _
  generalize hLL : (wordsB s).length = L at *
  have HLL := Lib.hid hLL
  clear hcs hsh1 hLL hsl
  go_upto_region 3 with (go_at_call 21; refine (rat_any w1.heap.size 0 16 16 Shl.dnames rfl (bs hd) (by omega) _ (dn_cells w1)).mono ?_; rw [bs_data, HI.out]; rintro e w2 ⟨rfl, rfl⟩)
  obtain ⟨W2, hW2⟩ : ∃ W2, w1.alloc (.cells (strs (Shl.dnames.map bs)).toArray 9) = W2 := ⟨_, rfl⟩
  rw [hW2] at hbd ⊢
  have B2 := Lib.hid (B1.out.trans (hbd.mono B1.out.size))
  have R2 := Lib.hid (R1.out.keep hbd)
  have HC2 : Hid (∀ j u, (strs (wordsB s))[j]? = some u → W2.cell? ⟨ob, oo + j, none⟩ = some u) := fun j u hu => bkeep hbd (HCS.out j u hu)
  have hs2 : w.heap.size < W2.heap.size := by have := hbd.size; omega
  have hl2 : ob < W2.heap.size := by have := hbd.size; omega
  clear hW2 hbd B1 R1 HCS O1 hc0 hl0 Z1 Z2
  go_upto_region 6 with fail
  obtain ⟨W3, hW3⟩ : ∃ W3, W2.alloc (.cells (nums .i64 [4, 4, 4, 3, 3, 3, 3, 0, 2, 2, 2, 2, 3, 3, 2, 3]).toArray 3) = W3 := ⟨_, rfl⟩
  have hb3 : Below W2.heap.size W2 W3 := by rw [← hW3]; exact balloc (Below.refl _ _) _
  have e3 : W2.alloc (.cells #[.int .i64 4, .int .i64 4, .int .i64 4, .int .i64 3, .int .i64 3, .int .i64 3, .int .i64 3, .int .i64 0, .int .i64 2, .int .i64 2, .int .i64 2, .int .i64 2, .int .i64 3, .int .i64 3, .int .i64 2, .int .i64 3] 3) = W3 := hW3
  rw [e3]
  have B3 := Lib.hid (B2.out.trans (hb3.mono B2.out.size))
  have R3 := Lib.hid (R2.out.keep hb3)
  have HC3 : Hid (∀ j u, (strs (wordsB s))[j]? = some u → W3.cell? ⟨ob, oo + j, none⟩ = some u) := fun j u hu => bkeep hb3 (HC2.out j u hu)
  have hs3 : w.heap.size < W3.heap.size := by have := hb3.size; omega
  have hl3 : ob < W3.heap.size := by have := hb3.size; omega
  clear hW3 e3 hb3 B2 R2 HC2 hs2 hl2
  have hltI : (L : Int) < 2 := by omega
  go_wp2_with (refine store_box rfl 28 (.tmp 2) (.tmp 34) (by rfl) w.heap.size (by rfl) (evC ev00) (by rfl) 28 (evC ev00) R3.out rfl (evSz _) (evOne _) ?_; intro w9 hr9 hu9; have R9 := Lib.hid hr9; have B9 := Lib.hid (Upd.below' B3.out hu9 (Nat.le_refl _) B3.out.size); clear hr9 hu9)
  refine ret_box rfl rfl w.heap.size rfl (evC ev00) R9.out Tryz.underlying28 rfl (evSz _) ?_
  exact ⟨rfl, B9.out⟩
theorem rparse_long13 (s : ByteArray) (hs : s.size < 4294967281) (w : World) (hi : atL Shl.dnames ((Shl.wordsL s.data.toList).headD []) = 14) (hlt : 2 < (wordsB s).length) :
    Calls Tryz.prog 10 #[.string s] w fun e w' => e = .returned (rparseV (.inl 2)) ∧ Below w.heap.size w w' := by
  obtain ⟨hd, hhd⟩ : ∃ hd, (Shl.wordsL s.data.toList).headD [] = hd := ⟨_, rfl⟩
  rw [hhd] at hi
  have HI := Lib.hid hi
  have hwl : 1 ≤ (wordsB s).length := wordsB_pos s
  have HW0 : Hid ((strs (wordsB s))[0]? = some (.string (bs hd))) := by
    show _ = _
    unfold strs wordsB
    rw [Shl.words_head_tail, hhd]
    rfl
  have Z1 := Lib.hid (Row.new w 28 (evC ev00))
  have Z2 : Hid (Below w.heap.size w (w.alloc (.cells (evC ev00).toArray 28))) := balloc (Below.refl _ _) _
  clear hi hhd
  go_enter Tryz.func10, Tryz.ntmps10
  go_upto_region 2 with (go_at_call 13; refine (rwords_any s hs _).mono ?_; rintro e w1 ⟨v1, rfl, ho1, hb1⟩; have O1 := Lib.hid ho1; have B1 := Lib.hid (Z2.out.trans (hb1.mono Z2.out.size)); have R1 := Lib.hid (Z1.out.keep hb1); have hs1 : w.heap.size < w1.heap.size := (by have := hb1.size; simp at this; omega); clear ho1 hb1)
  obtain ⟨ov, oc, hv1, hoc1, hoc2, -, hsh1⟩ := O1.out.shows.open
  subst hv1
  obtain ⟨ob, oo, hov, hcs⟩ := hsh1.cells1 (by rw [strs_length]; omega)
  subst hov
  have HCS := Lib.hid hcs
  have hsl : (strs (wordsB s)).length = (wordsB s).length := strs_length _
  rw [hsl] at hoc1 ⊢
  have hc0 := HCS.out 0 _ HW0.out
  rw [Nat.add_zero] at hc0
  have hl0 := blt hc0
  have hbd : Below w1.heap.size w1 (w1.alloc (.cells (strs (Shl.dnames.map bs)).toArray 9)) := balloc (Below.refl _ _) _
  generalize hLL : (wordsB s).length = L at *
  have HLL := Lib.hid hLL
  clear hcs hsh1 hLL hsl
  go_upto_region 3 with (go_at_call 21; refine (rat_any w1.heap.size 0 16 16 Shl.dnames rfl (bs hd) (by omega) _ (dn_cells w1)).mono ?_; rw [bs_data, HI.out]; rintro e w2 ⟨rfl, rfl⟩)
  obtain ⟨W2, hW2⟩ : ∃ W2, w1.alloc (.cells (strs (Shl.dnames.map bs)).toArray 9) = W2 := ⟨_, rfl⟩
  rw [hW2] at hbd ⊢
  have B2 := Lib.hid (B1.out.trans (hbd.mono B1.out.size))
  have R2 := Lib.hid (R1.out.keep hbd)
  have HC2 : Hid (∀ j u, (strs (wordsB s))[j]? = some u → W2.cell? ⟨ob, oo + j, none⟩ = some u) := fun j u hu => bkeep hbd (HCS.out j u hu)
  have hs2 : w.heap.size < W2.heap.size := by have := hbd.size; omega
  have hl2 : ob < W2.heap.size := by have := hbd.size; omega
  clear hW2 hbd B1 R1 HCS O1 hc0 hl0 Z1 Z2
  go_upto_region 6 with fail
  obtain ⟨W3, hW3⟩ : ∃ W3, W2.alloc (.cells (nums .i64 [4, 4, 4, 3, 3, 3, 3, 0, 2, 2, 2, 2, 3, 3, 2, 3]).toArray 3) = W3 := ⟨_, rfl⟩
  have hb3 : Below W2.heap.size W2 W3 := by rw [← hW3]; exact balloc (Below.refl _ _) _
  have e3 : W2.alloc (.cells #[.int .i64 4, .int .i64 4, .int .i64 4, .int .i64 3, .int .i64 3, .int .i64 3, .int .i64 3, .int .i64 0, .int .i64 2, .int .i64 2, .int .i64 2, .int .i64 2, .int .i64 3, .int .i64 3, .int .i64 2, .int .i64 3] 3) = W3 := hW3
  rw [e3]
  have B3 := Lib.hid (B2.out.trans (hb3.mono B2.out.size))
  have R3 := Lib.hid (R2.out.keep hb3)
  have HC3 : Hid (∀ j u, (strs (wordsB s))[j]? = some u → W3.cell? ⟨ob, oo + j, none⟩ = some u) := fun j u hu => bkeep hb3 (HC2.out j u hu)
  have hs3 : w.heap.size < W3.heap.size := by have := hb3.size; omega
  have hl3 : ob < W3.heap.size := by have := hb3.size; omega
  clear hW3 e3 hb3 B2 R2 HC2 hs2 hl2
  have hltI : ¬ (L : Int) < 2 := by omega
  have hltI2 : (2 : Int) < (L : Int) := by omega
  go_wp2_with (refine store_box rfl 28 (.tmp 2) (.tmp 43) (by rfl) w.heap.size (by rfl) (evC ev00) (by rfl) 28 (evC ev00) R3.out rfl (evSz _) (evOne _) ?_; intro w9 hr9 hu9; have R9 := Lib.hid hr9; have B9 := Lib.hid (Upd.below' B3.out hu9 (Nat.le_refl _) B3.out.size); clear hr9 hu9)
  refine ret_box rfl rfl w.heap.size rfl (evC ev00) R9.out Tryz.underlying28 rfl (evSz _) ?_
  exact ⟨rfl, B9.out⟩
theorem rparse_ok13 (s : ByteArray) (hs : s.size < 4294967281) (w : World) (hi : atL Shl.dnames ((Shl.wordsL s.data.toList).headD []) = 14) (x1 : List UInt8) (hT : (Shl.wordsL s.data.toList).drop 1 = [x1]) (hn : (verbs_nm 13) = (Shl.wordsL s.data.toList).headD []) :
    Calls Tryz.prog 10 #[.string s] w fun e w' => e = .returned (rparseV (Shl.parseL s.data.toList)) ∧ Below w.heap.size w w' := by
  have hPL : Shl.parseL s.data.toList = match Shl.setAll (Shl.verbs.getD 13 dV).pat [x1] (Shl.ev0 (Shl.verbs.getD 13 dV)) with | none => .inl 4 | some e => .inr e := by
    rw [Shl.parse_at (j := 13) (by omega) hn, hT]
    rfl
  have hLa : 2 ≤ (wordsB s).length := by
    have : (wordsB s).length = ((Shl.wordsL s.data.toList).drop 1).length + 1 := by
      have h1 : (wordsB s).length = (Shl.wordsL s.data.toList).length := by simp [wordsB]
      have h2 := wordsB_pos s
      rw [List.length_drop]; omega
    rw [this, hT]; simp
  have hLb : (wordsB s).length ≤ 2 := by
    have : (wordsB s).length = ((Shl.wordsL s.data.toList).drop 1).length + 1 := by
      have h1 : (wordsB s).length = (Shl.wordsL s.data.toList).length := by simp [wordsB]
      have h2 := wordsB_pos s
      rw [List.length_drop]; omega
    rw [this, hT]; simp
  have HX1 : Hid ((strs (wordsB s))[1]? = some (.string (bs x1)) ∧ x1.length ≤ 4294967281) := by
    have h1 : x1 ∈ (Shl.wordsL s.data.toList).drop 1 := by rw [hT]; simp
    have h2 := Shl.words_len _ _ (List.mem_of_mem_drop h1)
    have h3 : s.data.toList.length = s.size := rfl
    refine ⟨?_, by omega⟩
    unfold strs wordsB
    rw [Shl.words_head_tail, hT]
    rfl
  have HPL := Lib.hid hPL
  clear hPL hT hn
  obtain ⟨hd, hhd⟩ : ∃ hd, (Shl.wordsL s.data.toList).headD [] = hd := ⟨_, rfl⟩
  rw [hhd] at hi
  have HI := Lib.hid hi
  have hwl : 1 ≤ (wordsB s).length := wordsB_pos s
  have HW0 : Hid ((strs (wordsB s))[0]? = some (.string (bs hd))) := by
    show _ = _
    unfold strs wordsB
    rw [Shl.words_head_tail, hhd]
    rfl
  have Z1 := Lib.hid (Row.new w 28 (evC ev00))
  have Z2 : Hid (Below w.heap.size w (w.alloc (.cells (evC ev00).toArray 28))) := balloc (Below.refl _ _) _
  clear hi hhd
  go_enter Tryz.func10, Tryz.ntmps10
  go_upto_region 2 with (go_at_call 13; refine (rwords_any s hs _).mono ?_; rintro e w1 ⟨v1, rfl, ho1, hb1⟩; have O1 := Lib.hid ho1; have B1 := Lib.hid (Z2.out.trans (hb1.mono Z2.out.size)); have R1 := Lib.hid (Z1.out.keep hb1); have hs1 : w.heap.size < w1.heap.size := (by have := hb1.size; simp at this; omega); clear ho1 hb1)
  obtain ⟨ov, oc, hv1, hoc1, hoc2, -, hsh1⟩ := O1.out.shows.open
  subst hv1
  obtain ⟨ob, oo, hov, hcs⟩ := hsh1.cells1 (by rw [strs_length]; omega)
  subst hov
  have HCS := Lib.hid hcs
  have hsl : (strs (wordsB s)).length = (wordsB s).length := strs_length _
  rw [hsl] at hoc1 ⊢
  have hc0 := HCS.out 0 _ HW0.out
  rw [Nat.add_zero] at hc0
  have hl0 := blt hc0
  have hbd : Below w1.heap.size w1 (w1.alloc (.cells (strs (Shl.dnames.map bs)).toArray 9)) := balloc (Below.refl _ _) _
  generalize hLL : (wordsB s).length = L at *
  have HLL := Lib.hid hLL
  clear hcs hsh1 hLL hsl
  go_upto_region 3 with (go_at_call 21; refine (rat_any w1.heap.size 0 16 16 Shl.dnames rfl (bs hd) (by omega) _ (dn_cells w1)).mono ?_; rw [bs_data, HI.out]; rintro e w2 ⟨rfl, rfl⟩)
  obtain ⟨W2, hW2⟩ : ∃ W2, w1.alloc (.cells (strs (Shl.dnames.map bs)).toArray 9) = W2 := ⟨_, rfl⟩
  rw [hW2] at hbd ⊢
  have B2 := Lib.hid (B1.out.trans (hbd.mono B1.out.size))
  have R2 := Lib.hid (R1.out.keep hbd)
  have HC2 : Hid (∀ j u, (strs (wordsB s))[j]? = some u → W2.cell? ⟨ob, oo + j, none⟩ = some u) := fun j u hu => bkeep hbd (HCS.out j u hu)
  have hs2 : w.heap.size < W2.heap.size := by have := hbd.size; omega
  have hl2 : ob < W2.heap.size := by have := hbd.size; omega
  clear hW2 hbd B1 R1 HCS O1 hc0 hl0 Z1 Z2
  go_upto_region 6 with fail
  obtain ⟨W3, hW3⟩ : ∃ W3, W2.alloc (.cells (nums .i64 [4, 4, 4, 3, 3, 3, 3, 0, 2, 2, 2, 2, 3, 3, 2, 3]).toArray 3) = W3 := ⟨_, rfl⟩
  have hb3 : Below W2.heap.size W2 W3 := by rw [← hW3]; exact balloc (Below.refl _ _) _
  have e3 : W2.alloc (.cells #[.int .i64 4, .int .i64 4, .int .i64 4, .int .i64 3, .int .i64 3, .int .i64 3, .int .i64 3, .int .i64 0, .int .i64 2, .int .i64 2, .int .i64 2, .int .i64 2, .int .i64 3, .int .i64 3, .int .i64 2, .int .i64 3] 3) = W3 := hW3
  rw [e3]
  have B3 := Lib.hid (B2.out.trans (hb3.mono B2.out.size))
  have R3 := Lib.hid (R2.out.keep hb3)
  have HC3 : Hid (∀ j u, (strs (wordsB s))[j]? = some u → W3.cell? ⟨ob, oo + j, none⟩ = some u) := fun j u hu => bkeep hb3 (HC2.out j u hu)
  have hs3 : w.heap.size < W3.heap.size := by have := hb3.size; omega
  have hl3 : ob < W3.heap.size := by have := hb3.size; omega
  clear hW3 e3 hb3 B2 R2 HC2 hs2 hl2
  have hq1 : ¬ (L : Int) < 2 := by omega
  have hq2 : ¬ (2 : Int) < (L : Int) := by omega
  have hx1c := HC3.out 1 _ HX1.out.1
  have hlx1 : (1 : Int) < (L : Int) := by omega
  obtain ⟨r1, hr1⟩ : ∃ r1, Shl.numL x1 = r1 := ⟨_, rfl⟩
  have HR1 := Lib.hid hr1
  clear hr1
  go_upto_region 11 with (go_at_call 22; refine (rnum_any (bs x1) _ HX1.out.2).mono ?_; rw [bs_data, HR1.out]; rintro e w4 ⟨⟨v1, rfl, hv⟩, rfl⟩; have HV1 := Lib.hid hv; clear hv)
  go_upto_region 12 with fail
  obtain ⟨W4, hW4⟩ : ∃ W4, W3.alloc (.cells (evC ⟨0, v1, 0, 0, [], [], 0⟩).toArray 28) = W4 := ⟨_, rfl⟩
  have hb4 : Below W3.heap.size W3 W4 := by rw [← hW4]; exact balloc (Below.refl _ _) _
  have E4 : Hid (Row W4 W3.heap.size 28 (evC ⟨0, v1, 0, 0, [], [], 0⟩)) := by rw [← hW4]; exact Row.new W3 _ _
  have e4 : W3.alloc (.cells #[.int .i64 0, .int .i64 v1, .int .i64 0, .int .i64 0, .string ⟨#[]⟩, .string ⟨#[]⟩, .int .i64 0, .int .i64 0, .int .u64 0, .slice none 0 0, .slice none 0 0] 28) = W4 := hW4
  rw [e4]
  have B4 := Lib.hid (B3.out.trans (hb4.mono B3.out.size))
  have R4 := Lib.hid (R3.out.keep hb4)
  have HC4 : Hid (∀ j u, (strs (wordsB s))[j]? = some u → W4.cell? ⟨ob, oo + j, none⟩ = some u) := fun j u hu => bkeep hb4 (HC3.out j u hu)
  have hs4 : W3.heap.size < W4.heap.size := by rw [← hW4]; simp
  clear hW4 e4 hb4 B3 R3 HC3 hx1c
  generalize W3.heap.size = eb at *
  have q0 := E4.out.cell 0
  have q2 := E4.out.cell 2
  have q3 := E4.out.cell 3
  have q4 := E4.out.cell 4
  have q5 := E4.out.cell 5
  have q6 := E4.out.cell 6
  simp only [evC, List.getElem?_cons_zero, List.getElem?_cons_succ] at q0 q2 q3 q4 q5 q6
  have z0 := E4.out.frozen 0
  have z2 := E4.out.frozen 2
  have z3 := E4.out.frozen 3
  have z4 := E4.out.frozen 4
  have z5 := E4.out.frozen 5
  have z6 := E4.out.frozen 6
  have hx1c := HC4.out 1 _ HX1.out.1
  go_upto_region 20 with fail
  cases r1 with
  | none =>
    go_wp2_with (refine store_box rfl 28 (.tmp 2) (.tmp 102) (by rfl) w.heap.size (by rfl) (evC ev00) (by rfl) 28 (evC ev00) R4.out rfl (evSz _) (evOne _) ?_; intro w9 hr9 hu9; have R9 := Lib.hid hr9; have B9 := Lib.hid (Upd.below' B4.out hu9 (Nat.le_refl _) B4.out.size); clear hr9 hu9)
    refine ret_box rfl rfl w.heap.size rfl (evC ev00) R9.out Tryz.underlying28 rfl (evSz _) ?_
    have HPN : Shl.parseL s.data.toList = .inl 4 := by
      rw [HPL.out]
      show (match Shl.setAll [114] [x1] (Shl.ev0 (Shl.verbs.getD 13 dV)) with | none => _ | some e => _) = _
      simp only [Shl.setAll, Shl.setE_r, Shl.setE_b, Shl.setE_n, Shl.setE_p, Shl.setE_s, Shl.setE_t, HR1.out, Option.map_some, Option.map_none, Option.bind_some, Option.bind_none]
    exact ⟨by rw [HPN]; rfl, B9.out⟩
  | some a1 =>
    obtain rfl := HV1.out a1 rfl
    go_wp2_with (first
      | (refine load_box rfl 28 (.tmp 9) (by rfl) eb (by rfl) (evC ⟨7, (a1 : Int), 0, 0, [], [], 0⟩) 28 (by exact ((E4.out.set 0 _).set 2 _)) _ Tryz.underlying28 rfl (evSz _) ?_)
      | (refine store_box rfl 28 (.tmp 2) (.tmp 132) (by rfl) w.heap.size (by rfl) (evC ⟨7, (a1 : Int), 0, 0, [], [], 0⟩) (by rfl) 28 (evC ev00) (by exact (Row.set_other (Row.set_other R4.out (p := ⟨eb, 0, none⟩) (by show w.heap.size ≠ eb; omega) _) (p := ⟨eb, 2, none⟩) (by show w.heap.size ≠ eb; omega) _)) rfl (evSz _) (evOne _) ?_; intro w9 hr9 hu9; have R9 := Lib.hid hr9; have B9 := Lib.hid (Upd.below' ((B4.out.setCell (p := ⟨eb, 0, none⟩) (by show w.heap.size ≤ eb; omega) _).setCell (p := ⟨eb, 2, none⟩) (by show w.heap.size ≤ eb; omega) _) hu9 (Nat.le_refl _) (by simp; omega)); clear hr9 hu9))
    refine ret_box rfl rfl w.heap.size rfl (evC ⟨7, (a1 : Int), 0, 0, [], [], 0⟩) R9.out Tryz.underlying28 rfl (evSz _) ?_
    have HPN : Shl.parseL s.data.toList = .inr ⟨7, (a1 : Int), 0, 0, [], [], 0⟩ := by
      rw [HPL.out]
      show (match Shl.setAll [114] [x1] (Shl.ev0 (Shl.verbs.getD 13 dV)) with | none => _ | some e => _) = _
      simp only [Shl.setAll, Shl.setE_r, Shl.setE_b, Shl.setE_n, Shl.setE_p, Shl.setE_s, Shl.setE_t, HR1.out, Option.map_some, Option.map_none, Option.bind_some, Option.bind_none]
      try rfl
    exact ⟨by rw [HPN]; rfl, B9.out⟩
theorem rparse_short14 (s : ByteArray) (hs : s.size < 4294967281) (w : World) (hi : atL Shl.dnames ((Shl.wordsL s.data.toList).headD []) = 15) (hlt : (wordsB s).length < 3) :
    Calls Tryz.prog 10 #[.string s] w fun e w' => e = .returned (rparseV (.inl 3)) ∧ Below w.heap.size w w' := by
  obtain ⟨hd, hhd⟩ : ∃ hd, (Shl.wordsL s.data.toList).headD [] = hd := ⟨_, rfl⟩
  rw [hhd] at hi
  have HI := Lib.hid hi
  have hwl : 1 ≤ (wordsB s).length := wordsB_pos s
  have HW0 : Hid ((strs (wordsB s))[0]? = some (.string (bs hd))) := by
    show _ = _
    unfold strs wordsB
    rw [Shl.words_head_tail, hhd]
    rfl
  have Z1 := Lib.hid (Row.new w 28 (evC ev00))
  have Z2 : Hid (Below w.heap.size w (w.alloc (.cells (evC ev00).toArray 28))) := balloc (Below.refl _ _) _
  clear hi hhd
  go_enter Tryz.func10, Tryz.ntmps10
  go_upto_region 2 with (go_at_call 13; refine (rwords_any s hs _).mono ?_; rintro e w1 ⟨v1, rfl, ho1, hb1⟩; have O1 := Lib.hid ho1; have B1 := Lib.hid (Z2.out.trans (hb1.mono Z2.out.size)); have R1 := Lib.hid (Z1.out.keep hb1); have hs1 : w.heap.size < w1.heap.size := (by have := hb1.size; simp at this; omega); clear ho1 hb1)
  obtain ⟨ov, oc, hv1, hoc1, hoc2, -, hsh1⟩ := O1.out.shows.open
  subst hv1
  obtain ⟨ob, oo, hov, hcs⟩ := hsh1.cells1 (by rw [strs_length]; omega)
  subst hov
  have HCS := Lib.hid hcs
  have hsl : (strs (wordsB s)).length = (wordsB s).length := strs_length _
  rw [hsl] at hoc1 ⊢
  have hc0 := HCS.out 0 _ HW0.out
  rw [Nat.add_zero] at hc0
  have hl0 := blt hc0
  have hbd : Below w1.heap.size w1 (w1.alloc (.cells (strs (Shl.dnames.map bs)).toArray 9)) := balloc (Below.refl _ _) _
  generalize hLL : (wordsB s).length = L at *
  have HLL := Lib.hid hLL
  clear hcs hsh1 hLL hsl
  go_upto_region 3 with (go_at_call 21; refine (rat_any w1.heap.size 0 16 16 Shl.dnames rfl (bs hd) (by omega) _ (dn_cells w1)).mono ?_; rw [bs_data, HI.out]; rintro e w2 ⟨rfl, rfl⟩)
  obtain ⟨W2, hW2⟩ : ∃ W2, w1.alloc (.cells (strs (Shl.dnames.map bs)).toArray 9) = W2 := ⟨_, rfl⟩
  rw [hW2] at hbd ⊢
  have B2 := Lib.hid (B1.out.trans (hbd.mono B1.out.size))
  have R2 := Lib.hid (R1.out.keep hbd)
  have HC2 : Hid (∀ j u, (strs (wordsB s))[j]? = some u → W2.cell? ⟨ob, oo + j, none⟩ = some u) := fun j u hu => bkeep hbd (HCS.out j u hu)
  have hs2 : w.heap.size < W2.heap.size := by have := hbd.size; omega
  have hl2 : ob < W2.heap.size := by have := hbd.size; omega
  clear hW2 hbd B1 R1 HCS O1 hc0 hl0 Z1 Z2
  go_upto_region 6 with fail
  obtain ⟨W3, hW3⟩ : ∃ W3, W2.alloc (.cells (nums .i64 [4, 4, 4, 3, 3, 3, 3, 0, 2, 2, 2, 2, 3, 3, 2, 3]).toArray 3) = W3 := ⟨_, rfl⟩
  have hb3 : Below W2.heap.size W2 W3 := by rw [← hW3]; exact balloc (Below.refl _ _) _
  have e3 : W2.alloc (.cells #[.int .i64 4, .int .i64 4, .int .i64 4, .int .i64 3, .int .i64 3, .int .i64 3, .int .i64 3, .int .i64 0, .int .i64 2, .int .i64 2, .int .i64 2, .int .i64 2, .int .i64 3, .int .i64 3, .int .i64 2, .int .i64 3] 3) = W3 := hW3
  rw [e3]
  have B3 := Lib.hid (B2.out.trans (hb3.mono B2.out.size))
  have R3 := Lib.hid (R2.out.keep hb3)
  have HC3 : Hid (∀ j u, (strs (wordsB s))[j]? = some u → W3.cell? ⟨ob, oo + j, none⟩ = some u) := fun j u hu => bkeep hb3 (HC2.out j u hu)
  have hs3 : w.heap.size < W3.heap.size := by have := hb3.size; omega
  have hl3 : ob < W3.heap.size := by have := hb3.size; omega
  clear hW3 e3 hb3 B2 R2 HC2 hs2 hl2
  have hltI : (L : Int) < 3 := by omega
  go_wp2_with (refine store_box rfl 28 (.tmp 2) (.tmp 34) (by rfl) w.heap.size (by rfl) (evC ev00) (by rfl) 28 (evC ev00) R3.out rfl (evSz _) (evOne _) ?_; intro w9 hr9 hu9; have R9 := Lib.hid hr9; have B9 := Lib.hid (Upd.below' B3.out hu9 (Nat.le_refl _) B3.out.size); clear hr9 hu9)
  refine ret_box rfl rfl w.heap.size rfl (evC ev00) R9.out Tryz.underlying28 rfl (evSz _) ?_
  exact ⟨rfl, B9.out⟩
theorem rparse_long14 (s : ByteArray) (hs : s.size < 4294967281) (w : World) (hi : atL Shl.dnames ((Shl.wordsL s.data.toList).headD []) = 15) (hlt : 3 < (wordsB s).length) :
    Calls Tryz.prog 10 #[.string s] w fun e w' => e = .returned (rparseV (.inl 2)) ∧ Below w.heap.size w w' := by
  obtain ⟨hd, hhd⟩ : ∃ hd, (Shl.wordsL s.data.toList).headD [] = hd := ⟨_, rfl⟩
  rw [hhd] at hi
  have HI := Lib.hid hi
  have hwl : 1 ≤ (wordsB s).length := wordsB_pos s
  have HW0 : Hid ((strs (wordsB s))[0]? = some (.string (bs hd))) := by
    show _ = _
    unfold strs wordsB
    rw [Shl.words_head_tail, hhd]
    rfl
  have Z1 := Lib.hid (Row.new w 28 (evC ev00))
  have Z2 : Hid (Below w.heap.size w (w.alloc (.cells (evC ev00).toArray 28))) := balloc (Below.refl _ _) _
  clear hi hhd
  go_enter Tryz.func10, Tryz.ntmps10
  go_upto_region 2 with (go_at_call 13; refine (rwords_any s hs _).mono ?_; rintro e w1 ⟨v1, rfl, ho1, hb1⟩; have O1 := Lib.hid ho1; have B1 := Lib.hid (Z2.out.trans (hb1.mono Z2.out.size)); have R1 := Lib.hid (Z1.out.keep hb1); have hs1 : w.heap.size < w1.heap.size := (by have := hb1.size; simp at this; omega); clear ho1 hb1)
  obtain ⟨ov, oc, hv1, hoc1, hoc2, -, hsh1⟩ := O1.out.shows.open
  subst hv1
  obtain ⟨ob, oo, hov, hcs⟩ := hsh1.cells1 (by rw [strs_length]; omega)
  subst hov
  have HCS := Lib.hid hcs
  have hsl : (strs (wordsB s)).length = (wordsB s).length := strs_length _
  rw [hsl] at hoc1 ⊢
  have hc0 := HCS.out 0 _ HW0.out
  rw [Nat.add_zero] at hc0
  have hl0 := blt hc0
  have hbd : Below w1.heap.size w1 (w1.alloc (.cells (strs (Shl.dnames.map bs)).toArray 9)) := balloc (Below.refl _ _) _
  generalize hLL : (wordsB s).length = L at *
  have HLL := Lib.hid hLL
  clear hcs hsh1 hLL hsl
  go_upto_region 3 with (go_at_call 21; refine (rat_any w1.heap.size 0 16 16 Shl.dnames rfl (bs hd) (by omega) _ (dn_cells w1)).mono ?_; rw [bs_data, HI.out]; rintro e w2 ⟨rfl, rfl⟩)
  obtain ⟨W2, hW2⟩ : ∃ W2, w1.alloc (.cells (strs (Shl.dnames.map bs)).toArray 9) = W2 := ⟨_, rfl⟩
  rw [hW2] at hbd ⊢
  have B2 := Lib.hid (B1.out.trans (hbd.mono B1.out.size))
  have R2 := Lib.hid (R1.out.keep hbd)
  have HC2 : Hid (∀ j u, (strs (wordsB s))[j]? = some u → W2.cell? ⟨ob, oo + j, none⟩ = some u) := fun j u hu => bkeep hbd (HCS.out j u hu)
  have hs2 : w.heap.size < W2.heap.size := by have := hbd.size; omega
  have hl2 : ob < W2.heap.size := by have := hbd.size; omega
  clear hW2 hbd B1 R1 HCS O1 hc0 hl0 Z1 Z2
  go_upto_region 6 with fail
  obtain ⟨W3, hW3⟩ : ∃ W3, W2.alloc (.cells (nums .i64 [4, 4, 4, 3, 3, 3, 3, 0, 2, 2, 2, 2, 3, 3, 2, 3]).toArray 3) = W3 := ⟨_, rfl⟩
  have hb3 : Below W2.heap.size W2 W3 := by rw [← hW3]; exact balloc (Below.refl _ _) _
  have e3 : W2.alloc (.cells #[.int .i64 4, .int .i64 4, .int .i64 4, .int .i64 3, .int .i64 3, .int .i64 3, .int .i64 3, .int .i64 0, .int .i64 2, .int .i64 2, .int .i64 2, .int .i64 2, .int .i64 3, .int .i64 3, .int .i64 2, .int .i64 3] 3) = W3 := hW3
  rw [e3]
  have B3 := Lib.hid (B2.out.trans (hb3.mono B2.out.size))
  have R3 := Lib.hid (R2.out.keep hb3)
  have HC3 : Hid (∀ j u, (strs (wordsB s))[j]? = some u → W3.cell? ⟨ob, oo + j, none⟩ = some u) := fun j u hu => bkeep hb3 (HC2.out j u hu)
  have hs3 : w.heap.size < W3.heap.size := by have := hb3.size; omega
  have hl3 : ob < W3.heap.size := by have := hb3.size; omega
  clear hW3 e3 hb3 B2 R2 HC2 hs2 hl2
  have hltI : ¬ (L : Int) < 3 := by omega
  have hltI2 : (3 : Int) < (L : Int) := by omega
  go_wp2_with (refine store_box rfl 28 (.tmp 2) (.tmp 43) (by rfl) w.heap.size (by rfl) (evC ev00) (by rfl) 28 (evC ev00) R3.out rfl (evSz _) (evOne _) ?_; intro w9 hr9 hu9; have R9 := Lib.hid hr9; have B9 := Lib.hid (Upd.below' B3.out hu9 (Nat.le_refl _) B3.out.size); clear hr9 hu9)
  refine ret_box rfl rfl w.heap.size rfl (evC ev00) R9.out Tryz.underlying28 rfl (evSz _) ?_
  exact ⟨rfl, B9.out⟩
theorem rparse_ok14 (s : ByteArray) (hs : s.size < 4294967281) (w : World) (hi : atL Shl.dnames ((Shl.wordsL s.data.toList).headD []) = 15) (x1 x2 : List UInt8) (hT : (Shl.wordsL s.data.toList).drop 1 = [x1, x2]) (hn : (verbs_nm 14) = (Shl.wordsL s.data.toList).headD []) :
    Calls Tryz.prog 10 #[.string s] w fun e w' => e = .returned (rparseV (Shl.parseL s.data.toList)) ∧ Below w.heap.size w w' := by
  have hPL : Shl.parseL s.data.toList = match Shl.setAll (Shl.verbs.getD 14 dV).pat [x1, x2] (Shl.ev0 (Shl.verbs.getD 14 dV)) with | none => .inl 4 | some e => .inr e := by
    rw [Shl.parse_at (j := 14) (by omega) hn, hT]
    rfl
  have hLa : 3 ≤ (wordsB s).length := by
    have : (wordsB s).length = ((Shl.wordsL s.data.toList).drop 1).length + 1 := by
      have h1 : (wordsB s).length = (Shl.wordsL s.data.toList).length := by simp [wordsB]
      have h2 := wordsB_pos s
      rw [List.length_drop]; omega
    rw [this, hT]; simp
  have hLb : (wordsB s).length ≤ 3 := by
    have : (wordsB s).length = ((Shl.wordsL s.data.toList).drop 1).length + 1 := by
      have h1 : (wordsB s).length = (Shl.wordsL s.data.toList).length := by simp [wordsB]
      have h2 := wordsB_pos s
      rw [List.length_drop]; omega
    rw [this, hT]; simp
  have HX1 : Hid ((strs (wordsB s))[1]? = some (.string (bs x1)) ∧ x1.length ≤ 4294967281) := by
    have h1 : x1 ∈ (Shl.wordsL s.data.toList).drop 1 := by rw [hT]; simp
    have h2 := Shl.words_len _ _ (List.mem_of_mem_drop h1)
    have h3 : s.data.toList.length = s.size := rfl
    refine ⟨?_, by omega⟩
    unfold strs wordsB
    rw [Shl.words_head_tail, hT]
    rfl
  have HX2 : Hid ((strs (wordsB s))[2]? = some (.string (bs x2)) ∧ x2.length ≤ 4294967281) := by
    have h1 : x2 ∈ (Shl.wordsL s.data.toList).drop 1 := by rw [hT]; simp
    have h2 := Shl.words_len _ _ (List.mem_of_mem_drop h1)
    have h3 : s.data.toList.length = s.size := rfl
    refine ⟨?_, by omega⟩
    unfold strs wordsB
    rw [Shl.words_head_tail, hT]
    rfl
  have HPL := Lib.hid hPL
  clear hPL hT hn
  obtain ⟨hd, hhd⟩ : ∃ hd, (Shl.wordsL s.data.toList).headD [] = hd := ⟨_, rfl⟩
  rw [hhd] at hi
  have HI := Lib.hid hi
  have hwl : 1 ≤ (wordsB s).length := wordsB_pos s
  have HW0 : Hid ((strs (wordsB s))[0]? = some (.string (bs hd))) := by
    show _ = _
    unfold strs wordsB
    rw [Shl.words_head_tail, hhd]
    rfl
  have Z1 := Lib.hid (Row.new w 28 (evC ev00))
  have Z2 : Hid (Below w.heap.size w (w.alloc (.cells (evC ev00).toArray 28))) := balloc (Below.refl _ _) _
  clear hi hhd
  go_enter Tryz.func10, Tryz.ntmps10
  go_upto_region 2 with (go_at_call 13; refine (rwords_any s hs _).mono ?_; rintro e w1 ⟨v1, rfl, ho1, hb1⟩; have O1 := Lib.hid ho1; have B1 := Lib.hid (Z2.out.trans (hb1.mono Z2.out.size)); have R1 := Lib.hid (Z1.out.keep hb1); have hs1 : w.heap.size < w1.heap.size := (by have := hb1.size; simp at this; omega); clear ho1 hb1)
  obtain ⟨ov, oc, hv1, hoc1, hoc2, -, hsh1⟩ := O1.out.shows.open
  subst hv1
  obtain ⟨ob, oo, hov, hcs⟩ := hsh1.cells1 (by rw [strs_length]; omega)
  subst hov
  have HCS := Lib.hid hcs
  have hsl : (strs (wordsB s)).length = (wordsB s).length := strs_length _
  rw [hsl] at hoc1 ⊢
  have hc0 := HCS.out 0 _ HW0.out
  rw [Nat.add_zero] at hc0
  have hl0 := blt hc0
  have hbd : Below w1.heap.size w1 (w1.alloc (.cells (strs (Shl.dnames.map bs)).toArray 9)) := balloc (Below.refl _ _) _
  generalize hLL : (wordsB s).length = L at *
  have HLL := Lib.hid hLL
  clear hcs hsh1 hLL hsl
  go_upto_region 3 with (go_at_call 21; refine (rat_any w1.heap.size 0 16 16 Shl.dnames rfl (bs hd) (by omega) _ (dn_cells w1)).mono ?_; rw [bs_data, HI.out]; rintro e w2 ⟨rfl, rfl⟩)
  obtain ⟨W2, hW2⟩ : ∃ W2, w1.alloc (.cells (strs (Shl.dnames.map bs)).toArray 9) = W2 := ⟨_, rfl⟩
  rw [hW2] at hbd ⊢
  have B2 := Lib.hid (B1.out.trans (hbd.mono B1.out.size))
  have R2 := Lib.hid (R1.out.keep hbd)
  have HC2 : Hid (∀ j u, (strs (wordsB s))[j]? = some u → W2.cell? ⟨ob, oo + j, none⟩ = some u) := fun j u hu => bkeep hbd (HCS.out j u hu)
  have hs2 : w.heap.size < W2.heap.size := by have := hbd.size; omega
  have hl2 : ob < W2.heap.size := by have := hbd.size; omega
  clear hW2 hbd B1 R1 HCS O1 hc0 hl0 Z1 Z2
  go_upto_region 6 with fail
  obtain ⟨W3, hW3⟩ : ∃ W3, W2.alloc (.cells (nums .i64 [4, 4, 4, 3, 3, 3, 3, 0, 2, 2, 2, 2, 3, 3, 2, 3]).toArray 3) = W3 := ⟨_, rfl⟩
  have hb3 : Below W2.heap.size W2 W3 := by rw [← hW3]; exact balloc (Below.refl _ _) _
  have e3 : W2.alloc (.cells #[.int .i64 4, .int .i64 4, .int .i64 4, .int .i64 3, .int .i64 3, .int .i64 3, .int .i64 3, .int .i64 0, .int .i64 2, .int .i64 2, .int .i64 2, .int .i64 2, .int .i64 3, .int .i64 3, .int .i64 2, .int .i64 3] 3) = W3 := hW3
  rw [e3]
  have B3 := Lib.hid (B2.out.trans (hb3.mono B2.out.size))
  have R3 := Lib.hid (R2.out.keep hb3)
  have HC3 : Hid (∀ j u, (strs (wordsB s))[j]? = some u → W3.cell? ⟨ob, oo + j, none⟩ = some u) := fun j u hu => bkeep hb3 (HC2.out j u hu)
  have hs3 : w.heap.size < W3.heap.size := by have := hb3.size; omega
  have hl3 : ob < W3.heap.size := by have := hb3.size; omega
  clear hW3 e3 hb3 B2 R2 HC2 hs2 hl2
  have hq1 : ¬ (L : Int) < 3 := by omega
  have hq2 : ¬ (3 : Int) < (L : Int) := by omega
  have hx1c := HC3.out 1 _ HX1.out.1
  have hlx1 : (1 : Int) < (L : Int) := by omega
  have hx2c := HC3.out 2 _ HX2.out.1
  have hlx2 : (2 : Int) < (L : Int) := by omega
  obtain ⟨r1, hr1⟩ : ∃ r1, Shl.numL x1 = r1 := ⟨_, rfl⟩
  have HR1 := Lib.hid hr1
  clear hr1
  go_upto_region 11 with (go_at_call 22; refine (rnum_any (bs x1) _ HX1.out.2).mono ?_; rw [bs_data, HR1.out]; rintro e w4 ⟨⟨v1, rfl, hv⟩, rfl⟩; have HV1 := Lib.hid hv; clear hv)
  go_upto_region 12 with fail
  obtain ⟨W4, hW4⟩ : ∃ W4, W3.alloc (.cells (evC ⟨0, v1, 0, 0, [], [], 0⟩).toArray 28) = W4 := ⟨_, rfl⟩
  have hb4 : Below W3.heap.size W3 W4 := by rw [← hW4]; exact balloc (Below.refl _ _) _
  have E4 : Hid (Row W4 W3.heap.size 28 (evC ⟨0, v1, 0, 0, [], [], 0⟩)) := by rw [← hW4]; exact Row.new W3 _ _
  have e4 : W3.alloc (.cells #[.int .i64 0, .int .i64 v1, .int .i64 0, .int .i64 0, .string ⟨#[]⟩, .string ⟨#[]⟩, .int .i64 0, .int .i64 0, .int .u64 0, .slice none 0 0, .slice none 0 0] 28) = W4 := hW4
  rw [e4]
  have B4 := Lib.hid (B3.out.trans (hb4.mono B3.out.size))
  have R4 := Lib.hid (R3.out.keep hb4)
  have HC4 : Hid (∀ j u, (strs (wordsB s))[j]? = some u → W4.cell? ⟨ob, oo + j, none⟩ = some u) := fun j u hu => bkeep hb4 (HC3.out j u hu)
  have hs4 : W3.heap.size < W4.heap.size := by rw [← hW4]; simp
  clear hW4 e4 hb4 B3 R3 HC3 hx1c hx2c
  generalize W3.heap.size = eb at *
  have q0 := E4.out.cell 0
  have q2 := E4.out.cell 2
  have q3 := E4.out.cell 3
  have q4 := E4.out.cell 4
  have q5 := E4.out.cell 5
  have q6 := E4.out.cell 6
  simp only [evC, List.getElem?_cons_zero, List.getElem?_cons_succ] at q0 q2 q3 q4 q5 q6
  have z0 := E4.out.frozen 0
  have z2 := E4.out.frozen 2
  have z3 := E4.out.frozen 3
  have z4 := E4.out.frozen 4
  have z5 := E4.out.frozen 5
  have z6 := E4.out.frozen 6
  have hx1c := HC4.out 1 _ HX1.out.1
  have hx2c := HC4.out 2 _ HX2.out.1
  obtain ⟨r2, hr2⟩ : ∃ r2, Shl.numL x2 = r2 := ⟨_, rfl⟩
  have HR2 := Lib.hid hr2
  clear hr2
  go_upto_region 20 with (go_at_call 22; refine (rnum_any (bs x2) _ HX2.out.2).mono ?_; rw [bs_data, HR2.out]; rintro e w5 ⟨⟨v2, rfl, hv⟩, rfl⟩; have HV2 := Lib.hid hv; clear hv)
  cases r1 with
  | none =>
    cases r2 with
    | none =>
      go_wp2_with (refine store_box rfl 28 (.tmp 2) (.tmp 102) (by rfl) w.heap.size (by rfl) (evC ev00) (by rfl) 28 (evC ev00) R4.out rfl (evSz _) (evOne _) ?_; intro w9 hr9 hu9; have R9 := Lib.hid hr9; have B9 := Lib.hid (Upd.below' B4.out hu9 (Nat.le_refl _) B4.out.size); clear hr9 hu9)
      refine ret_box rfl rfl w.heap.size rfl (evC ev00) R9.out Tryz.underlying28 rfl (evSz _) ?_
      have HPN : Shl.parseL s.data.toList = .inl 4 := by
        rw [HPL.out]
        show (match Shl.setAll [114, 98] [x1, x2] (Shl.ev0 (Shl.verbs.getD 14 dV)) with | none => _ | some e => _) = _
        simp only [Shl.setAll, Shl.setE_r, Shl.setE_b, Shl.setE_n, Shl.setE_p, Shl.setE_s, Shl.setE_t, HR1.out, HR2.out, Option.map_some, Option.map_none, Option.bind_some, Option.bind_none]
      exact ⟨by rw [HPN]; rfl, B9.out⟩
    | some a2 =>
      go_wp2_with (refine store_box rfl 28 (.tmp 2) (.tmp 102) (by rfl) w.heap.size (by rfl) (evC ev00) (by rfl) 28 (evC ev00) R4.out rfl (evSz _) (evOne _) ?_; intro w9 hr9 hu9; have R9 := Lib.hid hr9; have B9 := Lib.hid (Upd.below' B4.out hu9 (Nat.le_refl _) B4.out.size); clear hr9 hu9)
      refine ret_box rfl rfl w.heap.size rfl (evC ev00) R9.out Tryz.underlying28 rfl (evSz _) ?_
      have HPN : Shl.parseL s.data.toList = .inl 4 := by
        rw [HPL.out]
        show (match Shl.setAll [114, 98] [x1, x2] (Shl.ev0 (Shl.verbs.getD 14 dV)) with | none => _ | some e => _) = _
        simp only [Shl.setAll, Shl.setE_r, Shl.setE_b, Shl.setE_n, Shl.setE_p, Shl.setE_s, Shl.setE_t, HR1.out, HR2.out, Option.map_some, Option.map_none, Option.bind_some, Option.bind_none]
      exact ⟨by rw [HPN]; rfl, B9.out⟩
  | some a1 =>
    obtain rfl := HV1.out a1 rfl
    cases r2 with
    | none =>
      go_wp2_with (refine store_box rfl 28 (.tmp 2) (.tmp 102) (by rfl) w.heap.size (by rfl) (evC ev00) (by rfl) 28 (evC ev00) R4.out rfl (evSz _) (evOne _) ?_; intro w9 hr9 hu9; have R9 := Lib.hid hr9; have B9 := Lib.hid (Upd.below' B4.out hu9 (Nat.le_refl _) B4.out.size); clear hr9 hu9)
      refine ret_box rfl rfl w.heap.size rfl (evC ev00) R9.out Tryz.underlying28 rfl (evSz _) ?_
      have HPN : Shl.parseL s.data.toList = .inl 4 := by
        rw [HPL.out]
        show (match Shl.setAll [114, 98] [x1, x2] (Shl.ev0 (Shl.verbs.getD 14 dV)) with | none => _ | some e => _) = _
        simp only [Shl.setAll, Shl.setE_r, Shl.setE_b, Shl.setE_n, Shl.setE_p, Shl.setE_s, Shl.setE_t, HR1.out, HR2.out, Option.map_some, Option.map_none, Option.bind_some, Option.bind_none]
      exact ⟨by rw [HPN]; rfl, B9.out⟩
    | some a2 =>
      obtain rfl := HV2.out a2 rfl
      go_wp2_with (first
        | (refine load_box rfl 28 (.tmp 9) (by rfl) eb (by rfl) (evC ⟨8, (a1 : Int), (a2 : Int), 0, [], [], 0⟩) 28 (by exact ((E4.out.set 0 _).set 2 _)) _ Tryz.underlying28 rfl (evSz _) ?_)
        | (refine store_box rfl 28 (.tmp 2) (.tmp 132) (by rfl) w.heap.size (by rfl) (evC ⟨8, (a1 : Int), (a2 : Int), 0, [], [], 0⟩) (by rfl) 28 (evC ev00) (by exact (Row.set_other (Row.set_other R4.out (p := ⟨eb, 0, none⟩) (by show w.heap.size ≠ eb; omega) _) (p := ⟨eb, 2, none⟩) (by show w.heap.size ≠ eb; omega) _)) rfl (evSz _) (evOne _) ?_; intro w9 hr9 hu9; have R9 := Lib.hid hr9; have B9 := Lib.hid (Upd.below' ((B4.out.setCell (p := ⟨eb, 0, none⟩) (by show w.heap.size ≤ eb; omega) _).setCell (p := ⟨eb, 2, none⟩) (by show w.heap.size ≤ eb; omega) _) hu9 (Nat.le_refl _) (by simp; omega)); clear hr9 hu9))
      refine ret_box rfl rfl w.heap.size rfl (evC ⟨8, (a1 : Int), (a2 : Int), 0, [], [], 0⟩) R9.out Tryz.underlying28 rfl (evSz _) ?_
      have HPN : Shl.parseL s.data.toList = .inr ⟨8, (a1 : Int), (a2 : Int), 0, [], [], 0⟩ := by
        rw [HPL.out]
        show (match Shl.setAll [114, 98] [x1, x2] (Shl.ev0 (Shl.verbs.getD 14 dV)) with | none => _ | some e => _) = _
        simp only [Shl.setAll, Shl.setE_r, Shl.setE_b, Shl.setE_n, Shl.setE_p, Shl.setE_s, Shl.setE_t, HR1.out, HR2.out, Option.map_some, Option.map_none, Option.bind_some, Option.bind_none]
        try rfl
      exact ⟨by rw [HPN]; rfl, B9.out⟩
end Go.Proofs.YtojoeaaodomfnaaGreatDoor
