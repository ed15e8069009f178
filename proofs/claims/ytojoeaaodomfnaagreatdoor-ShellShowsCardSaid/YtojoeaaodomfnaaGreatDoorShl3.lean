/- Package shell: parse. (printed by gen/shl3.py) -/
import Derived.Test.YtojoeaaodomfnaaGreatDoorShl2
import Derived.Test.YtojoeaaodomfnaaGreatDoorCels
namespace Go.Proofs.YtojoeaaodomfnaaGreatDoor
set_option linter.unusedVariables false
set_option linter.unusedSimpArgs false
set_option linter.unnecessarySimpa false
open Go.RowKit
set_option maxRecDepth 100000
set_option maxHeartbeats 1000000

theorem evSz (e : Shl.Ev) : (Tryz.prog.info? 28).map (·.size) = some (evC e).length := (show (Tryz.prog.info? 28).map (·.size) = some 11 by kernel_rfl)
theorem evOne (e : Shl.Ev) : ∀ u ∈ evC e, u.oneCell' = true := by
  intro u hu
  simp only [evC, List.mem_cons, List.not_mem_nil, or_false] at hu
  rcases hu with rfl | rfl | rfl | rfl | rfl | rfl | rfl | rfl | rfl | rfl | rfl <;> rfl
def blank : ByteArray := ⟨#[32]⟩
theorem Cut_any (s : ByteArray) (hs : s.size < 4294967281) (w : World) (hg : Gl w) :
    Calls Tryz.prog 32 #[.string s, .string ⟨#[32]⟩] w fun e w' => ∃ x y, e = .returned (.tuple #[.string (bs ((Shl.wordsL s.data.toList).headD [])), .string x, .bool y]) ∧ Below w.heap.size w w' := by
  obtain ⟨m, hm⟩ := hg.ml
  refine (Tryz.strings_Cut s ⟨#[32]⟩ m w hs hm).mono fun e w' ⟨he, n, hw⟩ => ⟨⟨(Lib.cut s.data.toList [32]).2.1.toArray⟩, (Lib.cut s.data.toList [32]).2.2, ?_, by rw [hw]; exact drewN_below w n⟩
  rw [he, ← Shl.cut_first]
  rfl
/-- A line's words, as Go's strings. -/
def wordsB (s : ByteArray) : List ByteArray := (Shl.wordsL s.data.toList).map bs
theorem wordsB_split (s : ByteArray) : Lib.splitB ⟨#[32]⟩ 0 (Lib.countB s ⟨#[32]⟩) s = wordsB s := by
  unfold wordsB
  rw [← Shl.splitB_words, List.map_map]
  have : (bs ∘ fun x : ByteArray => x.data.toList) = id := by funext x; rfl
  rw [this, List.map_id]
theorem wordsB_count (s : ByteArray) : Lib.countB s ⟨#[32]⟩ + 1 = (wordsB s).length := by
  rw [← wordsB_split, Lib.splitB_all _ (by decide) 0 _ s rfl]
theorem Split_any (s : ByteArray) (hs : s.size < 4294967281) (w : World) (hg : Gl w) :
    Calls Tryz.prog 36 #[.string s, .string ⟨#[32]⟩] w fun e w' => e = .returned (.slice (some ⟨w.heap.size, 0, none⟩) (wordsB s).length (wordsB s).length) ∧ w' = w.alloc (.cells (strs (wordsB s)).toArray 9) := by
  obtain ⟨m, hm⟩ := hg.ml
  exact (Tryz.strings_Split s ⟨#[32]⟩ m w hs hm (by decide)).mono fun e w' ⟨he, hw⟩ => ⟨by rw [he, wordsB_count], by rw [hw, wordsB_split]; rfl⟩

/-- A zero event, an event, by value. -/
def ev00 : Shl.Ev := ⟨0, 0, 0, 0, [], [], 0⟩
def evV (e : Shl.Ev) : Value := .agg (evC e).toArray
/-- What 'parse' comes to. -/
def parseV (s : ByteArray) : Nat ⊕ Shl.Ev → Value
  | .inl n => .tuple #[evV ev00, Errs.flt (bs ((Shl.wordsL s.data.toList).headD [])) (n : Int)]
  | .inr e => .tuple #[evV e, .nilIface]
theorem parse_bad (s : ByteArray) (hs : s.size < 4294967281) (w : World) (hg : Gl w) (hi : idxV ((Shl.wordsL s.data.toList).headD []) = -1) :
    Calls Tryz.prog 18 #[.string s] w fun e w' => e = .returned (parseV s (.inl 5)) ∧ Below w.heap.size w w' := by
  have HG := Lib.hid hg
  have HI := Lib.hid hi
  have hz := hg.sz
  generalize hf : (Shl.wordsL s.data.toList).headD [] = f at *
  have HF := Lib.hid hf
  have HP : Hid (parseV s (.inl 5) = .tuple #[evV ev00, Errs.flt (bs f) 5]) := by show _ = _; unfold parseV; rw [hf]; rfl
  have Z1 := Lib.hid (Row.new w 28 (evC ev00))
  have Z2 : Hid (Below w.heap.size w (w.alloc (.cells (evC ev00).toArray 28))) := balloc (Below.refl _ _) _
  clear hg hi hf
  go_enter Tryz.func18, Tryz.ntmps18
  go_upto_region 2 with (go_at_call 32; refine (Cut_any s hs _ (HG.out.keep Z2.out)).mono ?_; rw [HF.out]; rintro e w1 ⟨x, y, rfl, hb1⟩; have R1 := Lib.hid (Z1.out.keep hb1); have B1 := Lib.hid (Z2.out.trans (hb1.mono (Z2.out.size))); have hw1 := B1.out.size; clear hb1)
  have HW := Lib.hid (Row.new w1 9 [.string (bs f)])
  have B2 : Hid (Below w.heap.size w (w1.alloc (.cells #[.string (bs f)] 9))) := B1.out.alloc hw1 _
  have R2 := Lib.hid (R1.out.alloc (.cells #[.string (bs f)] 9))
  obtain ⟨W2, hW2⟩ : ∃ W2, w1.alloc (.cells #[.string (bs f)] 9) = W2 := ⟨_, rfl⟩
  have hw2 : w1.heap.size < W2.heap.size := by rw [← hW2]; simp
  have hc2 : W2.cell? ⟨w1.heap.size, 0, none⟩ = some (.string (bs f)) := by rw [← hW2]; exact HW.out.cell 0
  rw [hW2] at B2 R2 ⊢
  have HC2 := Lib.hid hc2
  clear hW2 HW R1 B1
  generalize w1.heap.size = fb at *
  go_upto_region 3 with (go_at_call 33; refine (pick_any (bs f) fb _ (HG.out.keep B2.out) HC2.out).mono ?_; rw [bs_data, HI.out]; rintro e w3 ⟨rfl, hb3⟩; have B3 := Lib.hid (B2.out.trans (hb3.mono B2.out.size)); have R3 := Lib.hid (R2.out.keep hb3); have hc3 := bkeep hb3 hc2; clear hb3 hc2)
  go_wp2_with (first
    | (go_at_call 35; refine (Errs.At_E _ _ (by decide) _ (HG.out.keep B3.out).et).mono ?_; rintro e w4 ⟨rfl, hb4⟩; have B4 := Lib.hid (B3.out.trans (hb4.mono B3.out.size)); have R4 := Lib.hid (R3.out.keep hb4); clear hb4)
    | (refine store_box rfl 28 (.tmp 2) (.tmp 25) (by rfl) w.heap.size (by rfl) (evC ev00) (by rfl) 28 (evC ev00) R4.out rfl (evSz _) (evOne _) ?_; intro w5 hr5 hu5; have R5 := Lib.hid hr5; have B5 := Lib.hid (Upd.below' B4.out hu5 (Nat.le_refl _) B4.out.size); clear hr5 hu5))
  refine ret_box rfl rfl w.heap.size rfl (evC ev00) R5.out Tryz.underlying28 rfl (evSz _) ?_
  exact ⟨by rw [HP.out]; rfl, B5.out⟩

theorem wordsB_pos (s : ByteArray) : 1 ≤ (wordsB s).length := by rw [← wordsB_count]; omega
theorem pat_facts (j : Nat) (hj : j < 15) : 1 ≤ (Shl.verbs.getD j dV).pat.length ∧ (Shl.verbs.getD j dV).pat.length ≤ 3 ∧ ((Shl.verbs.getD j dV).pat.getLast? = some 116 ↔ j = 0) := by
  have key : ∀ j, j < 15 → 1 ≤ (Shl.verbs.getD j dV).pat.length ∧ (Shl.verbs.getD j dV).pat.length ≤ 3 ∧ ((Shl.verbs.getD j dV).pat.getLast? = some 116 ↔ j = 0) := by decide
  exact key j hj
theorem last_at (P : List UInt8) (h : 1 ≤ P.length) (hlt : P.length - 1 < (bs P).size) : P.getLast? = some ((bs P)[P.length - 1]) := by
  rw [List.getLast?_eq_getElem?, List.getElem?_eq_getElem (by omega)]
  rfl
theorem parse_one (s : ByteArray) (hs : s.size < 4294967281) (w : World) (hg : Gl w) (j : Nat) (hj : j < 15) (hi : idxV ((Shl.wordsL s.data.toList).headD []) = (j : Int)) (hL1 : (wordsB s).length = 1) :
    Calls Tryz.prog 18 #[.string s] w fun e w' => e = .returned (parseV s (.inl 3)) ∧ Below w.heap.size w w' := by
  have HP : Hid (parseV s (.inl 3) = .tuple #[evV ev00, Errs.flt (bs ((Shl.wordsL s.data.toList).headD [])) 3]) := rfl
  have HG := Lib.hid hg
  have hz := hg.sz
  have HI := Lib.hid hi
  obtain ⟨v, hv⟩ : ∃ v, Shl.verbs.getD j dV = v := ⟨_, rfl⟩
  obtain ⟨hp1, hp3, hlast⟩ := pat_facts j hj
  rw [hv] at hp1 hp3 hlast
  have HV := Lib.hid hv
  generalize hf : (Shl.wordsL s.data.toList).headD [] = f at *
  have HF := Lib.hid hf
  have Z1 := Lib.hid (Row.new w 28 (evC ev00))
  have Z2 : Hid (Below w.heap.size w (w.alloc (.cells (evC ev00).toArray 28))) := balloc (Below.refl _ _) _
  have hwl : 1 ≤ (wordsB s).length := wordsB_pos s
  generalize hL : (wordsB s).length = L at *
  have HL := Lib.hid hL
  clear hg hi hf hv hL
  go_enter Tryz.func18, Tryz.ntmps18
  go_upto_region 2 with (go_at_call 32; refine (Cut_any s hs _ (HG.out.keep Z2.out)).mono ?_; rw [HF.out]; rintro e w1 ⟨x, y, rfl, hb1⟩; have R1 := Lib.hid (Z1.out.keep hb1); have B1 := Lib.hid (Z2.out.trans (hb1.mono (Z2.out.size))); have hw1 := B1.out.size; clear hb1)
  have HW := Lib.hid (Row.new w1 9 [.string (bs f)])
  have B2 : Hid (Below w.heap.size w (w1.alloc (.cells #[.string (bs f)] 9))) := B1.out.alloc hw1 _
  have R2 := Lib.hid (R1.out.alloc (.cells #[.string (bs f)] 9))
  obtain ⟨W2, hW2⟩ : ∃ W2, w1.alloc (.cells #[.string (bs f)] 9) = W2 := ⟨_, rfl⟩
  have hw2 : w1.heap.size < W2.heap.size := by rw [← hW2]; simp
  have F2 : Hid (Row W2 w1.heap.size 9 [.string (bs f)]) := by rw [← hW2]; exact HW.out
  rw [hW2] at B2 R2 ⊢
  clear hW2 HW R1 B1
  generalize w1.heap.size = fb at *
  go_upto_region 3 with (go_at_call 33; refine (pick_any (bs f) fb _ (HG.out.keep B2.out) (F2.out.cell 0)).mono ?_; rw [bs_data, HI.out]; rintro e w3 ⟨rfl, hb3⟩; have B3 := Lib.hid (B2.out.trans (hb3.mono B2.out.size)); have R3 := Lib.hid (R2.out.keep hb3); have F3 := Lib.hid (F2.out.keep hb3); have hw3 := hb3.size; clear hb3)
  clear B2 R2 F2
  obtain ⟨hc0, hc1, hc2, hc3⟩ := verb_cells _ (HG.out.keep B3.out) j hj
  rw [HV.out] at hc0 hc1 hc2 hc3
  have hjI : (j : Int) < 15 := by omega
  have hj0 : ¬ (j : Int) < 0 := by omega
  go_upto_region 6 with fail
  obtain ⟨W4, hW4⟩ : ∃ W4, w3.alloc (.cells (verbV v).toArray 48) = W4 := ⟨_, rfl⟩
  have V4 : Hid (Row W4 w3.heap.size 48 (verbV v)) := by rw [← hW4]; exact Row.new w3 _ _
  have B4 : Hid (Below w.heap.size w W4) := by rw [← hW4]; exact B3.out.alloc B3.out.size _
  have R4 : Hid (Row W4 w.heap.size 28 (evC ev00)) := by rw [← hW4]; exact R3.out.alloc _
  have F4 : Hid (Row W4 fb 9 [.string (bs f)]) := by rw [← hW4]; exact F3.out.alloc _
  have hw4 : w3.heap.size < W4.heap.size := by rw [← hW4]; simp
  have e4 : w3.alloc (.cells #[.string (bs v.name), .int .i64 v.kind, .int .i64 v.cmd, .string (bs v.pat)] 48) = W4 := hW4
  rw [e4]
  clear hc0 hc1 hc2 hc3 hW4 e4 B3 R3 F3
  have hw3b : w.heap.size ≤ w3.heap.size := by omega
  generalize w3.heap.size = vb at *
  go_upto_region 7 with (go_at_call 36; refine (Split_any s hs _ (HG.out.keep B4.out)).mono ?_; rw [HL.out]; rintro e w5 ⟨rfl, hw5e⟩; have W5 : Hid (Row w5 W4.heap.size 9 (strs (wordsB s))) := (by rw [hw5e]; exact Row.new W4 _ _); have hb5 : Below W4.heap.size W4 w5 := (by rw [hw5e]; exact balloc (Below.refl _ _) _); have hw5 : W4.heap.size < w5.heap.size := (by rw [hw5e]; simp); have B5 := Lib.hid (B4.out.trans (hb5.mono B4.out.size)); have R5 := Lib.hid (R4.out.keep hb5); have F5 := Lib.hid (F4.out.keep hb5); have V5 := Lib.hid (V4.out.keep hb5); clear hw5e hb5)
  clear R4 F4 V4
  have hB4 : w.heap.size ≤ W4.heap.size := B4.out.size
  clear B4
  generalize W4.heap.size = wb at *
  subst hL1
  obtain ⟨P, hP⟩ : ∃ P, v.pat = P := ⟨_, rfl⟩
  have hv3 := V5.out.cell 3
  simp only [verbV, List.getElem?_cons_succ, List.getElem?_cons_zero] at hv3
  rw [hP] at hv3 hp1 hp3 hlast
  have hps : (bs P).size = P.length := rfl
  have hlt1 : P.length - 1 < (bs P).size := by rw [hps]; omega
  have hpI : 1 ≤ (P.length : Int) ∧ (P.length : Int) - 1 < (P.length : Int) := ⟨by omega, by omega⟩
  have hlx := last_at P hp1 hlt1
  have hf5 := F5.out.cell 0
  simp only [List.getElem?_cons_zero] at hf5
  have HPP := Lib.hid hP
  clear hP
  by_cases hj00 : j = 0
  · have hq : ((((bs P)[P.length - 1]).toNat : Int) == 116) = true := by
      have := (hlx.symm.trans (hlast.2 hj00))
      simp only [Option.some.injEq] at this
      rw [this]; rfl
    clear hlx hlast hj00
    go_wp2_with (first
      | (go_at_call 35; refine (Errs.At_E _ _ (by decide) _ (HG.out.keep B5.out).et).mono ?_; rintro e w6 ⟨rfl, hb6⟩; have B6 := Lib.hid (B5.out.trans (hb6.mono B5.out.size)); have R6 := Lib.hid (R5.out.keep hb6); clear hb6)
      | (refine store_box rfl 28 (.tmp 2) (.tmp 68) (by rfl) w.heap.size (by rfl) (evC ev00) (by rfl) 28 (evC ev00) R6.out rfl (evSz _) (evOne _) ?_; intro w7 hr7 hu7; have R7 := Lib.hid hr7; have B7 := Lib.hid (Upd.below' B6.out hu7 (Nat.le_refl _) B6.out.size); clear hr7 hu7))
    refine ret_box rfl rfl w.heap.size rfl (evC ev00) R7.out Tryz.underlying28 rfl (evSz _) ?_
    exact ⟨by rw [HP.out]; rfl, B7.out⟩
  · have hq : ((((bs P)[P.length - 1]).toNat : Int) == 116) = false := by
      rw [beq_eq_false_iff_ne]
      intro h
      refine hj00 (hlast.1 (hlx.trans ?_))
      rw [Option.some.injEq]
      exact UInt8.toNat_inj.1 (by show _ = 116; omega)
    clear hlx hlast hj00
    go_wp2_with (first
      | (go_at_call 35; refine (Errs.At_E _ _ (by decide) _ (HG.out.keep B5.out).et).mono ?_; rintro e w6 ⟨rfl, hb6⟩; have B6 := Lib.hid (B5.out.trans (hb6.mono B5.out.size)); have R6 := Lib.hid (R5.out.keep hb6); clear hb6)
      | (refine store_box rfl 28 (.tmp 2) (.tmp 68) (by rfl) w.heap.size (by rfl) (evC ev00) (by rfl) 28 (evC ev00) R6.out rfl (evSz _) (evOne _) ?_; intro w7 hr7 hu7; have R7 := Lib.hid hr7; have B7 := Lib.hid (Upd.below' B6.out hu7 (Nat.le_refl _) B6.out.size); clear hr7 hu7))
    refine ret_box rfl rfl w.heap.size rfl (evC ev00) R7.out Tryz.underlying28 rfl (evSz _) ?_
    exact ⟨by rw [HP.out]; rfl, B7.out⟩
theorem parse_short (s : ByteArray) (hs : s.size < 4294967281) (w : World) (hg : Gl w) (j : Nat) (hj : j < 15) (hi : idxV ((Shl.wordsL s.data.toList).headD []) = (j : Int)) (m : Nat) (hL : (wordsB s).length = m + 1) (hm1 : 1 ≤ m) (hn : m < (Shl.verbs.getD j dV).pat.length) :
    Calls Tryz.prog 18 #[.string s] w fun e w' => e = .returned (parseV s (.inl 3)) ∧ Below w.heap.size w w' := by
  have HP : Hid (parseV s (.inl 3) = .tuple #[evV ev00, Errs.flt (bs ((Shl.wordsL s.data.toList).headD [])) 3]) := rfl
  have HG := Lib.hid hg
  have hz := hg.sz
  have HI := Lib.hid hi
  obtain ⟨v, hv⟩ : ∃ v, Shl.verbs.getD j dV = v := ⟨_, rfl⟩
  obtain ⟨hp1, hp3, hlast⟩ := pat_facts j hj
  rw [hv] at hp1 hp3 hlast hn
  have HV := Lib.hid hv
  generalize hf : (Shl.wordsL s.data.toList).headD [] = f at *
  have HF := Lib.hid hf
  have Z1 := Lib.hid (Row.new w 28 (evC ev00))
  have Z2 : Hid (Below w.heap.size w (w.alloc (.cells (evC ev00).toArray 28))) := balloc (Below.refl _ _) _
  have HL := Lib.hid hL
  have hm0 : ¬ m + 1 = 1 := by omega
  have hmI : ¬ (m : Int) + 1 = 1 := by omega
  clear hg hi hf hv hL
  go_enter Tryz.func18, Tryz.ntmps18
  go_upto_region 2 with (go_at_call 32; refine (Cut_any s hs _ (HG.out.keep Z2.out)).mono ?_; rw [HF.out]; rintro e w1 ⟨x, y, rfl, hb1⟩; have R1 := Lib.hid (Z1.out.keep hb1); have B1 := Lib.hid (Z2.out.trans (hb1.mono (Z2.out.size))); have hw1 := B1.out.size; clear hb1)
  have HW := Lib.hid (Row.new w1 9 [.string (bs f)])
  have B2 : Hid (Below w.heap.size w (w1.alloc (.cells #[.string (bs f)] 9))) := B1.out.alloc hw1 _
  have R2 := Lib.hid (R1.out.alloc (.cells #[.string (bs f)] 9))
  obtain ⟨W2, hW2⟩ : ∃ W2, w1.alloc (.cells #[.string (bs f)] 9) = W2 := ⟨_, rfl⟩
  have hw2 : w1.heap.size < W2.heap.size := by rw [← hW2]; simp
  have F2 : Hid (Row W2 w1.heap.size 9 [.string (bs f)]) := by rw [← hW2]; exact HW.out
  rw [hW2] at B2 R2 ⊢
  clear hW2 HW R1 B1
  generalize w1.heap.size = fb at *
  go_upto_region 3 with (go_at_call 33; refine (pick_any (bs f) fb _ (HG.out.keep B2.out) (F2.out.cell 0)).mono ?_; rw [bs_data, HI.out]; rintro e w3 ⟨rfl, hb3⟩; have B3 := Lib.hid (B2.out.trans (hb3.mono B2.out.size)); have R3 := Lib.hid (R2.out.keep hb3); have F3 := Lib.hid (F2.out.keep hb3); have hw3 := hb3.size; clear hb3)
  clear B2 R2 F2
  obtain ⟨hc0, hc1, hc2, hc3⟩ := verb_cells _ (HG.out.keep B3.out) j hj
  rw [HV.out] at hc0 hc1 hc2 hc3
  have hjI : (j : Int) < 15 := by omega
  have hj0 : ¬ (j : Int) < 0 := by omega
  go_upto_region 6 with fail
  obtain ⟨W4, hW4⟩ : ∃ W4, w3.alloc (.cells (verbV v).toArray 48) = W4 := ⟨_, rfl⟩
  have V4 : Hid (Row W4 w3.heap.size 48 (verbV v)) := by rw [← hW4]; exact Row.new w3 _ _
  have B4 : Hid (Below w.heap.size w W4) := by rw [← hW4]; exact B3.out.alloc B3.out.size _
  have R4 : Hid (Row W4 w.heap.size 28 (evC ev00)) := by rw [← hW4]; exact R3.out.alloc _
  have F4 : Hid (Row W4 fb 9 [.string (bs f)]) := by rw [← hW4]; exact F3.out.alloc _
  have hw4 : w3.heap.size < W4.heap.size := by rw [← hW4]; simp
  have e4 : w3.alloc (.cells #[.string (bs v.name), .int .i64 v.kind, .int .i64 v.cmd, .string (bs v.pat)] 48) = W4 := hW4
  rw [e4]
  clear hc0 hc1 hc2 hc3 hW4 e4 B3 R3 F3
  have hw3b : w.heap.size ≤ w3.heap.size := by omega
  generalize w3.heap.size = vb at *
  go_upto_region 7 with (go_at_call 36; refine (Split_any s hs _ (HG.out.keep B4.out)).mono ?_; rw [HL.out]; rintro e w5 ⟨rfl, hw5e⟩; have W5 : Hid (Row w5 W4.heap.size 9 (strs (wordsB s))) := (by rw [hw5e]; exact Row.new W4 _ _); have hb5 : Below W4.heap.size W4 w5 := (by rw [hw5e]; exact balloc (Below.refl _ _) _); have hw5 : W4.heap.size < w5.heap.size := (by rw [hw5e]; simp); have B5 := Lib.hid (B4.out.trans (hb5.mono B4.out.size)); have R5 := Lib.hid (R4.out.keep hb5); have F5 := Lib.hid (F4.out.keep hb5); have V5 := Lib.hid (V4.out.keep hb5); clear hw5e hb5)
  clear R4 F4 V4
  have hB4 : w.heap.size ≤ W4.heap.size := B4.out.size
  clear B4
  generalize W4.heap.size = wb at *
  obtain ⟨P, hP⟩ : ∃ P, v.pat = P := ⟨_, rfl⟩
  have hv3 := V5.out.cell 3
  simp only [verbV, List.getElem?_cons_succ, List.getElem?_cons_zero] at hv3
  rw [hP] at hv3 hp1 hp3 hlast hn
  have hps : (bs P).size = P.length := rfl
  have hlt1 : P.length - 1 < (bs P).size := by rw [hps]; omega
  have hpI : 1 ≤ (P.length : Int) ∧ (P.length : Int) - 1 < (P.length : Int) := ⟨by omega, by omega⟩
  have hlx := last_at P hp1 hlt1
  have hf5 := F5.out.cell 0
  simp only [List.getElem?_cons_zero] at hf5
  have HPP := Lib.hid hP
  clear hP
  have hnI : (m : Int) < (P.length : Int) := by omega
  have hnB : decide (P.length < m) = false := decide_eq_false (by omega)
  have hnBI : decide ((P.length : Int) < (m : Int)) = false := decide_eq_false (by omega)
  by_cases hj00 : j = 0
  · have hq : ((((bs P)[P.length - 1]).toNat : Int) == 116) = true := by
      have := (hlx.symm.trans (hlast.2 hj00))
      simp only [Option.some.injEq] at this
      rw [this]; rfl
    clear hlx hlast hj00
    go_wp2_with (first
      | (go_at_call 35; refine (Errs.At_E _ _ (by decide) _ (HG.out.keep B5.out).et).mono ?_; rintro e w6 ⟨rfl, hb6⟩; have B6 := Lib.hid (B5.out.trans (hb6.mono B5.out.size)); have R6 := Lib.hid (R5.out.keep hb6); clear hb6)
      | (refine store_box rfl 28 (.tmp 2) (.tmp 68) (by rfl) w.heap.size (by rfl) (evC ev00) (by rfl) 28 (evC ev00) R6.out rfl (evSz _) (evOne _) ?_; intro w7 hr7 hu7; have R7 := Lib.hid hr7; have B7 := Lib.hid (Upd.below' B6.out hu7 (Nat.le_refl _) B6.out.size); clear hr7 hu7))
    refine ret_box rfl rfl w.heap.size rfl (evC ev00) R7.out Tryz.underlying28 rfl (evSz _) ?_
    exact ⟨by rw [HP.out]; rfl, B7.out⟩
  · have hq : ((((bs P)[P.length - 1]).toNat : Int) == 116) = false := by
      rw [beq_eq_false_iff_ne]
      intro h
      refine hj00 (hlast.1 (hlx.trans ?_))
      rw [Option.some.injEq]
      exact UInt8.toNat_inj.1 (by show _ = 116; omega)
    clear hlx hlast hj00
    go_wp2_with (first
      | (go_at_call 35; refine (Errs.At_E _ _ (by decide) _ (HG.out.keep B5.out).et).mono ?_; rintro e w6 ⟨rfl, hb6⟩; have B6 := Lib.hid (B5.out.trans (hb6.mono B5.out.size)); have R6 := Lib.hid (R5.out.keep hb6); clear hb6)
      | (refine store_box rfl 28 (.tmp 2) (.tmp 68) (by rfl) w.heap.size (by rfl) (evC ev00) (by rfl) 28 (evC ev00) R6.out rfl (evSz _) (evOne _) ?_; intro w7 hr7 hu7; have R7 := Lib.hid hr7; have B7 := Lib.hid (Upd.below' B6.out hu7 (Nat.le_refl _) B6.out.size); clear hr7 hu7))
    refine ret_box rfl rfl w.heap.size rfl (evC ev00) R7.out Tryz.underlying28 rfl (evSz _) ?_
    exact ⟨by rw [HP.out]; rfl, B7.out⟩
theorem parse_long (s : ByteArray) (hs : s.size < 4294967281) (w : World) (hg : Gl w) (j : Nat) (hj : j < 15) (hi : idxV ((Shl.wordsL s.data.toList).headD []) = (j : Int)) (m : Nat) (hL : (wordsB s).length = m + 1) (hm1 : 1 ≤ m) (hn : (Shl.verbs.getD j dV).pat.length < m) (hj00 : ¬ j = 0) :
    Calls Tryz.prog 18 #[.string s] w fun e w' => e = .returned (parseV s (.inl 2)) ∧ Below w.heap.size w w' := by
  have HP : Hid (parseV s (.inl 2) = .tuple #[evV ev00, Errs.flt (bs ((Shl.wordsL s.data.toList).headD [])) 2]) := rfl
  have HG := Lib.hid hg
  have hz := hg.sz
  have HI := Lib.hid hi
  obtain ⟨v, hv⟩ : ∃ v, Shl.verbs.getD j dV = v := ⟨_, rfl⟩
  obtain ⟨hp1, hp3, hlast⟩ := pat_facts j hj
  rw [hv] at hp1 hp3 hlast hn
  have HV := Lib.hid hv
  generalize hf : (Shl.wordsL s.data.toList).headD [] = f at *
  have HF := Lib.hid hf
  have Z1 := Lib.hid (Row.new w 28 (evC ev00))
  have Z2 : Hid (Below w.heap.size w (w.alloc (.cells (evC ev00).toArray 28))) := balloc (Below.refl _ _) _
  have HL := Lib.hid hL
  have hm0 : ¬ m + 1 = 1 := by omega
  have hmI : ¬ (m : Int) + 1 = 1 := by omega
  clear hg hi hf hv hL
  go_enter Tryz.func18, Tryz.ntmps18
  go_upto_region 2 with (go_at_call 32; refine (Cut_any s hs _ (HG.out.keep Z2.out)).mono ?_; rw [HF.out]; rintro e w1 ⟨x, y, rfl, hb1⟩; have R1 := Lib.hid (Z1.out.keep hb1); have B1 := Lib.hid (Z2.out.trans (hb1.mono (Z2.out.size))); have hw1 := B1.out.size; clear hb1)
  have HW := Lib.hid (Row.new w1 9 [.string (bs f)])
  have B2 : Hid (Below w.heap.size w (w1.alloc (.cells #[.string (bs f)] 9))) := B1.out.alloc hw1 _
  have R2 := Lib.hid (R1.out.alloc (.cells #[.string (bs f)] 9))
  obtain ⟨W2, hW2⟩ : ∃ W2, w1.alloc (.cells #[.string (bs f)] 9) = W2 := ⟨_, rfl⟩
  have hw2 : w1.heap.size < W2.heap.size := by rw [← hW2]; simp
  have F2 : Hid (Row W2 w1.heap.size 9 [.string (bs f)]) := by rw [← hW2]; exact HW.out
  rw [hW2] at B2 R2 ⊢
  clear hW2 HW R1 B1
  generalize w1.heap.size = fb at *
  go_upto_region 3 with (go_at_call 33; refine (pick_any (bs f) fb _ (HG.out.keep B2.out) (F2.out.cell 0)).mono ?_; rw [bs_data, HI.out]; rintro e w3 ⟨rfl, hb3⟩; have B3 := Lib.hid (B2.out.trans (hb3.mono B2.out.size)); have R3 := Lib.hid (R2.out.keep hb3); have F3 := Lib.hid (F2.out.keep hb3); have hw3 := hb3.size; clear hb3)
  clear B2 R2 F2
  obtain ⟨hc0, hc1, hc2, hc3⟩ := verb_cells _ (HG.out.keep B3.out) j hj
  rw [HV.out] at hc0 hc1 hc2 hc3
  have hjI : (j : Int) < 15 := by omega
  have hj0 : ¬ (j : Int) < 0 := by omega
  go_upto_region 6 with fail
  obtain ⟨W4, hW4⟩ : ∃ W4, w3.alloc (.cells (verbV v).toArray 48) = W4 := ⟨_, rfl⟩
  have V4 : Hid (Row W4 w3.heap.size 48 (verbV v)) := by rw [← hW4]; exact Row.new w3 _ _
  have B4 : Hid (Below w.heap.size w W4) := by rw [← hW4]; exact B3.out.alloc B3.out.size _
  have R4 : Hid (Row W4 w.heap.size 28 (evC ev00)) := by rw [← hW4]; exact R3.out.alloc _
  have F4 : Hid (Row W4 fb 9 [.string (bs f)]) := by rw [← hW4]; exact F3.out.alloc _
  have hw4 : w3.heap.size < W4.heap.size := by rw [← hW4]; simp
  have e4 : w3.alloc (.cells #[.string (bs v.name), .int .i64 v.kind, .int .i64 v.cmd, .string (bs v.pat)] 48) = W4 := hW4
  rw [e4]
  clear hc0 hc1 hc2 hc3 hW4 e4 B3 R3 F3
  have hw3b : w.heap.size ≤ w3.heap.size := by omega
  generalize w3.heap.size = vb at *
  go_upto_region 7 with (go_at_call 36; refine (Split_any s hs _ (HG.out.keep B4.out)).mono ?_; rw [HL.out]; rintro e w5 ⟨rfl, hw5e⟩; have W5 : Hid (Row w5 W4.heap.size 9 (strs (wordsB s))) := (by rw [hw5e]; exact Row.new W4 _ _); have hb5 : Below W4.heap.size W4 w5 := (by rw [hw5e]; exact balloc (Below.refl _ _) _); have hw5 : W4.heap.size < w5.heap.size := (by rw [hw5e]; simp); have B5 := Lib.hid (B4.out.trans (hb5.mono B4.out.size)); have R5 := Lib.hid (R4.out.keep hb5); have F5 := Lib.hid (F4.out.keep hb5); have V5 := Lib.hid (V4.out.keep hb5); clear hw5e hb5)
  clear R4 F4 V4
  have hB4 : w.heap.size ≤ W4.heap.size := B4.out.size
  clear B4
  generalize W4.heap.size = wb at *
  obtain ⟨P, hP⟩ : ∃ P, v.pat = P := ⟨_, rfl⟩
  have hv3 := V5.out.cell 3
  simp only [verbV, List.getElem?_cons_succ, List.getElem?_cons_zero] at hv3
  rw [hP] at hv3 hp1 hp3 hlast hn
  have hps : (bs P).size = P.length := rfl
  have hlt1 : P.length - 1 < (bs P).size := by rw [hps]; omega
  have hpI : 1 ≤ (P.length : Int) ∧ (P.length : Int) - 1 < (P.length : Int) := ⟨by omega, by omega⟩
  have hlx := last_at P hp1 hlt1
  have hf5 := F5.out.cell 0
  simp only [List.getElem?_cons_zero] at hf5
  have HPP := Lib.hid hP
  clear hP
  have hnI : ¬ (m : Int) < (P.length : Int) := by omega
  have hnI2 : (P.length : Int) < (m : Int) := by omega
  have hq : ((((bs P)[P.length - 1]).toNat : Int) == 116) = false := by
    rw [beq_eq_false_iff_ne]
    intro h
    refine hj00 (hlast.1 (hlx.trans ?_))
    rw [Option.some.injEq]
    exact UInt8.toNat_inj.1 (by show _ = 116; omega)
  clear hlx hlast
  go_wp2_with (first
    | (go_at_call 35; refine (Errs.At_E _ _ (by decide) _ (HG.out.keep B5.out).et).mono ?_; rintro e w6 ⟨rfl, hb6⟩; have B6 := Lib.hid (B5.out.trans (hb6.mono B5.out.size)); have R6 := Lib.hid (R5.out.keep hb6); clear hb6)
    | (refine store_box rfl 28 (.tmp 2) (.tmp 79) (by rfl) w.heap.size (by rfl) (evC ev00) (by rfl) 28 (evC ev00) R6.out rfl (evSz _) (evOne _) ?_; intro w7 hr7 hu7; have R7 := Lib.hid hr7; have B7 := Lib.hid (Upd.below' B6.out hu7 (Nat.le_refl _) B6.out.size); clear hr7 hu7))
  refine ret_box rfl rfl w.heap.size rfl (evC ev00) R7.out Tryz.underlying28 rfl (evSz _) ?_
  exact ⟨by rw [HP.out]; rfl, B7.out⟩
end Go.Proofs.YtojoeaaodomfnaaGreatDoor
