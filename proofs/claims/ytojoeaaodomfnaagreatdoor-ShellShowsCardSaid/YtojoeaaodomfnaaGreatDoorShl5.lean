/- Package shell: parse, where a text stands last and has blanks; parse as a whole. (printed by gen/shl5.py) -/
import Derived.Test.YtojoeaaodomfnaaGreatDoorShl4
import Derived.Lib.Join
import Derived.OrdersHeld
import Derived.Deep.RegionHeld
namespace Go.Proofs.YtojoeaaodomfnaaGreatDoor
set_option linter.unusedVariables false
set_option linter.unusedSimpArgs false
set_option linter.unnecessarySimpa false
open Go.RowKit
set_option maxRecDepth 100000
set_option maxHeartbeats 2000000

theorem join_eq : ∀ l : List (List UInt8), Lib.join l [32] = Shl.joinL l
  | [] => rfl
  | [w] => by simp [Lib.join, List.intercalate, Shl.joinL]
  | w :: u :: r => by
    rw [Shl.joinL_cons w (by simp), ← join_eq (u :: r)]
    simp [Lib.join, List.intercalate, List.intersperse]
theorem Join_any (bk o n c : Nat) (xs : List (List UInt8)) (w : World) (hn : xs.length = n) (hcells : ∀ j, j < n → w.cell? ⟨bk, o + j, none⟩ = some (.string (bs (xs.getD j [])))) (hbk : bk < w.heap.size) (hcap : n ≤ c) (hN : n ≤ 140737488355328) (hlen : (Shl.joinL xs).length ≤ 140737488355328) :
    Calls Tryz.prog 17 #[.slice (some ⟨bk, o, none⟩) n c, .string ⟨#[32]⟩] w fun e w' => e = .returned (.string (bs (Shl.joinL xs))) ∧ Below w.heap.size w w' := by
  subst hn
  have hm : (xs.map bs).map (fun x : ByteArray => x.data.toList) = xs := by
    rw [List.map_map]
    have : ((fun x : ByteArray => x.data.toList) ∘ bs) = id := by funext x; rfl
    rw [this, List.map_id]
  have := Tryz.strings_Join bk o c (xs.map bs) ⟨#[32]⟩ w (fun j x hj => by
    rw [List.getElem?_map] at hj
    by_cases h : j < xs.length
    · rw [List.getElem?_eq_getElem h] at hj
      simp only [Option.map_some, Option.some.injEq] at hj
      subst hj
      rw [hcells j h]
      simp [List.getD, h]
    · rw [List.getElem?_eq_none (by omega)] at hj; cases hj) hbk (by simpa using hN) (by simpa using hcap) (by rw [hm]; show (Lib.join xs [32]).length ≤ _; rw [join_eq]; exact hlen)
  rw [hm] at this
  rw [show (xs.map bs).length = xs.length from by simp] at this
  refine this.mono fun e w' ⟨he, hb⟩ => ⟨?_, hb⟩
  rw [he]
  show Ending.returned (.string ⟨(Lib.join xs [32]).toArray⟩) = _
  rw [join_eq]
  rfl
theorem words_cnt : ∀ s : List UInt8, (Shl.wordsL s).length ≤ s.length + 1
  | [] => by simp [Shl.wordsL]
  | c :: r => by
    have ih := words_cnt r
    by_cases h : c = 32
    · subst h; rw [Shl.words_blank]; simp; omega
    · obtain ⟨x, ws, h1, h2⟩ := Shl.words_byte h r
      rw [h2]
      rw [h1] at ih
      simp at ih ⊢; omega
theorem words_count (s : ByteArray) : (wordsB s).length ≤ s.size + 1 := by
  have := words_cnt s.data.toList
  have h3 : s.data.toList.length = s.size := rfl
  simp [wordsB]; omega
theorem parse_join (s : ByteArray) (hs : s.size < 4294967281) (w : World) (hg : Gl w) (j : Nat) (hj : j < 15) (hi : idxV ((Shl.wordsL s.data.toList).headD []) = (j : Int)) (m : Nat) (hL : (wordsB s).length = m + 1) (hm1 : 1 ≤ m) (hj00 : j = 0) (hm3 : 3 < m) :
    Calls Tryz.prog 18 #[.string s] w fun e w' => e = .returned (parseV s (Shl.parseL s.data.toList)) ∧ Below w.heap.size w w' := by
  obtain ⟨Tl, hTl⟩ : ∃ Tl, (Shl.wordsL s.data.toList).drop 1 = Tl := ⟨_, rfl⟩
  have h1 : (Shl.wordsL s.data.toList).length = m + 1 := by rw [← hL]; simp [wordsB]
  have hTll : Tl.length = m := by
    rw [← hTl, List.length_drop, h1]; omega
  have hp30 : (Shl.verbs.getD j dV).pat.length = 3 := by subst hj00; rfl
  obtain ⟨Fl, hFl⟩ : ∃ Fl, Tl.take 2 ++ [Shl.joinL (Tl.drop 2)] = Fl := ⟨_, rfl⟩
  have hFll : Fl.length = (Shl.verbs.getD j dV).pat.length := by rw [← hFl, hp30]; simp; omega
  have hfit : Shl.fitW (Shl.verbs.getD j dV) Tl = Fl := by
    unfold Shl.fitW
    rw [if_pos ⟨by subst hj00; rfl, by omega⟩, hp30, ← hFl]
  have hPL : Shl.parseL s.data.toList = match Shl.setAll (Shl.verbs.getD j dV).pat Fl (Shl.ev0 (Shl.verbs.getD j dV)) with | none => .inl 4 | some e => .inr e := by
    rw [Shl.parse_at hj (idxV_some hi).2]
    show Shl.fin (Shl.verbs.getD j dV) _ = _
    rw [hTl]
    unfold Shl.fin
    rw [hfit, if_neg (by omega), if_neg (by omega)]
    rfl
  have HWC : Hid (∀ k, k < m → (strs (wordsB s))[1 + k]? = some (.string (bs (Tl.getD k [])))) := fun k hk => by
    have h2 : 1 + k < (Shl.wordsL s.data.toList).length := by omega
    rw [← hTl]
    unfold strs wordsB
    rw [List.getElem?_map, List.getElem?_map, List.getElem?_eq_getElem h2]
    simp [List.getD, List.getElem?_drop, List.getElem?_eq_getElem h2, Nat.add_comm k 1]
  have HLET := Lib.hid (pat_letters j hj)
  have hjl : (Shl.joinL (Tl.drop 2)).length ≤ s.size := by
    have e1 : Tl.drop 2 = (Shl.wordsL s.data.toList).drop (2 + 1) := by rw [← hTl, List.drop_drop]
    rw [e1, ← Shl.after_words]
    exact Shl.after_len s.data.toList 3
  have HFS : Hid (∀ k, (Fl.getD k []).length ≤ 4294967281) := fun k => by
    by_cases hk : k < Fl.length
    · have h0 : Fl.getD k [] ∈ Fl := by simp [List.getD, hk]
      have h0' : Fl.getD k [] ∈ Tl.take 2 ++ [Shl.joinL (Tl.drop 2)] := by rw [hFl]; exact h0
      rcases List.mem_append.1 h0' with h3 | h3
      · have h4 : Fl.getD k [] ∈ (Shl.wordsL s.data.toList).drop 1 := by rw [hTl]; exact List.mem_of_mem_take h3
        have h5 := Shl.words_len _ _ (List.mem_of_mem_drop h4)
        have h6 : s.data.toList.length = s.size := rfl
        omega
      · rw [List.mem_singleton] at h3
        rw [h3]; omega
    · have : Fl.getD k [] = [] := by simp [List.getD, hk]
      rw [this]; simp
  have HF0 : Hid (Fl.getD 0 [] = Tl.getD 0 [] ∧ Fl.getD 1 [] = Tl.getD 1 [] ∧ Fl.getD 2 [] = Shl.joinL (Tl.drop 2)) := by
    rw [← hFl]
    match Tl, hTll with
    | a :: b :: r, _ => exact ⟨rfl, rfl, rfl⟩
    | [a], h => simp at h; omega
    | [], h => simp at h; omega
  have HJL := Lib.hid hjl
  have HTLL := Lib.hid hTll
  have HPL := Lib.hid hPL
  have HFLL := Lib.hid hFll
  have hP3 := hp30
  have HJ0 := Lib.hid hj00
  clear hPL hfit hFl hTl hFll hTll h1 hjl hp30 hj00
  have HG := Lib.hid hg
  have hz := hg.sz
  have HI := Lib.hid hi
  obtain ⟨v, hv⟩ : ∃ v, Shl.verbs.getD j dV = v := ⟨_, rfl⟩
  obtain ⟨hp1, hp3, hlast⟩ := pat_facts j hj
  rw [hv] at hp1 hp3 hlast hP3 HPL HLET HFLL
  have HV := Lib.hid hv
  generalize hf : (Shl.wordsL s.data.toList).headD [] = f at *
  have HF := Lib.hid hf
  have Z1 := Lib.hid (Row.new w 28 (evC ev00))
  have Z2 : Hid (Below w.heap.size w (w.alloc (.cells (evC ev00).toArray 28))) := balloc (Below.refl _ _) _
  have HL := Lib.hid hL
  have hm0 : ¬ m + 1 = 1 := by omega
  have hmI : ¬ (m : Int) + 1 = 1 := by omega
  clear hg hi hf hv hL
  go_enter Tryz.func18, Tryz.ntmps18
  go_upto_region 2 with (go_at_call 32; refine (Cut_any s hs _ (HG.out.keep Z2.out)).mono ?_; rw [HF.out]; rintro e w1 ⟨x, y, rfl, hb1⟩; have R1 := Lib.hid (Z1.out.keep hb1); have B1 := Lib.hid (Z2.out.trans (hb1.mono (Z2.out.size))); have hw1 := B1.out.size; clear hb1)
  have HW := Lib.hid (Row.new w1 9 [.string (bs f)])
  have B2 : Hid (Below w.heap.size w (w1.alloc (.cells #[.string (bs f)] 9))) := B1.out.alloc hw1 _
  have R2 := Lib.hid (R1.out.alloc (.cells #[.string (bs f)] 9))
  obtain ⟨W2, hW2⟩ : ∃ W2, w1.alloc (.cells #[.string (bs f)] 9) = W2 := ⟨_, rfl⟩
  have hw2 : w1.heap.size < W2.heap.size := by rw [← hW2]; simp
  have F2 : Hid (Row W2 w1.heap.size 9 [.string (bs f)]) := by rw [← hW2]; exact HW.out
  rw [hW2] at B2 R2 ⊢
  clear hW2 HW R1 B1
  generalize w1.heap.size = fb at *
  go_upto_region 3 with (go_at_call 33; refine (pick_any (bs f) fb _ (HG.out.keep B2.out) (F2.out.cell 0)).mono ?_; rw [bs_data, HI.out]; rintro e w3 ⟨rfl, hb3⟩; have B3 := Lib.hid (B2.out.trans (hb3.mono B2.out.size)); have R3 := Lib.hid (R2.out.keep hb3); have F3 := Lib.hid (F2.out.keep hb3); have hw3 := hb3.size; clear hb3)
  clear B2 R2 F2
  obtain ⟨hc0, hc1, hc2, hc3⟩ := verb_cells _ (HG.out.keep B3.out) j hj
  rw [HV.out] at hc0 hc1 hc2 hc3
  have hjI : (j : Int) < 15 := by omega
  have hj0 : ¬ (j : Int) < 0 := by omega
  go_upto_region 6 with fail
  obtain ⟨W4, hW4⟩ : ∃ W4, w3.alloc (.cells (verbV v).toArray 48) = W4 := ⟨_, rfl⟩
  have V4 : Hid (Row W4 w3.heap.size 48 (verbV v)) := by rw [← hW4]; exact Row.new w3 _ _
  have B4 : Hid (Below w.heap.size w W4) := by rw [← hW4]; exact B3.out.alloc B3.out.size _
  have R4 : Hid (Row W4 w.heap.size 28 (evC ev00)) := by rw [← hW4]; exact R3.out.alloc _
  have F4 : Hid (Row W4 fb 9 [.string (bs f)]) := by rw [← hW4]; exact F3.out.alloc _
  have hw4 : w3.heap.size < W4.heap.size := by rw [← hW4]; simp
  have e4 : w3.alloc (.cells #[.string (bs v.name), .int .i64 v.kind, .int .i64 v.cmd, .string (bs v.pat)] 48) = W4 := hW4
  rw [e4]
  clear hc0 hc1 hc2 hc3 hW4 e4 B3 R3 F3
  have hw3b : w.heap.size ≤ w3.heap.size := by omega
  generalize w3.heap.size = vb at *
  go_upto_region 7 with (go_at_call 36; refine (Split_any s hs _ (HG.out.keep B4.out)).mono ?_; rw [HL.out]; rintro e w5 ⟨rfl, hw5e⟩; have W5 : Hid (Row w5 W4.heap.size 9 (strs (wordsB s))) := (by rw [hw5e]; exact Row.new W4 _ _); have hb5 : Below W4.heap.size W4 w5 := (by rw [hw5e]; exact balloc (Below.refl _ _) _); have hw5 : W4.heap.size < w5.heap.size := (by rw [hw5e]; simp); have B5 := Lib.hid (B4.out.trans (hb5.mono B4.out.size)); have R5 := Lib.hid (R4.out.keep hb5); have F5 := Lib.hid (F4.out.keep hb5); have V5 := Lib.hid (V4.out.keep hb5); clear hw5e hb5)
  clear R4 F4 V4
  have hB4 : w.heap.size ≤ W4.heap.size := B4.out.size
  clear B4
  generalize W4.heap.size = wb at *
  obtain ⟨P, hP⟩ : ∃ P, v.pat = P := ⟨_, rfl⟩
  have hv3 := V5.out.cell 3
  simp only [verbV, List.getElem?_cons_succ, List.getElem?_cons_zero] at hv3
  rw [hP] at hv3 hp1 hp3 hlast hP3 HPL HLET HFLL
  have hps : (bs P).size = P.length := rfl
  have hlt1 : P.length - 1 < (bs P).size := by rw [hps]; omega
  have hpI : 1 ≤ (P.length : Int) ∧ (P.length : Int) - 1 < (P.length : Int) := ⟨by omega, by omega⟩
  have hlx := last_at P hp1 hlt1
  have hf5 := F5.out.cell 0
  simp only [List.getElem?_cons_zero] at hf5
  have HPP := Lib.hid hP
  clear hP
  have hv1 := V5.out.cell 1
  have hv2 := V5.out.cell 2
  simp only [verbV, List.getElem?_cons_succ, List.getElem?_cons_zero] at hv1 hv2
  have hPx : P = [114, 115, 116] := by rw [← HPP.out, ← HV.out, HJ0.out]; rfl
  have hq : ((((bs P)[2]'(by rw [hps]; omega)).toNat : Int) == 116) = true := by subst hPx; rfl
  have HPX := Lib.hid hPx
  have hm2I : ¬ (m : Int) = 2 := by omega
  clear hPx
  have hm3I : (3 : Int) < (m : Int) := by omega
  have hm2 : ¬ m = 2 := by omega
  clear hlx hlast
  go_upto_region 9 with fail
  have h3m : 3 ≤ m := by omega
  have hmB : m ≤ 4294967281 := by have h5 := words_count s; have h6 := HL.out; omega
  have hwr : IntKind.i64.wrap 2 = 2 := by decide
  have h2m : (2 : Int) ≤ (m : Int) := by omega
  have htn : (2 : Int).toNat = 2 := rfl
  have hc0 := W5.out.cell 1
  have hc1 := W5.out.cell 2
  have hc2 := W5.out.cell 3
  have hw0 := HWC.out 0 (by omega)
  have hw1' := HWC.out 1 (by omega)
  have hw2' := HWC.out 2 (by omega)
  simp only [Nat.add_zero, Nat.reduceAdd] at hw0 hw1' hw2'
  rw [hw0] at hc0
  rw [hw1'] at hc1
  rw [hw2'] at hc2
  have hz2 := W5.out.frozen 3
  have hwx := hw2'
  clear hw0 hw1' hw2'
  refine wp_region_any (by kernel_rfl) ?_
  try (change wpAny _ _ _ _ _ _ _ (World.drew _))
  refine wpAny_take (i := 0) (v := ?_) (by simp only [List.getElem?_toArray, List.getElem?_cons_zero, List.getElem?_cons_succ] <;> rfl) (by kernel_rfl) (by kernel_rfl) (by kernel_rfl) (by intro _ _ _ h; exact h) (Or.inl ⟨by rfl, ?_⟩) ?_
  rotate_left
  · intro w; go_simp; try with_reducible rfl
  try simp only [Act.put, List.setIfInBounds_toArray, List.set_cons_zero, List.set_cons_succ, Array.replicate]
  refine wpAny_take (i := 1) (v := ?_) (by simp only [List.getElem?_toArray, List.getElem?_cons_zero, List.getElem?_cons_succ] <;> rfl) (by kernel_rfl) (by kernel_rfl) (by kernel_rfl) (by intro _ _ _ h; exact h) (Or.inl ⟨by rfl, ?_⟩) ?_
  rotate_left
  · intro w; go_simp; try with_reducible rfl
  try simp only [Act.put, List.setIfInBounds_toArray, List.set_cons_zero, List.set_cons_succ, Array.replicate]
  refine wpAny_take (i := 2) (v := ?_) (by simp only [List.getElem?_toArray, List.getElem?_cons_zero, List.getElem?_cons_succ] <;> rfl) (by kernel_rfl) (by kernel_rfl) (by kernel_rfl) (by intro _ _ _ h; exact h) (Or.inl ⟨by rfl, ?_⟩) ?_
  rotate_left
  · intro w; go_simp; try with_reducible rfl
  try simp only [Act.put, List.setIfInBounds_toArray, List.set_cons_zero, List.set_cons_succ, Array.replicate]
  refine wpAny_take (i := 3) (v := ?_) (by simp only [List.getElem?_toArray, List.getElem?_cons_zero, List.getElem?_cons_succ] <;> rfl) (by kernel_rfl) (by kernel_rfl) (by kernel_rfl) (by intro _ _ _ h; exact h) (Or.inl ⟨by rfl, ?_⟩) ?_
  rotate_left
  · intro w; go_simp; try with_reducible rfl
  try simp only [Act.put, List.setIfInBounds_toArray, List.set_cons_zero, List.set_cons_succ, Array.replicate]
  refine wpAny_take (i := 4) (v := ?_) (by simp only [List.getElem?_toArray, List.getElem?_cons_zero, List.getElem?_cons_succ] <;> rfl) (by kernel_rfl) (by kernel_rfl) (by kernel_rfl) (by intro _ _ _ h; exact h) (Or.inl ⟨by rfl, ?_⟩) ?_
  rotate_left
  · intro w; go_simp; try with_reducible rfl
  try simp only [Act.put, List.setIfInBounds_toArray, List.set_cons_zero, List.set_cons_succ, Array.replicate]
  refine wpAny_take (i := 5) (v := ?_) (by simp only [List.getElem?_toArray, List.getElem?_cons_zero, List.getElem?_cons_succ] <;> rfl) (by kernel_rfl) (by kernel_rfl) (by kernel_rfl) (by intro _ _ _ h; exact h) (Or.inl ⟨by rfl, ?_⟩) ?_
  rotate_left
  · intro w; go_simp; try with_reducible rfl
  try simp only [Act.put, List.setIfInBounds_toArray, List.set_cons_zero, List.set_cons_succ, Array.replicate]
  refine wpAny_take (i := 6) (v := ?_) (by simp only [List.getElem?_toArray, List.getElem?_cons_zero, List.getElem?_cons_succ] <;> rfl) (by kernel_rfl) (by kernel_rfl) (by kernel_rfl) (by intro _ _ _ h; exact h) (Or.inl ⟨by rfl, ?_⟩) ?_
  rotate_left
  · intro w; go_simp; try with_reducible rfl
  try simp only [Act.put, List.setIfInBounds_toArray, List.set_cons_zero, List.set_cons_succ, Array.replicate]
  refine wpAny_take (i := 7) (v := ?_) (by simp only [List.getElem?_toArray, List.getElem?_cons_zero, List.getElem?_cons_succ] <;> rfl) (by kernel_rfl) (by kernel_rfl) (by kernel_rfl) (by intro _ _ _ h; exact h) (Or.inl ⟨by rfl, ?_⟩) ?_
  rotate_left
  · intro w; go_simp; try with_reducible rfl
  try simp only [Act.put, List.setIfInBounds_toArray, List.set_cons_zero, List.set_cons_succ, Array.replicate]
  refine wpAny_ready (rs := [8]) (by kernel_rfl) (by simp) ?_
  refine AllReady.cons (by simp only [List.getElem?_toArray, List.getElem?_cons_zero, List.getElem?_cons_succ] <;> rfl) (fun K hK => ?_) ?_
  · go_simp; go_at_call 17; refine (Join_any wb 3 (m - 2) (m - 2) (Tl.drop 2) _ (by rw [List.length_drop, HTLL.out]) (fun k hk => by rw [Row.cell (Row.drew W5.out), show 3 + k = 1 + (2 + k) by omega, HWC.out (2 + k) (by omega)]; simp [List.getD, List.getElem?_drop]) (by simp; omega) (Nat.le_refl _) (by omega) (by have := HJL.out; omega)).mono ?_; rintro e w6 ⟨rfl, hb6⟩; have hb56 : Below w5.heap.size w5 w6 := bstep (Below.refl _ _).drew hb6; have W6 := Lib.hid (W5.out.keep hb56); have B6 := Lib.hid (B5.out.trans (hb56.mono B5.out.size)); have R6 := Lib.hid (R5.out.keep hb56); have F6 := Lib.hid (F5.out.keep hb56); have V6 := Lib.hid (V5.out.keep hb56); have hw6 : w5.heap.size ≤ w6.heap.size := hb56.size; clear hb6 hb56; try go_simp
    refine hK _ _ ?_
    clear hK K
    try simp only [Act.put, List.setIfInBounds_toArray, List.set_cons_zero, List.set_cons_succ, Array.replicate]
    refine wpAny_ready (rs := [9]) (by kernel_rfl) (by simp) ?_
    refine AllReady.cons (by simp only [List.getElem?_toArray, List.getElem?_cons_zero, List.getElem?_cons_succ] <;> rfl) (fun K hK => ?_) ?_
    · have W7 := Lib.hid (W6.out.alloc (.cells #[.string (bs (Shl.joinL (Tl.drop 2)))] 9)); have hc7 := W7.out.cell 3; rw [hwx] at hc7; have hz7 := W7.out.frozen 3; go_simp
      refine hK _ _ ?_
      clear hK K
      try simp only [Act.put, List.setIfInBounds_toArray, List.set_cons_zero, List.set_cons_succ, Array.replicate]
      refine wpAny_ready (rs := [10]) (by kernel_rfl) (by simp) ?_
      refine AllReady.cons (by simp only [List.getElem?_toArray, List.getElem?_cons_zero, List.getElem?_cons_succ] <;> rfl) (fun K hK => ?_) ?_
      · go_simp
        refine hK _ _ ?_
        clear hK K
        try simp only [Act.put, List.setIfInBounds_toArray, List.set_cons_zero, List.set_cons_succ, Array.replicate]
        refine wpAny_ready (rs := [11]) (by kernel_rfl) (by simp) ?_
        refine AllReady.cons (by simp only [List.getElem?_toArray, List.getElem?_cons_zero, List.getElem?_cons_succ] <;> rfl) (fun K hK => ?_) ?_
        · go_simp
          refine hK _ _ ?_
          clear hK K
          try simp only [Act.put, List.setIfInBounds_toArray, List.set_cons_zero, List.set_cons_succ, Array.replicate]
          refine wpAny_done (by kernel_rfl) ?_ _
          have HW7 := Lib.hid W7.out
          obtain ⟨w7, hw7⟩ : ∃ w7, w6.alloc (.cells #[.string (bs (Shl.joinL (Tl.drop 2)))] 9) = w7 := ⟨_, rfl⟩
          have b67 : Below w6.heap.size w6 w7 := by rw [← hw7]; exact balloc (Below.refl _ _) _
          have hs67 : w6.heap.size < w7.heap.size := by rw [← hw7]; simp
          rw [hw7] at HW7 ⊢
          obtain ⟨w8, hw8⟩ : ∃ w8, w7.setCell ⟨wb, 3, none⟩ (.string (bs (Shl.joinL (Tl.drop 2)))) = w8 := ⟨_, rfl⟩
          rw [hw8]
          have hu8 : Upd wb w7 w8 := by rw [← hw8]; exact Upd.set _ _ _ _
          have hW8 : Row w8 wb 9 ((strs (wordsB s)).set 3 (.string (bs (Shl.joinL (Tl.drop 2))))) := by rw [← hw8]; exact HW7.out.set 3 _
          have B7 := Lib.hid (B6.out.trans (b67.mono B6.out.size))
          have B8 := Lib.hid (Upd.below' B7.out hu8 hB4 B7.out.size)
          have R8 := Lib.hid (hu8.row (R6.out.keep b67) (by omega))
          have F8 := Lib.hid (hu8.row (F6.out.keep b67) (by omega))
          have V8 := Lib.hid (hu8.row (V6.out.keep b67) (by omega))
          have hsz8 : w7.heap.size ≤ w8.heap.size := hu8.size
          have HFC : Hid (∀ k, k < P.length → w8.cell? ⟨wb, 1 + k, none⟩ = some (.string (bs (Fl.getD k [])))) := fun k hk => by
            rw [hW8.cell]
            obtain ⟨g0, g1, g2⟩ := HF0.out
            have k3 : k < 3 := by omega
            match k, k3 with
            | 0, _ => rw [g0, List.getElem?_set_ne (by decide)]; exact HWC.out 0 (by omega)
            | 1, _ => rw [g1, List.getElem?_set_ne (by decide)]; exact HWC.out 1 (by omega)
            | 2, _ =>
              rw [g2]
              have hl : 3 < (wordsB s).length := by rw [HL.out]; omega
              simp [List.getElem?_set, hl]
          have hw58 : wb < w8.heap.size := by omega
          clear hw7 hw8 b67 hu8 hW8 W7 HW7 hc0 hc1 hc2 hv1 hv2 hv3 hf5 hwx hz2 W5 W6 R5 R6 F5 F6 V5 V6 B5 B6 B7
          have hv1 := V8.out.cell 1
          have hv2 := V8.out.cell 2
          have hv3 := V8.out.cell 3
          simp only [verbV, List.getElem?_cons_succ, List.getElem?_cons_zero] at hv1 hv2 hv3
          rw [HPP.out] at hv3
          try rw [HPP.out] at hv3
          go_upto_region 15 with fail
          obtain ⟨Wa, hWa⟩ : ∃ Wa, w8.alloc (.cells (evC (Shl.ev0 v)).toArray 28) = Wa := ⟨_, rfl⟩
          have Ea : Hid (Row Wa w8.heap.size 28 (evC (Shl.ev0 v))) := by rw [← hWa]; exact Row.new w8 _ _
          have ba : Below w8.heap.size w8 Wa := by rw [← hWa]; exact balloc (Below.refl _ _) _
          have hwa : w8.heap.size < Wa.heap.size := by rw [← hWa]; simp
          have Ba := Lib.hid (B8.out.trans (ba.mono B8.out.size))
          have Ra := Lib.hid (R8.out.keep ba)
          have Fa := Lib.hid (F8.out.keep ba)
          have Va := Lib.hid (V8.out.keep ba)
          have Ca : Hid (∀ k, k < P.length → Wa.cell? ⟨wb, 1 + k, none⟩ = some (.string (bs (Fl.getD k [])))) := fun k hk => bkeep ba (HFC.out k hk)
          have ea : w8.alloc (.cells #[.int .i64 v.kind, .int .i64 0, .int .i64 0, .int .i64 v.cmd, .string ⟨#[]⟩, .string ⟨#[]⟩, .int .i64 0, .int .i64 0, .int .u64 0, .slice none 0 0, .slice none 0 0] 28) = Wa := hWa
          rw [ea]
          have ep : (bs P).size = P.length := rfl
          clear hWa ba ea hv1 hv2
          generalize w8.heap.size = eb at *
          have hcv := Lib.run_convert_string_bytes (P := Tryz.prog) Wa 9 26 5 (bs P) Tryz.underlying9 Tryz.underlying26 Tryz.underlying5
          have hva := Va.out.cell 3
          simp only [verbV, List.getElem?_cons_succ, List.getElem?_cons_zero] at hva
          rw [HPP.out] at hva
          go_upto_region 16 with fail
          obtain ⟨Wb, hWb⟩ : ∃ Wb, Lib.bytesWorld Wa 5 (bs P) = Wb := ⟨_, rfl⟩
          rw [hWb]
          clear hcv
          generalize grownCap Wa (bs P).size 0 5 = cb at *
          have bb : Below Wa.heap.size Wa Wb := by rw [← hWb]; exact Lib.bytesWorld_below _ _ _
          have Cb : Hid (∀ k, k < P.length → Wb.cell? ⟨Wa.heap.size, k, none⟩ = some (.int .u8 ((P.getD k 0).toNat : Int))) := fun k hk => by rw [← hWb]; exact Lib.bytesWorld_cell Wa _ (bs P) k hk
          have hwb : Wa.heap.size < Wb.heap.size := by rw [← hWb, Lib.bytesWorld_size]; omega
          have Bb := Lib.hid (Ba.out.trans (bb.mono Ba.out.size))
          have Rb := Lib.hid (Ra.out.keep bb)
          have Fb := Lib.hid (Fa.out.keep bb)
          have Eb := Lib.hid (Ea.out.keep bb)
          have Db : Hid (∀ k, k < P.length → Wb.cell? ⟨wb, 1 + k, none⟩ = some (.string (bs (Fl.getD k [])))) := fun k hk => bkeep bb (Ca.out k hk)
          clear hWb bb
          have HWAB := Lib.hid hwa
          generalize Wa.heap.size = bk at *
          go_loopw [93] (fun iv wr => ∃ k : Nat, k ≤ 3 ∧ iv = .int .i64 k ∧ ∃ e, Shl.setAll (P.take k) (Fl.take k) (Shl.ev0 v) = some e ∧ Row wr eb 28 (evC e) ∧ Upd eb Wb wr) (fun iv _ => 3 - (intOf iv).toNat)
          case atStart => exact ⟨0, Nat.zero_le _, rfl, _, rfl, Eb.out, Upd.refl _ _⟩
          case round =>
            obtain ⟨k, hk, rfl, ev, hset, hrow, hupd⟩ := hrel
            have HSET := Lib.hid hset
            have HROW := Lib.hid hrow
            have HUPD := Lib.hid hupd
            have Br := Lib.hid (Upd.below' Bb.out hupd (by omega) (by omega))
            have Rr := Lib.hid (HUPD.out.row Rb.out (by omega))
            have Fr := Lib.hid (HUPD.out.row Fb.out (by omega))
            have hfr := Fr.out.cell 0
            simp only [List.getElem?_cons_zero] at hfr
            clear hset hrow hupd
            by_cases hlt : k < 3
            · have hltI : (k : Int) < 3 := by omega
              have hcb := HUPD.out.cell (Cb.out k (by omega)) (show bk ≠ eb by omega)
              have hcw := HUPD.out.cell (Db.out k (by omega)) (show wb ≠ eb by omega)
              obtain ⟨hst, hsn⟩ := Shl.setAll_step P Fl HFLL.out.symm (Shl.ev0 v) ev k (by omega) HSET.out
              have HST := Lib.hid hst
              have HSN := Lib.hid hsn
              have HLT : Hid (P.getD k 0 ∈ letters) := HLET.out _ (by simp [List.getD, show k < P.length by omega])
              have HSZ := Lib.hid (HFS.out k)
              clear hst hsn
              generalize P.getD k 0 = c at *
              generalize Fl.getD k [] = x2 at *
              obtain ⟨r, hr⟩ : ∃ r, Shl.setE c x2 ev = r := ⟨_, rfl⟩
              rw [hr] at HST HSN
              have HRR := Lib.hid hr
              clear hr
              have hx2 : (bs x2).size ≤ 281474976710656 := by have := HSZ.out; show x2.length ≤ _; omega
              cases r with
              | none =>
                have HPN : Hid (parseV s (Shl.parseL s.data.toList) = .tuple #[evV ev00, Errs.flt (bs f) 4]) := by
                  show _ = _
                  rw [HPL.out, HSN.out rfl, ← HF.out]
                  rfl
                go_upto_region 19 with (go_at_call 37; refine (set_any eb c HLT.out (bs x2) hx2 ev _ (HG.out.below Br.out hz) HROW.out).mono ?_; rw [bs_data, HRR.out]; rintro e w8 ⟨rfl, hx8, hu8⟩; have B8 := Lib.hid (Upd.below' Br.out hu8 (by omega) Br.out.size); have R8 := Lib.hid (hu8.row Rr.out (by omega)); have F8 := Lib.hid (hu8.row Fr.out (by omega)); clear hx8 hu8)
                have hf8 := F8.out.cell 0
                simp only [List.getElem?_cons_zero] at hf8
                go_wp2_with (first
                  | (go_at_call 35; refine (Errs.At_E _ _ (by decide) _ (HG.out.keep B8.out).et).mono ?_; rintro e w6 ⟨rfl, hb6⟩; have B6 := Lib.hid (B8.out.trans (hb6.mono B8.out.size)); have R6 := Lib.hid (R8.out.keep hb6); clear hb6)
                  | (refine store_box rfl 28 (.tmp 2) (.tmp 105) (by rfl) w.heap.size (by rfl) (evC ev00) (by rfl) 28 (evC ev00) R6.out rfl (evSz _) (evOne _) ?_; intro w7 hr7 hu7; have R7 := Lib.hid hr7; have B7 := Lib.hid (Upd.below' B6.out hu7 (Nat.le_refl _) B6.out.size); clear hr7 hu7))
                refine ret_box rfl rfl w.heap.size rfl (evC ev00) R7.out Tryz.underlying28 rfl (evSz _) ?_
                exact ⟨by rw [HPN.out]; rfl, B7.out⟩
              | some e2 =>
                go_wp2_with (go_at_call 37; refine (set_any eb c HLT.out (bs x2) hx2 ev _ (HG.out.below Br.out hz) HROW.out).mono ?_; rw [bs_data, HRR.out]; rintro e w8 ⟨rfl, hx8, hu8⟩; have ROW8 := Lib.hid (hx8 e2 rfl); have U8 := Lib.hid (HUPD.out.trans hu8); clear hx8 hu8)
                exact ⟨⟨k + 1, by omega, by go_num, e2, HST.out, ROW8.out, U8.out⟩, by simp [intOf]; omega⟩
            · have hkn : k = 3 := by omega
              subst hkn
              have HPY : Hid (parseV s (Shl.parseL s.data.toList) = .tuple #[evV ev, .nilIface]) := by
                show _ = _
                have h1 := HSET.out
                rw [show P.take 3 = P from by rw [← hP3, List.take_length], show Fl.take 3 = Fl from by rw [show 3 = Fl.length from by rw [HFLL.out, hP3], List.take_length]] at h1
                rw [HPL.out, h1]
                rfl
              go_wp2_with (first
                | (refine load_box rfl 28 (.tmp 11) (by rfl) eb (by rfl) (evC ev) 28 HROW.out _ Tryz.underlying28 rfl (evSz _) ?_)
                | (refine store_box rfl 28 (.tmp 2) (.tmp 110) (by rfl) w.heap.size (by rfl) (evC ev) (by rfl) 28 (evC ev00) Rr.out rfl (evSz _) (evOne _) ?_; intro w9 hr9 hu9; have R9 := Lib.hid hr9; have B9 := Lib.hid (Upd.below' Br.out hu9 (Nat.le_refl _) Br.out.size); clear hr9 hu9))
              refine ret_box rfl rfl w.heap.size rfl (evC ev) R9.out Tryz.underlying28 rfl (evSz _) ?_
              exact ⟨by rw [HPY.out]; rfl, B9.out⟩
        exact AllReady.nil
      exact AllReady.nil
    exact AllReady.nil
  exact AllReady.nil
/-- What 'parse' comes to, whatever the line is. -/
theorem parse_any (s : ByteArray) (hs : s.size < 4294967281) (w : World) (hg : Gl w) :
    Calls Tryz.prog 18 #[.string s] w fun e w' => e = .returned (parseV s (Shl.parseL s.data.toList)) ∧ Below w.heap.size w w' := by
  have hlen : (Shl.wordsL s.data.toList).length = (wordsB s).length := by simp [wordsB]
  by_cases hx : ∃ j, j < 15 ∧ (Shl.verbs.getD j dV).name = (Shl.wordsL s.data.toList).headD []
  · obtain ⟨j0, hj0, hn0⟩ := hx
    obtain ⟨j, hi⟩ : ∃ j : Nat, idxV ((Shl.wordsL s.data.toList).headD []) = (j : Int) := by
      unfold idxV
      cases hf : Shl.verbs.findIdx? (fun v => v.name == (Shl.wordsL s.data.toList).headD []) with
      | some i => exact ⟨i, rfl⟩
      | none =>
        rw [List.findIdx?_eq_none_iff] at hf
        have hl0 : j0 < Shl.verbs.length := hj0
        have := hf _ (List.getElem_mem hl0)
        have h2 : Shl.verbs[j0].name = (Shl.wordsL s.data.toList).headD [] := by
          have h3 : Shl.verbs.getD j0 dV = Shl.verbs[j0] := by simp [List.getD, List.getElem?_eq_getElem hl0]
          rw [← h3]; exact hn0
        rw [h2] at this
        simp at this
    obtain ⟨hj, hn⟩ := idxV_some hi
    have hpl := Shl.parse_at hj hn
    have hwl := wordsB_pos s
    obtain ⟨hp1, hp3, hlast⟩ := pat_facts j hj
    have hdl : ((Shl.wordsL s.data.toList).drop 1).length = (wordsB s).length - 1 := by rw [List.length_drop, hlen]
    by_cases hL1 : (wordsB s).length = 1
    · have : Shl.parseL s.data.toList = .inl 3 := by
        rw [hpl]
        show Shl.fin (Shl.verbs.getD j dV) _ = _
        unfold Shl.fin
        have hf : (Shl.fitW (Shl.verbs.getD j dV) ((Shl.wordsL s.data.toList).drop 1)).length = 0 := by
          unfold Shl.fitW
          rw [if_neg (by omega)]; omega
        rw [if_pos (by omega)]
      rw [this]
      exact parse_one s hs w hg j hj hi hL1
    · obtain ⟨m, hm⟩ : ∃ m, (wordsB s).length = m + 1 := ⟨(wordsB s).length - 1, by omega⟩
      have hm1 : 1 ≤ m := by omega
      have hdm : ((Shl.wordsL s.data.toList).drop 1).length = m := by omega
      rcases Nat.lt_trichotomy m (Shl.verbs.getD j dV).pat.length with h | h | h
      · have : Shl.parseL s.data.toList = .inl 3 := by
          rw [hpl]
          show Shl.fin (Shl.verbs.getD j dV) _ = _
          unfold Shl.fin
          have hf : (Shl.fitW (Shl.verbs.getD j dV) ((Shl.wordsL s.data.toList).drop 1)).length = m := by
            unfold Shl.fitW
            rw [if_neg (by omega)]; omega
          rw [if_pos (by omega)]
        rw [this]
        exact parse_short s hs w hg j hj hi m hm hm1 h
      · exact parse_eq s hs w hg j hj hi m hm hm1 h
      · by_cases hj00 : j = 0
        · have h3 : (Shl.verbs.getD j dV).pat.length = 3 := by subst hj00; rfl
          exact parse_join s hs w hg j hj hi m hm hm1 hj00 (by omega)
        · have : Shl.parseL s.data.toList = .inl 2 := by
            rw [hpl]
            show Shl.fin (Shl.verbs.getD j dV) _ = _
            unfold Shl.fin
            have hf : (Shl.fitW (Shl.verbs.getD j dV) ((Shl.wordsL s.data.toList).drop 1)).length = m := by
              unfold Shl.fitW
              rw [if_neg (fun h => hj00 (hlast.1 h.1))]; omega
            rw [if_neg (by omega), if_pos (by omega)]
          rw [this]
          exact parse_long s hs w hg j hj hi m hm hm1 h hj00
  · have hk : ∀ k, k < 15 → (Shl.verbs.getD k dV).name ≠ (Shl.wordsL s.data.toList).headD [] := fun k h1 h2 => hx ⟨k, h1, h2⟩
    rw [Shl.parse_none hk]
    exact parse_bad s hs w hg (idxV_none _ hk)
end Go.Proofs.YtojoeaaodomfnaaGreatDoor
