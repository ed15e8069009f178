/- Package tree: leaf. (printed by gen/trel.py) -/
import Derived.Test.YticabllkadpmeaaGreatDoorTreN
namespace Go.Proofs.YticabllkadpmeaaGreatDoor
set_option linter.unusedVariables false
set_option linter.unusedSimpArgs false
set_option linter.unnecessarySimpa false
open Go.RowKit
open Tre (It)
set_option maxRecDepth 100000
set_option maxHeartbeats 4000000

theorem store_item_mid {w : World} {ops : Array Oper} {rest : List Oper} {o : Oper} {a : Act} {Q : Exit → Act → World → Prop} (hgd : o.guard = none) (x y : Operand) (ho : o.op = .store 38 x y)
    (b off : Nat) (hx : a.eval x = .pointer (some ⟨b, off, none⟩)) (z : It) (hy : a.eval y = .agg (itC z).toArray) (hz : ItOk z) (t : TypeId) (C : List Value) (hr : Row w b t C) (hC : off + 34 ≤ C.length)
    (h : wpList Tryz.prog ops Q rest (a.put o.dst undef) (w.setCells b off (itC z))) : wpList Tryz.prog ops Q (o :: rest) a w :=
  wpList_store_mid hgd 38 x y ho b off (itC z).toArray hx hy (hr.there off _ (by simp [itC_length hz]; omega)) (by rw [item_size1]; simp [itC_length hz]) (all_oneCell_toArray (itC_one z)) h
/-- A fresh box for an item, and the item put into it. -/
theorem pre34 (w : World) (x : It) (hx : ItOk x) : Row (w.alloc (.cells #[.string ⟨#[]⟩, .int .u64 0, .int .u8 0, .int .u8 0, .int .u8 0, .int .u8 0, .int .u8 0, .int .u8 0, .int .u8 0, .int .u8 0, .int .u8 0, .int .u8 0, .int .u8 0, .int .u8 0, .int .u8 0, .int .u8 0, .int .u8 0, .int .u8 0, .int .u8 0, .int .u8 0, .int .u8 0, .int .u8 0, .int .u8 0, .int .u8 0, .int .u8 0, .int .u8 0, .int .u8 0, .int .u8 0, .int .u8 0, .int .u8 0, .int .u8 0, .int .u8 0, .int .u8 0, .int .u8 0] 38)) w.heap.size 38 (itC dIt) ∧
    ∃ W, (w.alloc (.cells #[.string ⟨#[]⟩, .int .u64 0, .int .u8 0, .int .u8 0, .int .u8 0, .int .u8 0, .int .u8 0, .int .u8 0, .int .u8 0, .int .u8 0, .int .u8 0, .int .u8 0, .int .u8 0, .int .u8 0, .int .u8 0, .int .u8 0, .int .u8 0, .int .u8 0, .int .u8 0, .int .u8 0, .int .u8 0, .int .u8 0, .int .u8 0, .int .u8 0, .int .u8 0, .int .u8 0, .int .u8 0, .int .u8 0, .int .u8 0, .int .u8 0, .int .u8 0, .int .u8 0, .int .u8 0, .int .u8 0] 38)).setCells w.heap.size 0 (itC x) = W ∧ Row W w.heap.size 38 (itC x) ∧ Below w.heap.size w W := by
  have h0 : Row (w.alloc (.cells #[.string ⟨#[]⟩, .int .u64 0, .int .u8 0, .int .u8 0, .int .u8 0, .int .u8 0, .int .u8 0, .int .u8 0, .int .u8 0, .int .u8 0, .int .u8 0, .int .u8 0, .int .u8 0, .int .u8 0, .int .u8 0, .int .u8 0, .int .u8 0, .int .u8 0, .int .u8 0, .int .u8 0, .int .u8 0, .int .u8 0, .int .u8 0, .int .u8 0, .int .u8 0, .int .u8 0, .int .u8 0, .int .u8 0, .int .u8 0, .int .u8 0, .int .u8 0, .int .u8 0, .int .u8 0, .int .u8 0] 38)) w.heap.size 38 (itC dIt) := Row.new w 38 (itC dIt)
  refine ⟨h0, _, rfl, ?_, below_setCells (balloc (Below.refl _ _) _) _ _ _ (Nat.le_refl _)⟩
  have h1 := Row.setCells (itC x) 0 h0 (by rw [itC_length hx]; exact Nat.le_refl _)
  have e : splice (itC dIt) 0 (itC x) = itC x := by
    have h2 : (itC dIt).length = 34 := rfl
    unfold splice
    rw [itC_length hx, List.drop_of_length_le (by omega)]
    simp
  rw [e] at h1
  exact h1
theorem sum_sh {w : World} {p : Nat} {x : It} (hr : Row w p 38 (itC x)) (hx : ItOk x) : Sh w (.slice (some ⟨p, 2, none⟩) 32 32) x.sum := by
  refine ⟨by simp, _, 32, by rw [hx.2.1], by rw [hx.2.1]; exact Nat.le_refl _, by decide, fun e => by simp at e, fun y hy j q hq => ?_⟩
  simp only [Option.some.injEq] at hy
  subst hy
  rw [Addr.add_lit, hr.cell]
  have : (itC x)[2 + j]? = (bytes x.sum)[j]? := by unfold itC; rw [show 2 + j = (j + 1) + 1 by omega]; simp
  rw [this]; exact hq
theorem bytes_le {L : List It} (h : ∀ x ∈ L, ItS x) : (L.flatMap It.bytes).length ≤ L.length * 1000100 := by
  induction L with
  | nil => simp
  | cons x r ih =>
    have h1 := ih fun y hy => h y (List.mem_cons_of_mem _ hy)
    have h2 := h x (List.mem_cons_self ..)
    have h3 : (It.bytes x).length ≤ 1000100 := by
      have hn : x.nm.length = x.name.size := Array.length_toList
      have h4 := h2.2
      have h5 := enc_length x.nm.length (by omega)
      have h6 := enc_length (min x.len 4611686018427387903) (by omega)
      have h7 := nsize_le x.nm.length
      have h8 := nsize_le (min x.len 4611686018427387903)
      have h9 := h2.1.2.1
      unfold It.bytes
      simp only [List.length_append]
      omega
    rw [List.flatMap_cons, List.length_append, List.length_cons]
    omega
theorem leaf_any (w : World) (B b : Nat) (T : TS) (i : Nat) (hg : Glob w) (h : Tr w B b T) (hi : i < 16) (hB : 3 ≤ B) :
    Calls Tryz.prog 14 #[.pointer (some ⟨b, 0, none⟩), .int .i64 (i : Int)] w fun e w' => e = .returned (.tuple #[]) ∧ Tr w' B b (T.setS i (Tre.leafSum (T.L.getD i []))) ∧ Below B w w' ∧ Kpt St w w' := by
  have hc := h.slice i hi
  have hiI : (i : Int) < 16 := by omega
  have hL := h.ok.leaf i hi
  have HI := h.its i hi
  have HO := Lib.hid (h.ok.its _ hL)
  have HN := Nat.le_trans (h.ok.few _ hL) h.ok.small
  have HT := Lib.hid h
  have HG := Lib.hid hg
  have hbs := h.row.lt
  have hbB := h.hb
  have HFIN : Hid (∀ W, Tr W B b T → Tr (W.setCells b (16 + i * 32) (bytes (Tre.leafSum (T.L.getD i [])))) B b (T.setS i (Tre.leafSum (T.L.getD i [])))) := fun W hW => hW.storeS i hi _ (Tre.leafSum_length _)
  generalize T.L.getD i [] = L at *
  generalize T.vs.getD i undef = v at *
  clear h hL hg
  obtain ⟨a, cap, rfl, hc1, hc2, hc3, HI2⟩ := HI.open
  have HS := Lib.hid HI2
  clear HI HI2
  by_cases hL0 : L = []
  · subst hL0
    have hrow := HT.out.row
    have HROW := Lib.hid hrow
    have HLN := Lib.hid HT.out.ok.len
    clear hrow
    go_enter Tryz.func14, Tryz.ntmps14
    go_wp2_with (with_reducible refine store_sum_mid rfl (.tmp 22) (.tmp 19) rfl b (16 + i * 32) rfl Tre.nought rfl nought_len _ _ HROW.out (by rw [HLN.out]; omega) ?_)
    refine bodyPost_ret (results_none rfl _ _ _) rfl ?_
    exact ⟨rfl, HFIN.out _ HT.out, below_setCells (Below.refl _ _) _ _ _ hbB, kpt_setCells HROW.out st_tree _ _⟩
  · have hpos : 0 < L.length := by
      cases L with
      | nil => exact absurd rfl hL0
      | cons x r => simp
    have hposI : ¬ (L.length : Int) = 0 := by omega
    have HLS : Hid (Tre.leafSum L = Sha.sum (L.flatMap It.bytes)) := by show _ = _; unfold Tre.leafSum; rw [if_neg hL0]
    clear hL0
    go_enter Tryz.func14, Tryz.ntmps14
    go_wp2_with (go_at_call 27; refine (New_any _ HG.out).mono ?_; rintro e w1 ⟨rfl, hh1, hb1⟩; have G1 := Lib.hid (Glob.below HG.out hb1 (by omega)); have T1 := Lib.hid (HT.out.below hb1 (Nat.le_refl _)); have S1 := Lib.hid (HS.out.below hb1); have H1 := Lib.hid hh1; have B1 := Lib.hid hb1; have hc1' := bcell hb1 hc hbs; clear hh1 hb1)
    obtain ⟨h0, hh0⟩ : ∃ h0, w.heap.size = h0 := ⟨_, rfl⟩
    rw [hh0] at H1 B1 hbs
    have HH0 := Lib.hid hh0
    have h01 : h0 ≤ w1.heap.size := by have := B1.out.size; omega
    have hbw1 : b < w1.heap.size := by omega
    simp only [hh0]
    clear hh0 hc HG
    go_loopw [31] (fun iv wr => ∃ j : Nat, j ≤ L.length ∧ iv = .int .i64 j ∧ HashIs wr h0 ((L.take j).flatMap It.bytes) ∧ Below h0 w1 wr) (fun iv _ => L.length - (intOf iv).toNat)
    case atStart => exact ⟨0, Nat.zero_le _, rfl, H1.out, Below.refl _ _⟩
    case round =>
      clear H1
      obtain ⟨j, hj, rfl, hh, hb⟩ := hrel
      have H2 := Lib.hid hh
      have B2 := Lib.hid hb
      have hw1r := hb.size
      clear hh hb
      have HFL : Hid (((L.take j).flatMap It.bytes).length ≤ 1000100000000) := by
        have h1 := bytes_le (L := L.take j) (fun x hx => HO.out x (List.mem_of_mem_take hx))
        rw [List.length_take, Nat.min_eq_left hj] at h1
        show _ ≤ _
        omega
      by_cases hlt : j < L.length
      · have hltI : (j : Int) < (L.length : Int) := by omega
        have SR := HS.out.at' (B1.out.trans B2.out) (Nat.le_of_eq HH0.out)
        obtain ⟨ba, off, rfl, -⟩ := SR.cells (by omega) (ItS.oks HO.out)
        have hrg := SR.range (ItS.oks HO.out) j hlt
        have hxm : L.getD j dIt ∈ L := by simp [List.getD, List.getElem?_eq_getElem hlt]
        have hxs := HO.out _ hxm
        have hnx : (L.take (j + 1)).flatMap It.bytes = (L.take j).flatMap It.bytes ++ It.bytes (L.getD j dIt) := by
          rw [List.take_add_one, List.getElem?_eq_getElem hlt, List.flatMap_append]
          simp [List.getD, List.getElem?_eq_getElem hlt]
        have HNX := Lib.hid hnx
        generalize L.getD j dIt = x at *
        obtain ⟨hz0, W6, hW6, hr6, hb6⟩ := pre34 wr x hxs.1
        dsimp only at hW6 hz0
        have HZ0 := Lib.hid hz0
        have HRG := Lib.hid hrg
        have HXS := Lib.hid hxs
        have HXO := Lib.hid hxs.1
        have hh0r := H2.out.lt
        have H6 := Lib.hid (H2.out.below hb6 (Nat.le_refl _))
        have hw1B := B1.out.size
        have G6 := Lib.hid (Glob.below (Glob.below G1.out B2.out (by omega)) hb6 (by omega))
        have R6 := Lib.hid hr6
        have B6 := Lib.hid hb6
        have hx0 : W6.cell? ⟨wr.heap.size, 0, none⟩ = some (.string x.name) := Row.cell hr6 0
        have hx1 : W6.cell? ⟨wr.heap.size, 1, none⟩ = some (.int .u64 (x.len : Int)) := Row.cell hr6 1
        have hw6 := hr6.lt
        obtain ⟨m, hm⟩ : ∃ m : Int, (if (4611686018427387903 : Int) < (x.len : Int) then (4611686018427387903 : Int) else (x.len : Int)) = m := ⟨_, rfl⟩
        have HM0 : Hid (0 ≤ m ∧ m < 4611686018427387904 ∧ m.toNat = min x.len 4611686018427387903) := by
          show _ ∧ _ ∧ _
          rw [← hm]
          split <;> omega
        have hnms := hxs.2
        have HE1 := Lib.hid (enc_length x.name.size (by omega))
        have hns := nsize_le x.name.size
        have HE2 := Lib.hid (enc_length m.toNat (by have := HM0.out; omega))
        have hns2 := nsize_le m.toNat
        have HNM : Hid (x.name.data.toList.length = x.name.size) := Array.length_toList
        clear hz0 hrg hxs hxm hnx hb6 hr6 SR
        go_upto_region 6 with (first
          | (with_reducible refine load_item rfl (.tmp 33) rfl ba _ rfl x HXO.out HRG.out ?_)
          | (with_reducible refine store_item_mid rfl (.tmp 6) (.tmp 34) rfl wr.heap.size 0 rfl x rfl HXO.out 38 (itC dIt) HZ0.out (by decide) ?_))
        rw [hW6]
        clear hW6
        refine wp_region_held_drew (S := fun w' => Below W6.heap.size W6 w') (by kernel_rfl) (by exact (Below.refl _ _).drew) (fun hHeld => ?_)
        refine wpAnyH_take (i := 0) (v := ?_) (by simp only [List.getElem?_toArray, List.getElem?_cons_zero, List.getElem?_cons_succ] <;> rfl) (by kernel_rfl) (by kernel_rfl) (by kernel_rfl) (by intro _ _ _ h; exact h) (Or.inl ⟨by rfl, ?_⟩) (by assumption) ?_
        rotate_left
        · intro w _; go_simp; try with_reducible rfl
        try simp only [Act.put, List.setIfInBounds_toArray, List.set_cons_zero, List.set_cons_succ, Array.replicate]
        refine wpAnyH_take (i := 1) (v := ?_) (by simp only [List.getElem?_toArray, List.getElem?_cons_zero, List.getElem?_cons_succ] <;> rfl) (by kernel_rfl) (by kernel_rfl) (by kernel_rfl) (by intro _ _ _ h; exact h) (Or.inl ⟨by rfl, ?_⟩) (by assumption) ?_
        rotate_left
        · intro w hSS; have q1 := bcell hSS hx0 hw6; go_simp; try with_reducible rfl
        try simp only [Act.put, List.setIfInBounds_toArray, List.set_cons_zero, List.set_cons_succ, Array.replicate]
        refine wpAnyH_take (i := 3) (v := ?_) (by simp only [List.getElem?_toArray, List.getElem?_cons_zero, List.getElem?_cons_succ] <;> rfl) (by kernel_rfl) (by kernel_rfl) (by kernel_rfl) (by intro _ _ _ h; exact h) (Or.inl ⟨by rfl, ?_⟩) (by assumption) ?_
        rotate_left
        · intro w _; go_simp; try with_reducible rfl
        try simp only [Act.put, List.setIfInBounds_toArray, List.set_cons_zero, List.set_cons_succ, Array.replicate]
        refine wpAnyH_take (i := 4) (v := ?_) (by simp only [List.getElem?_toArray, List.getElem?_cons_zero, List.getElem?_cons_succ] <;> rfl) (by kernel_rfl) (by kernel_rfl) (by kernel_rfl) (by intro _ _ _ h; exact h) (Or.inl ⟨by rfl, ?_⟩) (by assumption) ?_
        rotate_left
        · intro w hSS; have q1 := bcell hSS hx1 hw6; go_simp; try with_reducible rfl
        try simp only [Act.put, List.setIfInBounds_toArray, List.set_cons_zero, List.set_cons_succ, Array.replicate]
        refine wpAnyH_take (i := 5) (v := ?_) (by simp only [List.getElem?_toArray, List.getElem?_cons_zero, List.getElem?_cons_succ] <;> rfl) (by kernel_rfl) (by kernel_rfl) (by kernel_rfl) (by intro _ _ _ h; exact h) (Or.inl ⟨by rfl, ?_⟩) (by assumption) ?_
        rotate_left
        · intro w _; go_simp; try with_reducible rfl
        try simp only [Act.put, List.setIfInBounds_toArray, List.set_cons_zero, List.set_cons_succ, Array.replicate]
        clear hm
        refine wpAnyH_ready (rs := [2]) (by kernel_rfl) (by simp) ?_
        refine AllReadyH.cons (by simp only [List.getElem?_toArray, List.getElem?_cons_zero, List.getElem?_cons_succ] <;> rfl) (fun K hK => ?_) ?_
        · go_simp; go_at_call 29; with_reducible refine (PutText_any (.slice none 0 0) [] x.name _ (Sh.nil _) (by simp; omega)).mono ?_; rintro e w7 ⟨v7, rfl, ho7, hb7⟩; rw [List.nil_append] at ho7; have O7 := Lib.hid ho7; have B7 := Lib.hid hb7; clear ho7; try go_simp
          refine hK.out _ _ ((Below.refl _ _).drew.trans hb7) (fun hHeld => ?_)
          clear hK K
          try simp only [Act.put, List.setIfInBounds_toArray, List.set_cons_zero, List.set_cons_succ, Array.replicate]
          refine wpAnyH_ready (rs := [6]) (by kernel_rfl) (by simp) ?_
          refine AllReadyH.cons (by simp only [List.getElem?_toArray, List.getElem?_cons_zero, List.getElem?_cons_succ] <;> rfl) (fun K hK => ?_) ?_
          · go_simp; go_at_call 28; with_reducible refine (Put_any v7 (enc x.name.size ++ x.name.data.toList) m _ O7.out.sh (by rw [List.length_append, HE1.out, HNM.out]; omega) HM0.out.1 HM0.out.2.1).mono ?_; rintro e w8 ⟨v8, rfl, ho8, hb8⟩; have O8 := Lib.hid ho8; have B8 := Lib.hid hb8; clear ho8; try go_simp
            refine hK.out _ _ (((Below.refl _ _).drew.trans hb7).trans (hb8.mono hb7.size)) (fun hHeld => ?_)
            clear hK K
            try simp only [Act.put, List.setIfInBounds_toArray, List.set_cons_zero, List.set_cons_succ, Array.replicate]
            refine wpAnyH_take (i := 7) (v := ?_) (by simp only [List.getElem?_toArray, List.getElem?_cons_zero, List.getElem?_cons_succ] <;> rfl) (by kernel_rfl) (by kernel_rfl) (by kernel_rfl) (by intro _ _ _ h; exact h) (Or.inl ⟨by rfl, ?_⟩) (by assumption) ?_
            rotate_left
            · intro w _; go_simp; try with_reducible rfl
            try simp only [Act.put, List.setIfInBounds_toArray, List.set_cons_zero, List.set_cons_succ, Array.replicate]
            refine wpAnyH_take (i := 8) (v := ?_) (by simp only [List.getElem?_toArray, List.getElem?_cons_zero, List.getElem?_cons_succ] <;> rfl) (by kernel_rfl) (by kernel_rfl) (by kernel_rfl) (by intro _ _ _ h; exact h) (Or.inl ⟨by rfl, ?_⟩) (by assumption) ?_
            rotate_left
            · intro w _; go_simp; try with_reducible rfl
            try simp only [Act.put, List.setIfInBounds_toArray, List.set_cons_zero, List.set_cons_succ, Array.replicate]
            refine wpAnyH_take (i := 9) (v := ?_) (by simp only [List.getElem?_toArray, List.getElem?_cons_zero, List.getElem?_cons_succ] <;> rfl) (by kernel_rfl) (by kernel_rfl) (by kernel_rfl) (by intro _ _ _ h; exact h) (Or.inl ⟨by rfl, ?_⟩) (by assumption) ?_
            rotate_left
            · intro w _; go_simp; try with_reducible rfl
            try simp only [Act.put, List.setIfInBounds_toArray, List.set_cons_zero, List.set_cons_succ, Array.replicate]
            refine wpAnyH_take (i := 10) (v := ?_) (by simp only [List.getElem?_toArray, List.getElem?_cons_zero, List.getElem?_cons_succ] <;> rfl) (by kernel_rfl) (by kernel_rfl) (by kernel_rfl) (by intro _ _ _ h; exact h) (Or.inl ⟨by rfl, ?_⟩) (by assumption) ?_
            rotate_left
            · intro w _; go_simp; try with_reducible rfl
            try simp only [Act.put, List.setIfInBounds_toArray, List.set_cons_zero, List.set_cons_succ, Array.replicate]
            refine wpAnyH_take (i := 11) (v := ?_) (by simp only [List.getElem?_toArray, List.getElem?_cons_zero, List.getElem?_cons_succ] <;> rfl) (by kernel_rfl) (by kernel_rfl) (by kernel_rfl) (by intro _ _ _ h; exact h) (Or.inl ⟨by rfl, ?_⟩) (by assumption) ?_
            rotate_left
            · intro w _; go_simp; try with_reducible rfl
            try simp only [Act.put, List.setIfInBounds_toArray, List.set_cons_zero, List.set_cons_succ, Array.replicate]
            refine wpAnyH_done (by kernel_rfl) ?_ _
            have hw7 := B7.out.size
            have hw87 := B8.out.size
            have HHE := Lib.hid hHeld
            have hw8 := HHE.out.size
            have R8 := Lib.hid (R6.out.below HHE.out hw6)
            have G8 := Lib.hid (Glob.below G6.out HHE.out (by omega))
            have H8 := Lib.hid (H6.out.below HHE.out (Nat.le_refl _))
            have S8 := Lib.hid (sum_sh R8.out HXO.out)
            have HXL := Lib.hid HXO.out.2.1
            have HBY : Hid (It.bytes x = enc x.name.size ++ x.name.data.toList ++ enc m.toNat ++ x.sum) := by
              show _ = _
              rw [HM0.out.2.2]
              unfold It.bytes
              rw [show x.nm.length = x.name.size from HNM.out]
              rfl
            have hW6s : W6.drew.heap.size = W6.heap.size := rfl
            clear hHeld hb7 hb8 hx0 hx1
            go_wp2_with (first
              | (at_builtin; refine app_bytes (base := w7.heap.size) Tryz.underlying64 info_byte rfl (.tmp 46) (.tmp 48) rfl rfl O8.out rfl S8.out (by rw [List.length_append, List.length_append, HE1.out, HE2.out, HNM.out, HXL.out]; omega) B8.out.size ?_; intro v9 w9 ho9 hb9; have O9 := Lib.hid ho9; have B9 := Lib.hid hb9; have hw9 := hb9.size; have H9 := Lib.hid (H6.out.below (HHE.out.trans (hb9.mono (by omega))) (Nat.le_refl _)); have G9 := Lib.hid (Glob.below G8.out hb9 (by omega)); clear ho9 hb9)
              | (go_at_call 30; refine (Write_any h0 v9 ((L.take j).flatMap It.bytes) (enc x.name.size ++ x.name.data.toList ++ enc m.toNat ++ x.sum) w9 G9.out (by omega) H9.out O9.out.sh (by have := HFL.out; rw [List.length_append, List.length_append, List.length_append, HE1.out, HE2.out, HNM.out, HXL.out]; omega)).mono ?_; rintro e w10 ⟨rfl, hh10, hb10⟩; have H10 := Lib.hid hh10; have B10 := Lib.hid hb10; clear hh10 hb10))
            refine ⟨⟨j + 1, by omega, by go_num, by rw [HNX.out, HBY.out]; exact H10.out, ?_⟩, by simp [intOf]; omega⟩
            exact ((((B2.out.trans (B6.out.mono (by omega))).trans (HHE.out.mono (by omega))).trans (B9.out.mono (by omega))).trans B10.out)
          exact AllReadyH.nil
        exact AllReadyH.nil
      · have hjl : j = L.length := by omega
        have hnI : ¬ (j : Int) < (L.length : Int) := by omega
        have H3 : Hid (HashIs wr.drew h0 (L.flatMap It.bytes)) := by have := H2.out; rw [hjl, List.take_length] at this; exact this
        have HFL2 : Hid ((L.flatMap It.bytes).length ≤ 1000100000000) := by have := HFL.out; rw [hjl, List.take_length] at this; exact this
        have hw1B := B1.out.size
        have hh0e := HH0.out
        have G3 : Hid (Glob wr.drew) := (Glob.below G1.out B2.out (by omega) : Glob wr)
        have HB0 := Lib.hid (B1.out.trans B2.out)
        have T3 := Lib.hid (HT.out.below HB0.out (by omega))
        have h0r := H3.out.lt
        have hbr : b < wr.heap.size := T3.out.row.lt
        clear hlt hjl hj hh0e
        go_upto_region 9 with fail
        refine wp_region_any (by kernel_rfl) ?_
        try (change wpAny _ _ _ _ _ _ _ (World.drew _))
        refine wpAny_take (i := 0) (v := ?_) (by simp only [List.getElem?_toArray, List.getElem?_cons_zero, List.getElem?_cons_succ] <;> rfl) (by kernel_rfl) (by kernel_rfl) (by kernel_rfl) (by intro _ _ _ h; exact h) (Or.inl ⟨by rfl, ?_⟩) ?_
        rotate_left
        · intro w; go_simp; try with_reducible rfl
        try simp only [Act.put, List.setIfInBounds_toArray, List.set_cons_zero, List.set_cons_succ, Array.replicate]
        refine wpAny_take (i := 1) (v := ?_) (by simp only [List.getElem?_toArray, List.getElem?_cons_zero, List.getElem?_cons_succ] <;> rfl) (by kernel_rfl) (by kernel_rfl) (by kernel_rfl) (by intro _ _ _ h; exact h) (Or.inl ⟨by rfl, ?_⟩) ?_
        rotate_left
        · intro w; go_simp; try with_reducible rfl
        try simp only [Act.put, List.setIfInBounds_toArray, List.set_cons_zero, List.set_cons_succ, Array.replicate]
        refine wpAny_take (i := 2) (v := ?_) (by simp only [List.getElem?_toArray, List.getElem?_cons_zero, List.getElem?_cons_succ] <;> rfl) (by kernel_rfl) (by kernel_rfl) (by kernel_rfl) (by intro _ _ _ h; exact h) (Or.inl ⟨by rfl, ?_⟩) ?_
        rotate_left
        · intro w; go_simp; try with_reducible rfl
        try simp only [Act.put, List.setIfInBounds_toArray, List.set_cons_zero, List.set_cons_succ, Array.replicate]
        refine wpAny_take (i := 4) (v := ?_) (by simp only [List.getElem?_toArray, List.getElem?_cons_zero, List.getElem?_cons_succ] <;> rfl) (by kernel_rfl) (by kernel_rfl) (by kernel_rfl) (by intro _ _ _ h; exact h) (Or.inl ⟨by rfl, ?_⟩) ?_
        rotate_left
        · intro w; go_simp; try with_reducible rfl
        try simp only [Act.put, List.setIfInBounds_toArray, List.set_cons_zero, List.set_cons_succ, Array.replicate]
        refine wpAny_take (i := 5) (v := ?_) (by simp only [List.getElem?_toArray, List.getElem?_cons_zero, List.getElem?_cons_succ] <;> rfl) (by kernel_rfl) (by kernel_rfl) (by kernel_rfl) (by intro _ _ _ h; exact h) (Or.inl ⟨by rfl, ?_⟩) ?_
        rotate_left
        · intro w; go_simp; try with_reducible rfl
        try simp only [Act.put, List.setIfInBounds_toArray, List.set_cons_zero, List.set_cons_succ, Array.replicate]
        refine wpAny_ready (rs := [3]) (by kernel_rfl) (by simp) ?_
        refine AllReady.cons (by simp only [List.getElem?_toArray, List.getElem?_cons_zero, List.getElem?_cons_succ] <;> rfl) (fun K hK => ?_) ?_
        · go_simp; go_at_call 31; with_reducible refine (Sumh_any h0 (L.flatMap It.bytes) _ G3.out (by omega) H3.out (Nat.le_trans HFL2.out (by decide))).mono ?_; rintro e w4 ⟨rfl, hb4⟩; try go_simp
          refine hK _ _ ?_
          clear hK K
          try simp only [Act.put, List.setIfInBounds_toArray, List.set_cons_zero, List.set_cons_succ, Array.replicate]
          refine wpAny_take (i := 6) (v := ?_) (by simp only [List.getElem?_toArray, List.getElem?_cons_zero, List.getElem?_cons_succ] <;> rfl) (by kernel_rfl) (by kernel_rfl) (by kernel_rfl) (by intro _ _ _ h; exact h) (Or.inl ⟨by rfl, ?_⟩) ?_
          rotate_left
          · intro w; go_simp; try with_reducible rfl
          try simp only [Act.put, List.setIfInBounds_toArray, List.set_cons_zero, List.set_cons_succ, Array.replicate]
          refine wpAny_ready (rs := [7]) (by kernel_rfl) (by simp) ?_
          refine AllReady.cons (by simp only [List.getElem?_toArray, List.getElem?_cons_zero, List.getElem?_cons_succ] <;> rfl) (fun K hK => ?_) ?_
          · have hb5 : Below wr.heap.size wr w4 := (Below.refl _ wr).drew.trans hb4; have hT1 := T3.out.below hb5 (Nat.le_refl _); refine step_sum_mid rfl (.tmp 58) (.tmp 55) rfl b (16 + i * 32) rfl (Sha.sum (L.flatMap It.bytes)) rfl (Sha.sum_length _) _ _ hT1.row (by rw [hT1.ok.len]; omega) ?_; have HF : Hid (Tr (w4.setCells b (16 + i * 32) (bytes (Sha.sum (L.flatMap It.bytes)))) B b (T.setS i (Tre.leafSum L))) := (by have h9 := HFIN.out _ hT1; rw [show bytes (Tre.leafSum L) = bytes (Sha.sum (L.flatMap It.bytes)) from congrArg bytes HLS.out] at h9; exact h9); have HBe : Hid (Below B w (w4.setCells b (16 + i * 32) (bytes (Sha.sum (L.flatMap It.bytes))))) := below_setCells ((HB0.out.mono (by omega)).trans (hb5.mono (by omega))) b _ _ hbB; have HKe : Hid (Kpt St w (w4.setCells b (16 + i * 32) (bytes (Sha.sum (L.flatMap It.bytes))))) := ((Kpt.of_below (by rw [HH0.out]; exact HB0.out)).trans (Kpt.of_below hb5)).trans (kpt_setCells hT1.row st_tree _ _); clear hT1 hb5
            refine hK _ _ ?_
            clear hK K
            try simp only [Act.put, List.setIfInBounds_toArray, List.set_cons_zero, List.set_cons_succ, Array.replicate]
            refine wpAny_done (by kernel_rfl) ?_ _
            go_end0
            exact ⟨rfl, HF.out, HBe.out, HKe.out⟩
          exact AllReady.nil
        exact AllReady.nil
end Go.Proofs.YticabllkadpmeaaGreatDoor
