/- The walk of ShellShows. (printed by gen/tshb.py) -/
import Derived.Test.YtojoeaaodomfnaaGreatDoorTShP
namespace Go.Proofs.YtojoeaaodomfnaaGreatDoor
set_option linter.unusedVariables false
set_option linter.unusedSimpArgs false
set_option linter.unnecessarySimpa false
open Go.RowKit
set_option maxRecDepth 100000
set_option maxHeartbeats 4000000
theorem ShellShows_walk (e : Shl.Ev) (hok : EvOk e) (at_ ep : Int) (ae : Option Addr) (ne ce : Nat) (at2 : Option Addr) (nt ct : Nat) (hne : ne ≤ 9223372036854775807 ∧ ce ≤ 9223372036854775807 ∧ (ae = none → ce = 0)) (hnt : nt ≤ 9223372036854775807 ∧ ct ≤ 9223372036854775807 ∧ (at2 = none → ct = 0))
    (hsj : e.subj.length ≤ 140737488351232) (htx : e.text.length ≤ 140737488351232) (w : World) (hg : Gl w) :
    Calls Tryz.prog 3 #[.agg (evW e at_ ep (.slice ae ne ce) (.slice at2 nt ct)).toArray] w fun e w' => e = .returned (.bool true) ∧ Below w.heap.size w w' := by
  have HG := Lib.hid hg
  have HLV := Lib.hid lives_any
  obtain ⟨se, hse⟩ : ∃ se, Value.slice ae ne ce = se := ⟨_, rfl⟩
  obtain ⟨st, hst⟩ : ∃ st, Value.slice at2 nt ct = st := ⟨_, rfl⟩
  have HSE := Lib.hid hse
  have HST := Lib.hid hst
  rw [hse, hst]
  clear hse hst hg
  have hl1 : (bs e.subj).size = e.subj.length := rfl
  have hl2 : (bs e.text).size = e.text.length := rfl
  by_cases hbig : 3000 < e.subj.length + e.text.length
  · have hbI : (3000 : Int) < (e.subj.length : Int) + (e.text.length : Int) := by omega
    go_enter Tryz.func3, Tryz.ntmps3
    go_upto_region 1 with fail
    obtain ⟨W, hW⟩ : ∃ W, w.alloc (.cells (evW e at_ ep se st).toArray 28) = W := ⟨_, rfl⟩
    have R0 : Hid (Row W w.heap.size 28 (evW e at_ ep se st)) := by rw [← hW]; exact Row.new w _ _
    have B0 : Hid (Below w.heap.size w W) := by rw [← hW]; exact balloc (Below.refl _ _) _
    rw [hW]
    clear hW
    have x4 := R0.out.cell 4
    have x5 := R0.out.cell 5
    simp only [evW, List.getElem?_cons_succ, List.getElem?_cons_zero] at x4 x5
    obtain ⟨Z, hZ⟩ : ∃ Z, evW e at_ ep se st = Z := ⟨_, rfl⟩
    rw [hZ] at R0
    clear hZ
    go_wp2_with (go_at_call 6; refine (HLV.out _ (HG.out.keep B0.out)).mono ?_; rintro e w1 ⟨rfl, hb1⟩; have B1 := Lib.hid (B0.out.trans (hb1.mono B0.out.size)); clear hb1)
    go_ret
    exact ⟨rfl, B1.out⟩
  have hbI : ¬ (3000 : Int) < (e.subj.length : Int) + (e.text.length : Int) := by omega
  have hsh : ∀ w1, Gl w1 → Calls Tryz.prog 7 #[.agg (evW e at_ ep se st).toArray] w1 fun en w' => en = .returned (showV e at_ ep ne nt) ∧ Below w1.heap.size w1 w' := fun w1 h1 => by
    rw [← HSE.out, ← HST.out]; exact Show_any e hok.1 hok.2.1 hok.2.2.1 (by omega) at_ ep ae at2 ne ce nt ct hne.1 hnt.1 w1 h1
  have hlen : ∀ v ∈ Shl.verbs, (Shl.lineOf v e).length ≤ 4000404 := fun v hv => Shl.lineOf_len e hok.1 hok.2.1 hok.2.2.1 (by omega) v hv
  unfold showV at hsh
  cases hf : Shl.verbs.find? (hitB e at_ ep ne nt) with
  | none =>
    rw [hf] at hsh
    simp only [] at hsh
    go_enter Tryz.func3, Tryz.ntmps3
    go_upto_region 1 with fail
    obtain ⟨W, hW⟩ : ∃ W, w.alloc (.cells (evW e at_ ep se st).toArray 28) = W := ⟨_, rfl⟩
    have R0 : Hid (Row W w.heap.size 28 (evW e at_ ep se st)) := by rw [← hW]; exact Row.new w _ _
    have B0 : Hid (Below w.heap.size w W) := by rw [← hW]; exact balloc (Below.refl _ _) _
    rw [hW]
    clear hW
    have x4 := R0.out.cell 4
    have x5 := R0.out.cell 5
    simp only [evW, List.getElem?_cons_succ, List.getElem?_cons_zero] at x4 x5
    obtain ⟨Z, hZ⟩ : ∃ Z, evW e at_ ep se st = Z := ⟨_, rfl⟩
    rw [hZ] at R0
    have HZL : Hid (Z.length = 11) := by rw [← hZ]; exact (rfl : (evW e at_ ep se st).length = 11)
    rw [hZ] at hsh
    have HSH := Lib.hid hsh
    clear hsh hZ hf hlen
    go_wp2_with (first
      | (refine load_box rfl 28 (.tmp 1) (by rfl) w.heap.size (by rfl) Z 28 R0.out _ Tryz.underlying28 rfl (by rw [HZL.out]; kernel_rfl) ?_)
      | (go_at_call 7; refine (HSH.out _ (HG.out.keep B0.out)).mono ?_; rintro e w1 ⟨rfl, hb1⟩; have B1 := Lib.hid (B0.out.trans (hb1.mono B0.out.size)); clear hb1)
      | (go_at_call 6; refine (HLV.out _ (HG.out.keep B1.out)).mono ?_; rintro e w2 ⟨rfl, hb2⟩; have B2 := Lib.hid (B1.out.trans (hb2.mono B1.out.size)); clear hb2))
    go_ret
    exact ⟨rfl, B2.out⟩
  | some v =>
    rw [hf] at hsh
    simp only [] at hsh
    have hv := List.mem_of_find?_eq_some hf
    have hh := List.find?_some hf
    obtain ⟨L, hL⟩ : ∃ L, Shl.lineOf v e = L := ⟨_, rfl⟩
    have hLl : L.length ≤ 4000404 := by rw [← hL]; exact hlen v hv
    rw [hL] at hsh
    have hE : Shl.parseL L = .inr e ∧ at_ = 0 ∧ ep = 0 ∧ ne = 0 ∧ nt = 0 := by
      unfold hitB at hh
      rw [hL] at hh
      have h2 := ((Bool.and_eq_true _ _).mp hh).2
      cases hp : Shl.parseL L with
      | inl n => rw [hp] at h2; cases h2
      | inr x =>
        rw [hp] at h2
        have h3 := of_decide_eq_true (show decide (x = e ∧ at_ = 0 ∧ ep = 0 ∧ ne = 0 ∧ nt = 0) = true from h2)
        exact ⟨by rw [h3.1], h3.2⟩
    obtain ⟨hpe, rfl, rfl, rfl, rfl⟩ := hE
    have hpp := fun w1 h1 => Parse_any (bs L) (by rw [bs_size]; omega) w1 h1
    rw [bs_data, hpe] at hpp
    have h0 : Nil0 se := by rw [← HSE.out]; exact ⟨ae, ce, rfl, hne.2⟩
    have h1 : Nil0 st := by rw [← HST.out]; exact ⟨at2, ct, rfl, hnt.2⟩
    have hsm : ∀ w1, Calls Tryz.prog 9 #[.agg (evC e).toArray, .agg (evW e 0 0 se st).toArray] w1 fun en w' => en = .returned (.bool true) ∧ Below w1.heap.size w1 w' := fun w1 => lsame_any e 0 0 _ _ se st nil0 nil0 h0 h1 w1
    go_enter Tryz.func3, Tryz.ntmps3
    go_upto_region 1 with fail
    obtain ⟨W, hW⟩ : ∃ W, w.alloc (.cells (evW e 0 0 se st).toArray 28) = W := ⟨_, rfl⟩
    have R0 : Hid (Row W w.heap.size 28 (evW e 0 0 se st)) := by rw [← hW]; exact Row.new w _ _
    have B0 : Hid (Below w.heap.size w W) := by rw [← hW]; exact balloc (Below.refl _ _) _
    rw [hW]
    clear hW
    have x4 := R0.out.cell 4
    have x5 := R0.out.cell 5
    simp only [evW, List.getElem?_cons_succ, List.getElem?_cons_zero] at x4 x5
    obtain ⟨Z, hZ⟩ : ∃ Z, evW e 0 0 se st = Z := ⟨_, rfl⟩
    rw [hZ] at R0
    have HZL : Hid (Z.length = 11) := by rw [← hZ]; exact (rfl : (evW e 0 0 se st).length = 11)
    obtain ⟨Y, hY⟩ : ∃ Y, evC e = Y := ⟨_, rfl⟩
    have HYL : Hid (Y.length = 11) := by rw [← hY]; exact (rfl : (evC e).length = 11)
    have HY1 : Hid (∀ u ∈ Y, u.oneCell' = true) := by rw [← hY]; exact evOne e
    simp only [parseV, evV, hY] at hpp
    rw [hZ] at hsh hsm
    rw [hY] at hsm
    have HSH := Lib.hid hsh
    have HPP := Lib.hid hpp
    have HSM := Lib.hid hsm
    clear hsh hpp hsm hZ hY hf hlen hh hpe h0 h1 hL
    go_upto_region 6 with (first
      | (refine load_box rfl 28 (.tmp 1) (by rfl) w.heap.size (by rfl) Z 28 R0.out _ Tryz.underlying28 rfl (by rw [HZL.out]; kernel_rfl) ?_)
      | (go_at_call 7; refine (HSH.out _ (HG.out.keep B0.out)).mono ?_; rintro e w1 ⟨rfl, hb1⟩; have B1 := Lib.hid (B0.out.trans (hb1.mono B0.out.size)); have R1 := Lib.hid (R0.out.keep hb1); clear hb1))
    go_upto_region 7 with (first
      | (go_at_call 8; refine (HPP.out _ (HG.out.keep B1.out)).mono ?_; rintro e w2 ⟨rfl, hb2⟩; have B2 := Lib.hid (B1.out.trans (hb2.mono B1.out.size)); have Q2 := Lib.hid (R1.out.keep hb2); have hs2 := B2.out.size; have hl2 := Q2.out.lt; clear hb2)
      | (refine store_box rfl 28 (.tmp 5) (.tmp 33) (by rfl) w2.heap.size (by rfl) Y (by rfl) 28 (evC ev00) (Row.new w2 _ _) (by rw [HYL.out]; rfl) (by rw [HYL.out]; kernel_rfl) HY1.out ?_; intro w3 hr3 hu3; have R3 := Lib.hid hr3; have B3 := Lib.hid (Upd.below' (B2.out.alloc hs2 _) hu3 hs2 (by simp; omega)); have Q3 := Lib.hid (hu3.row (Q2.out.alloc _) (by omega)); clear hr3 hu3))
    go_wp2_with (first
      | (refine load_box_g (by kernel_rfl) 28 (.tmp 5) rfl w2.heap.size rfl Y 28 R3.out _ Tryz.underlying28 rfl (by rw [HYL.out]; kernel_rfl) ?_)
      | (refine load_box_g (by kernel_rfl) 28 (.tmp 1) rfl w.heap.size rfl Z 28 Q3.out _ Tryz.underlying28 rfl (by rw [HZL.out]; kernel_rfl) ?_)
      | (go_at_call 9; refine (HSM.out _).mono ?_; rintro e w4 ⟨rfl, hb4⟩; have B4 := Lib.hid (B3.out.trans (hb4.mono B3.out.size)); clear hb4)
      | (go_at_call 6; refine (HLV.out _ (HG.out.keep B4.out)).mono ?_; rintro e w5 ⟨rfl, hb5⟩; have B5 := Lib.hid (B4.out.trans (hb5.mono B4.out.size)); clear hb5))
    go_ret
    exact ⟨rfl, B5.out⟩
end Go.Proofs.YtojoeaaodomfnaaGreatDoor
