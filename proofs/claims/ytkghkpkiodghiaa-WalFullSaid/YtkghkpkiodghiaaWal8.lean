/- The law WalFull. -/
import Derived.Test.YtkghkpkiodghiaaWal7
import Derived.Test.YtkghkpkiodghiaaDsk5
namespace Go.Proofs.Ytkghkpkiodghiaa
set_option linter.unusedVariables false
set_option linter.unusedSimpArgs false
set_option linter.unnecessarySimpa false
open Go.RowKit
set_option maxRecDepth 100000
set_option maxHeartbeats 4000000

theorem WalFull_walk (L : Int) (lv : Value) (As : List WD) (w : World) (hL0 : 0 ≤ L) (hL1 : L < 65536) (hA : ActsW w lv As) (hn : As.length ≤ 10000000000000) (hB : ∀ i, i < As.length → (As.getD i dWD).B.length ≤ 140737488355328) :
    Calls Try.prog 3 #[.int .u16 L, lv] w fun e w' => e = .returned (.bool true) ∧ Below w.heap.size w w' := by
  obtain ⟨xa, ka, rfl, hka, -⟩ := hA.open
  have HA := Lib.hid hA
  have HBB := Lib.hid hB
  clear hA hB
  have hw1 := IntWalk.i64_in L ⟨by omega, by omega⟩
  go_enter Try.func3, Try.ntmps3
  go_wp2_with fail
  refine (New_any L _).mono ?_; rw [if_neg (show ¬ L < 0 by omega), if_neg (show ¬ 16777216 < L by omega)]; rintro e w1 ⟨rfl, hd1, hb1, hs1⟩
  have HD1 := Lib.hid hd1
  have HB1 := Lib.hid hb1
  clear hd1 hb1
  have HL1 := Lib.hid (LogS.new L hL0)
  go_wp2_with fail
  refine (HL1.out.open HD1.out (by omega) (by simp) (by simp)).mono ?_
  rintro e w2 ⟨q, rv, rfl, hq2, ho2, hb2, hlq⟩
  obtain ⟨x2, c2, rfl, -⟩ := ho2.bss.open
  have HQ2 := Lib.hid hq2
  have HD2 := Lib.hid (HD1.out.keepB hb2)
  have HB2 := Lib.hid (bthen HB1.out hb2 (Nat.le_refl _))
  clear hq2 ho2 hb2
  have HLQ := Lib.hid hlq
  clear hw1 HD1 HB1
  go_wp2_with fail
  obtain ⟨h, hh⟩ : ∃ h, w2.heap.size + 1 = h := ⟨_, rfl⟩
  obtain ⟨kk, hkk⟩ : ∃ kk, w2.heap.size = kk := ⟨_, rfl⟩
  have hba := balloc (balloc (Below.refl w2.heap.size w2) (.cells #[.bool false, .slice none 0 0, .slice x2 0 c2, .int .u64 0] 31)) (.cells #[.bool false, .slice none 0 0, .slice none 0 0] 36)
  have RM : Row ((w2.alloc (.cells #[.bool false, .slice none 0 0, .slice x2 0 c2, .int .u64 0] 31)).alloc (.cells #[.bool false, .slice none 0 0, .slice none 0 0] 36)) (w2.heap.size + 1) 36 [.bool false, .slice none 0 0, .slice none 0 0] := by
    have := Row.new (w2.alloc (.cells #[.bool false, .slice none 0 0, .slice x2 0 c2, .int .u64 0] 31)) 36 [.bool false, .slice none 0 0, .slice none 0 0]
    rw [World.size_alloc] at this
    exact this
  have HD3 := Lib.hid (HD2.out.keepB hba)
  have HQ3 := Lib.hid (show WalR _ q w.heap.size 0 from HQ2.out.keep hba)
  have HB3 := Lib.hid (bthen HB2.out hba (by have := HB2.out.size; omega))
  have HLT := Lib.hid (show w.heap.size < w2.heap.size + 1 by have := HB2.out.size; omega)
  have HQH := Lib.hid (show q < w2.heap.size + 1 by have := HQ2.out.lt; omega)
  have HRM := Lib.hid RM
  clear RM HD2 HQ2 HB2 hba hh hkk
  generalize ((w2.alloc (.cells #[.bool false, .slice none 0 0, .slice x2 0 c2, .int .u64 0] 31)).alloc (.cells #[.bool false, .slice none 0 0, .slice none 0 0] 36)) = w3 at *
  generalize hhh : w2.heap.size + 1 = h at *
  clear hhh
  have hgp : w.heap.size < q := by have := HLQ.out; omega
  have HGP := Lib.hid hgp
  clear hgp HLQ hlq hs1
  generalize hg : w.heap.size = p at *
  have HG := Lib.hid hg
  clear hg
  go_loopw [10] (fun iv wr => ∃ (j : Nat) (S : PD) (rs : List (List UInt8)) (xr : Option Addr) (cr : Nat), j ≤ As.length ∧ iv = .int .i64 (j : Int) ∧ j ≤ 40 ∧ Dsk wr p S ∧ LogS S L rs ∧ WalR wr q p rs.length ∧ Row wr h 36 [.bool false, .slice none 0 0, .slice xr rs.length cr] ∧ ModL w wr (.slice xr rs.length cr) rs ∧ rs.length ≤ j ∧ (∀ r ∈ rs, r.length ≤ 3000) ∧ Below p w wr) (fun iv _ => As.length - (intOf iv).toNat)
  case atStart => exact ⟨0, _, [], none, 0, by omega, rfl, by omega, HD3.out, HL1.out, HQ3.out, HRM.out, ModL.nil _ _, by simp, by simp, HB3.out⟩
  case round =>
    obtain ⟨j, S, rs, xr, cr, hj, rfl, hj40, hd, hls, hq, hm, hbs, hrl, hr3, hbel⟩ := hrel
    have HD := Lib.hid hd
    have HLS := Lib.hid hls
    have HQ := Lib.hid hq
    have HM := Lib.hid hm
    have HML := Lib.hid hbs
    have HR3 := Lib.hid hr3
    have HB := Lib.hid hbel
    clear hd hls hq hm hbs hr3 hbel
    have hcase : (j < As.length ∧ j < 40) ∨ j = As.length ∨ (j < As.length ∧ ¬ j < 40) := by omega
    rcases hcase with ⟨hjl, hj6⟩ | rfl | ⟨hjl, hj6⟩
    · obtain ⟨b, off, rfl, ov, c0, c1, c2, hsu⟩ := HA.out.at hjl
      have hbl : b < p := by rw [← HG.out]; exact blt c0
      have c0' := bcell HB.out c0 hbl
      have c1' := bcell HB.out c1 hbl
      have c2' := bcell HB.out c2 hbl
      have hbb := HBB.out j hjl
      have HSU := Lib.hid (hsu.at' HB.out (Nat.le_of_eq HG.out))
      have HS0 := Lib.hid hsu
      clear c0 c1 c2 hsu
      generalize As.getD j dWD = A at *
      obtain ⟨K, N, B⟩ := A
      simp only at c0' c1' c2' hbb HSU HS0
      obtain ⟨xo, ko, rfl, -⟩ := HSU.out.open
      have hjI : (j : Int) < (As.length : Int) := by omega
      have hj6I : (j : Int) < 40 := by omega
      have hbA : Below wr.heap.size wr ((wr.alloc (.cells #[.int .i64 0, .int .i64 N, .slice xo B.length ko] 38)).alloc (.cells #[] 5)) := balloc (balloc (Below.refl _ _) _) _
      have RA : Row ((wr.alloc (.cells #[.int .i64 0, .int .i64 N, .slice xo B.length ko] 38)).alloc (.cells #[] 5)) wr.heap.size 38 [.int .i64 0, .int .i64 N, .slice xo B.length ko] := Row.alloc (Row.new wr _ [.int .i64 0, .int .i64 N, .slice xo B.length ko]) _
      have RE : Row ((wr.alloc (.cells #[.int .i64 0, .int .i64 N, .slice xo B.length ko] 38)).alloc (.cells #[] 5)) (wr.heap.size + 1) 5 [] := by
        have := Row.new (wr.alloc (.cells #[.int .i64 0, .int .i64 N, .slice xo B.length ko] 38)) 5 []
        rw [World.size_alloc] at this
        exact this
      have HBA := Lib.hid hbA
      have HRA := Lib.hid RA
      have HRE := Lib.hid RE
      have hlh := HM.out.lt
      have hps : p ≤ wr.heap.size := by have := HB.out.size; have := HG.out; omega
      have hlq := HQ.out.lt
      have hln := HLS.out.room
      have hl2 := HLS.out.lim
      have hl3 := HLS.out.left
      have hl4 := HLS.out.n1
      have hbt : (B.take 3000).length ≤ 3000 := by rw [List.length_take]; omega
      obtain ⟨S', n', e', hw, hc⟩ := wapp_log S L rs (B.take 3000) HLS.out
      have HW := Lib.hid hw
      clear hbA RA RE hw
      rcases hc with ⟨rfl, rfl, hL'⟩ | ⟨rfl, rfl, hL', -⟩
      · have HL' := Lib.hid hL'
        clear hL'
        go_wp2_with (first
          | (go_at_call 9; refine (bytes_act 0 N xo ko B _ (HSU.out.below HBA.out) hbb).mono ?_; rintro e w4 ⟨rfl, hb4⟩; have B4 := Lib.hid (HBA.out.trans (hb4.mono HBA.out.size)); have A4 := Lib.hid (HRA.out.keep hb4); have E4 := Lib.hid (HRE.out.keep hb4); have SS4 := HSU.out.below B4.out |>.taken; rw [List.length_take] at SS4; have H4 := Lib.hid SS4; clear SS4 hb4)
          | (at_builtin; refine app_own_w Try.underlying27 info_byte (by with_unfolding_all rfl) (.tmp 47) (.tmp 49) rfl rfl E4.out rfl H4.out (by omega) ?_; intro v5 w5 ho5 hb5; have O5 := Lib.hid ho5; have B5 := Lib.hid (B4.out.trans (hb5.mono B4.out.size)); have A5 := Lib.hid (A4.out.keep hb5); clear ho5 hb5)
          | (go_at_call 8; go_loud (refine (Append_any q p rs.length _ (B.take 3000) S _ (HQ.out.keep B5.out) (HD.out.keepB B5.out) O5.out.sh (by omega) (by omega) (by have := HGP.out; omega) (by rw [hl3]; decide) (by rw [hl4]; simp; omega) (by omega)).mono ?_; rw [HW.out]; rintro e w6 ⟨rfl, hd6, hq6, v6, hu6, hx6⟩; have M6 := Lib.hid (hx6.row (hu6.row (HM.out.keep B5.out) (by have := HLT.out; omega)) (by have := HQH.out; omega)); have A6 := Lib.hid (hx6.row (hu6.row A5.out (by have := HLT.out; omega)) (by have := HQH.out; omega)); have m0 := Row.cell M6.out 0; have m1 := Row.cell M6.out 1; have m2 := Row.cell M6.out 2; have a0 := Row.cell A6.out 0; have a1 := Row.cell A6.out 1; have a2 := Row.cell A6.out 2; simp only [List.getElem?_cons_succ, List.getElem?_cons_zero] at m0 m1 m2 a0 a1 a2; have L6 := Lib.hid ((((HML.out.below B5.out).upd hu6 (HD.out.keepB B5.out).rowC.choose_spec (by decide)).upd hx6 (hu6.row (show Row w5 q 71 _ from HQ.out.keep B5.out) (by have := HGP.out; omega)) (by decide))); have BB6 := Lib.hid (((HB.out.trans (B5.out.mono hps)).trans (hu6.below (Nat.le_refl _) (by have := B5.out.size; omega))).trans (hx6.below (by have := HGP.out; omega) (by have := B5.out.size; have := hu6.sizeLe; omega))); have D6 := Lib.hid hd6; have Q6 := Lib.hid hq6; clear hu6 hx6 hd6 hq6))
          | (go_at_call 10; refine (after0 w N xo none xr ko 0 0 cr false B rs _ (HS0.out.at' BB6.out (Nat.le_of_eq HG.out)) hbb L6.out HS0.out (by omega)).mono ?_; rintro e w7 ⟨v7, rfl, hl7, hb7⟩; obtain ⟨x7, c7, rfl⟩ := hl7.open; have M7 := Lib.hid (M6.out.keep hb7); have z0 := Row.cell M7.out 0; have z1 := Row.cell M7.out 1; have z2 := Row.cell M7.out 2; simp only [List.getElem?_cons_succ, List.getElem?_cons_zero] at z0 z1 z2; have f0 := Row.frozen M7.out 0; have f1 := Row.frozen M7.out 1; have f2 := Row.frozen M7.out 2; have L7 := Lib.hid hl7; have B7 := Lib.hid hb7; clear hl7 hb7))
        have U8 := (((Upd.set h 0 w7 (.bool false)).trans (Upd.set h 1 _ (.slice none 0 0))).trans (Upd.set h 2 _ (.slice x7 (rs.length + 1) c7)))
        have hln7 : (rs ++ [B.take 3000]).length = rs.length + 1 := by simp
        have L7' := L7.out
        rw [hln7] at L7'
        have hb68 : Below p w w7 := BB6.out.trans (B7.out.mono (by have := BB6.out.size; have := HG.out; omega))
        exact ⟨⟨j + 1, S', rs ++ [B.take 3000], x7, c7, by omega, by go_num, by omega, (D6.out.keepB B7.out).updO M7.out (by decide) (by have := HLT.out; omega) U8, HL'.out, (by rw [hln7]; exact U8.row (show Row w7 q 71 _ from Q6.out.keep B7.out) (by have := HQH.out; omega)), (by rw [hln7]; exact Row.set (Row.set (Row.set M7.out 0 _) 1 _) 2 _), (by rw [hln7]; exact L7'.upd U8 M7.out (by decide)), by rw [hln7]; omega, (fun r hr => by rcases List.mem_append.1 hr with h1 | h1; exact HR3.out r h1; simp only [List.mem_singleton] at h1; rw [h1]; exact hbt), hb68.trans (U8.below (by have := HLT.out; omega) (by have := BB6.out.size; have := B7.out.size; have := HG.out; omega))⟩, by simp [intOf]; omega⟩
      · have HL' := Lib.hid hL'
        clear hL'
        go_wp2_with (first
          | (go_at_call 9; refine (bytes_act 0 N xo ko B _ (HSU.out.below HBA.out) hbb).mono ?_; rintro e w4 ⟨rfl, hb4⟩; have B4 := Lib.hid (HBA.out.trans (hb4.mono HBA.out.size)); have A4 := Lib.hid (HRA.out.keep hb4); have E4 := Lib.hid (HRE.out.keep hb4); have SS4 := HSU.out.below B4.out |>.taken; rw [List.length_take] at SS4; have H4 := Lib.hid SS4; clear SS4 hb4)
          | (at_builtin; refine app_own_w Try.underlying27 info_byte (by with_unfolding_all rfl) (.tmp 47) (.tmp 49) rfl rfl E4.out rfl H4.out (by omega) ?_; intro v5 w5 ho5 hb5; have O5 := Lib.hid ho5; have B5 := Lib.hid (B4.out.trans (hb5.mono B4.out.size)); have A5 := Lib.hid (A4.out.keep hb5); clear ho5 hb5)
          | (go_at_call 8; go_loud (refine (Append_any q p rs.length _ (B.take 3000) S _ (HQ.out.keep B5.out) (HD.out.keepB B5.out) O5.out.sh (by omega) (by omega) (by have := HGP.out; omega) (by rw [hl3]; decide) (by rw [hl4]; simp; omega) (by omega)).mono ?_; rw [HW.out]; rintro e w6 ⟨rfl, hd6, hq6, v6, hu6, hx6⟩; have M6 := Lib.hid (hx6.row (hu6.row (HM.out.keep B5.out) (by have := HLT.out; omega)) (by have := HQH.out; omega)); have A6 := Lib.hid (hx6.row (hu6.row A5.out (by have := HLT.out; omega)) (by have := HQH.out; omega)); have m0 := Row.cell M6.out 0; have m1 := Row.cell M6.out 1; have m2 := Row.cell M6.out 2; have a0 := Row.cell A6.out 0; have a1 := Row.cell A6.out 1; have a2 := Row.cell A6.out 2; simp only [List.getElem?_cons_succ, List.getElem?_cons_zero] at m0 m1 m2 a0 a1 a2; have L6 := Lib.hid ((((HML.out.below B5.out).upd hu6 (HD.out.keepB B5.out).rowC.choose_spec (by decide)).upd hx6 (hu6.row (show Row w5 q 71 _ from HQ.out.keep B5.out) (by have := HGP.out; omega)) (by decide))); have BB6 := Lib.hid (((HB.out.trans (B5.out.mono hps)).trans (hu6.below (Nat.le_refl _) (by have := B5.out.size; omega))).trans (hx6.below (by have := HGP.out; omega) (by have := B5.out.size; have := hu6.sizeLe; omega))); have D6 := Lib.hid hd6; have Q6 := Lib.hid hq6; clear hu6 hx6 hd6 hq6)))
        exact ⟨⟨j + 1, S', rs, xr, cr, by omega, by go_num, by omega, D6.out, HL'.out, Q6.out, M6.out, L6.out, by omega, HR3.out, BB6.out⟩, by simp [intOf]; omega⟩
    · skip
      have hp0 : HD.out = HD.out := rfl
      clear hp0
      have OP := HLS.out.open HD.out (by omega) HR3.out (by omega)
      skip
      have hps : p ≤ wr.heap.size := by have := HB.out.size; have := HG.out; omega
      go_wp2_with (first
        | (go_at_call 7; refine OP.mono ?_; rintro e w4 ⟨q4, rv4, rfl, hq4, ho4, hb4, hlq4⟩; obtain ⟨x4, c4, rfl, -⟩ := ho4.bss.open; have m0 := fun o => Row.cell (Row.alloc (HM.out.keep hb4) o) 0; have m1 := fun o => Row.cell (Row.alloc (HM.out.keep hb4) o) 1; have m2 := fun o => Row.cell (Row.alloc (HM.out.keep hb4) o) 2; simp only [List.getElem?_cons_succ, List.getElem?_cons_zero] at m0 m1 m2; have B4 := Lib.hid hb4; have O4 := Lib.hid ho4; have BB4 := Lib.hid (HB.out.trans (hb4.mono hps)); clear ho4 hb4)
        | (go_at_call 11; go_loud (refine (is_yes false _ _ _ _ _ [] rs _ (Sh.nil _) (Sh.nil _) ((HML.out.below (balloc B4.out _)).bss (by rw [HG.out]; exact balloc2 BB4.out _ (by have := BB4.out.size; have := HG.out; omega))) (O4.out.below (balloc (Below.refl _ _) _)).bss).mono ?_; rintro e w5 ⟨rfl, hb5⟩))
        | (go_at_call 12; refine (lives15 _).mono ?_; rintro e w9 ⟨rfl, hb9⟩))
      go_ret
      rw [HG.out]
      have h4s := BB4.out.size
      have h4p := HG.out
      exact ⟨rfl, bthen (bthen (balloc2 BB4.out _ (by omega)) hb5 (by omega)) hb9 (by omega)⟩
    · skip
      have hp0 : HD.out = HD.out := rfl
      clear hp0
      have OP := HLS.out.open HD.out (by omega) HR3.out (by omega)
      have hjI : (j : Int) < (As.length : Int) := by omega
      have hj6I : ¬ (j : Int) < 40 := by omega
      have hps : p ≤ wr.heap.size := by have := HB.out.size; have := HG.out; omega
      go_wp2_with (first
        | (go_at_call 7; refine OP.mono ?_; rintro e w4 ⟨q4, rv4, rfl, hq4, ho4, hb4, hlq4⟩; obtain ⟨x4, c4, rfl, -⟩ := ho4.bss.open; have m0 := fun o => Row.cell (Row.alloc (HM.out.keep hb4) o) 0; have m1 := fun o => Row.cell (Row.alloc (HM.out.keep hb4) o) 1; have m2 := fun o => Row.cell (Row.alloc (HM.out.keep hb4) o) 2; simp only [List.getElem?_cons_succ, List.getElem?_cons_zero] at m0 m1 m2; have B4 := Lib.hid hb4; have O4 := Lib.hid ho4; have BB4 := Lib.hid (HB.out.trans (hb4.mono hps)); clear ho4 hb4)
        | (go_at_call 11; go_loud (refine (is_yes false _ _ _ _ _ [] rs _ (Sh.nil _) (Sh.nil _) ((HML.out.below (balloc B4.out _)).bss (by rw [HG.out]; exact balloc2 BB4.out _ (by have := BB4.out.size; have := HG.out; omega))) (O4.out.below (balloc (Below.refl _ _) _)).bss).mono ?_; rintro e w5 ⟨rfl, hb5⟩))
        | (go_at_call 12; refine (lives15 _).mono ?_; rintro e w9 ⟨rfl, hb9⟩))
      go_ret
      rw [HG.out]
      have h4s := BB4.out.size
      have h4p := HG.out
      exact ⟨rfl, bthen (bthen (balloc2 BB4.out _ (by omega)) hb5 (by omega)) hb9 (by omega)⟩
end Go.Proofs.Ytkghkpkiodghiaa
