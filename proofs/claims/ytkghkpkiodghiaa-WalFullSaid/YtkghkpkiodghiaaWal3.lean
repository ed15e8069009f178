/- A log's Append. -/
import Derived.Test.YtkghkpkiodghiaaWal2
namespace Go.Proofs.Ytkghkpkiodghiaa
set_option linter.unusedVariables false
set_option linter.unusedSimpArgs false
set_option linter.unnecessarySimpa false
open Go.RowKit
set_option maxRecDepth 100000
set_option maxHeartbeats 4000000

theorem Dsk.rowC {w : World} {p : Nat} {S : PD} (hS : Dsk w p S) : ∃ C, Row w p 64 C := by
  obtain ⟨xa, ka, xb, kb, xc, kc, xd, kd, hR, -⟩ := hS
  exact ⟨_, hR⟩
theorem Dsk.updO {w w' : World} {p q t : Nat} {C : List Value} {S : PD} (hS : Dsk w p S) (hr : Row w q t C) (ht : 5 ≠ t) (hpq : p ≠ q) (hu : Upd q w w') : Dsk w' p S := by
  obtain ⟨xa, ka, xb, kb, xc, kc, xd, kd, hR, oa, ob, oc, od⟩ := hS
  exact ⟨xa, ka, xb, kb, xc, kc, xd, kd, hu.row hR hpq, hu.own oa hr ht, hu.own ob hr ht, hu.own oc hr ht, hu.own od hr ht⟩
theorem Dsk.keepB {w w' : World} {p : Nat} {S : PD} (hS : Dsk w p S) (hb : Below w.heap.size w w') : Dsk w' p S := by
  obtain ⟨xa, ka, xb, kb, xc, kc, xd, kd, hR, oa, ob, oc, od⟩ := hS
  exact ⟨xa, ka, xb, kb, xc, kc, xd, kd, hR.keep hb, oa.below hb, ob.below hb, oc.below hb, od.below hb⟩
/-- A record is put behind: the disk, the next number, the error. -/
def PD.wapp (S : PD) (n : Nat) (b : List UInt8) : PD × Nat × Nat :=
  if (S.write 0 (frameB (enc n ++ b))).2 ≠ 0 then ((S.write 0 (frameB (enc n ++ b))).1, n, (S.write 0 (frameB (enc n ++ b))).2)
  else if ((S.write 0 (frameB (enc n ++ b))).1.sync 0).2 ≠ 0 then (((S.write 0 (frameB (enc n ++ b))).1.sync 0).1, n, ((S.write 0 (frameB (enc n ++ b))).1.sync 0).2)
  else (((S.write 0 (frameB (enc n ++ b))).1.sync 0).1, n + 1, 0)
theorem leftC_le (x : Int) : leftC x ≤ x := by unfold leftC; split <;> omega
theorem write_bd (S : PD) (n : Int) (b : List UInt8) : (S.write n b).1.lim = S.lim ∧ (S.write n b).1.left ≤ S.left ∧ (S.write n b).1.n0.length + (S.write n b).1.n1.length ≤ S.n0.length + S.n1.length + b.length := by
  have hl := leftC_le S.left
  unfold PD.write
  split
  · exact ⟨rfl, Int.le_refl _, Nat.le_add_right _ _⟩
  · split
    · exact ⟨rfl, hl, Nat.le_add_right _ _⟩
    · split
      · exact ⟨rfl, hl, Nat.le_add_right _ _⟩
      · split
        · refine ⟨rfl, hl, ?_⟩
          simp [PD.tick]; omega
        · refine ⟨rfl, hl, ?_⟩
          simp [PD.tick]; omega
theorem Append_any (q p n : Nat) (vb : Value) (b : List UInt8) (S : PD) (w : World) (hq : WalR w q p n) (hS : Dsk w p S) (hb : Sh w vb b) (hn : n < 4611686018427387903) (hl : b.length ≤ 1000000) (hpq : p ≠ q) (hm : S.left ≤ 9223372036854775807) (ht : S.n0.length + S.n1.length ≤ 10000000000) (hlim : -1000000000000 ≤ S.lim ∧ S.lim ≤ 1000000000000) :
    Calls Try.prog 8 #[.pointer (some ⟨q, 0, none⟩), vb] w fun e w' => e = .returned (.int .i64 ((S.wapp n b).2.2 : Int)) ∧ Dsk w' p (S.wapp n b).1 ∧ WalR w' q p (S.wapp n b).2.1 ∧ Upd2 p q w w' := by
  have hbd := write_bd S 0 (frameB (enc n ++ b))
  have hel := enc_length n (by omega)
  have hns := nsize_le n
  have hfl := frameB_length (enc n ++ b) (by rw [List.length_append]; omega)
  have hns2 := nsize_le (enc n ++ b).length
  have hfb : (frameB (enc n ++ b)).length ≤ 2000000 := by rw [hfl, List.length_append]; rw [List.length_append] at hns2; omega
  unfold PD.wapp
  clear hel hns hfl hns2
  rcases hw : S.write 0 (frameB (enc n ++ b)) with ⟨S1, e1⟩
  rcases hs : S1.sync 0 with ⟨S2, e2⟩
  rw [hw] at hbd
  obtain ⟨b1, b2, b3⟩ := hbd
  dsimp only at b1 b2 b3
  have HM := Lib.hid hm
  have HT := Lib.hid ht
  have HLIM := Lib.hid hlim
  have HQ := Lib.hid hq
  have HS := Lib.hid hS
  have HB := Lib.hid hb
  have HW := Lib.hid hw
  have HSY := Lib.hid hs
  have HB1 := Lib.hid b1
  have HB2 := Lib.hid b2
  have HB3 := Lib.hid b3
  have HFB := Lib.hid hfb
  have HPQ := Lib.hid hpq
  clear hq hS hb hw hs b1 b2 b3 hm ht hlim hfb hpq
  have h0 := Row.cell HQ.out 0
  simp only [List.getElem?_cons_succ, List.getElem?_cons_zero] at h0
  go_enter Try.func8, Try.ntmps8
  by_cases he1 : e1 = 0
  · subst he1
    rw [if_neg (by simp)]
    by_cases he2 : e2 = 0
    · subst he2
      rw [if_neg (by simp)]
      have hwn : IntKind.u64.wrap ((n : Int) + 1) = ((n + 1 : Nat) : Int) := by rw [IntWalk.u64_in _ ⟨by omega, by omega⟩]; omega
      go_wp2_with (first
        | (go_at_call 27; refine (framed_any q p n _ b _ HQ.out HB.out (by omega) hl).mono ?_; rintro e w3 ⟨v3, rfl, ho3, hb3⟩; have R3 := Lib.hid (show WalR w3 q p n from HQ.out.keep hb3); have h03 := Row.cell R3.out 0; simp only [List.getElem?_cons_succ, List.getElem?_cons_zero] at h03; have O3 := Lib.hid ho3; have B3 := Lib.hid hb3; have D3 := Lib.hid (HS.out.keepB hb3); clear ho3 hb3)
        | (go_at_call 28; refine (Write_any p 0 _ (frameB (enc n ++ b)) S _ D3.out (fun w' hu => (hu.own O3.out D3.out.rowC.choose_spec (by decide)).sh) HM.out (by have := HT.out; omega) (by have := HFB.out; omega) HLIM.out).mono ?_; rw [HW.out]; rintro e w4 ⟨rfl, hd4, hu4⟩; have R4 := Lib.hid (show WalR w4 q p n from hu4.row R3.out HPQ.out.symm); have h04 := Row.cell R4.out 0; simp only [List.getElem?_cons_succ, List.getElem?_cons_zero] at h04; have D4 := Lib.hid hd4; have U4 := Lib.hid hu4; clear hd4 hu4)
        | (go_at_call 26; refine (Sync_any p 0 S1 _ D4.out (by have := HB2.out; have := HM.out; omega) (by have := HT.out; have := HB3.out; have := HFB.out; omega) (by rw [HB1.out]; exact HLIM.out)).mono ?_; rw [HSY.out]; rintro e w5 ⟨rfl, hd5, hu5⟩; have R5 := Lib.hid (show WalR w5 q p n from hu5.row R4.out HPQ.out.symm); have h15 := Row.cell R5.out 1; have hf5 := Row.frozen R5.out 1; simp only [List.getElem?_cons_succ, List.getElem?_cons_zero] at h15; have D5 := Lib.hid hd5; have U5 := Lib.hid hu5; clear hd5 hu5))
      go_ret
      have U6 : Upd q w5 (w5.setCell ⟨q, 1, none⟩ (.int .u64 ((n + 1 : Nat) : Int))) := Upd.set q 1 w5 _
      exact ⟨rfl, D5.out.updO R5.out (by decide) HPQ.out U6, Row.set R5.out 1 _, w5, ((Upd.of_below B3.out).trans U4.out).trans U5.out, U6⟩
    · have he2I : ¬ (e2 : Int) = 0 := by omega
      rw [if_pos (by simpa using he2)]
      clear he2
      go_wp2_with (first
        | (go_at_call 27; refine (framed_any q p n _ b _ HQ.out HB.out (by omega) hl).mono ?_; rintro e w3 ⟨v3, rfl, ho3, hb3⟩; have R3 := Lib.hid (show WalR w3 q p n from HQ.out.keep hb3); have h03 := Row.cell R3.out 0; simp only [List.getElem?_cons_succ, List.getElem?_cons_zero] at h03; have O3 := Lib.hid ho3; have B3 := Lib.hid hb3; have D3 := Lib.hid (HS.out.keepB hb3); clear ho3 hb3)
        | (go_at_call 28; refine (Write_any p 0 _ (frameB (enc n ++ b)) S _ D3.out (fun w' hu => (hu.own O3.out D3.out.rowC.choose_spec (by decide)).sh) HM.out (by have := HT.out; omega) (by have := HFB.out; omega) HLIM.out).mono ?_; rw [HW.out]; rintro e w4 ⟨rfl, hd4, hu4⟩; have R4 := Lib.hid (show WalR w4 q p n from hu4.row R3.out HPQ.out.symm); have h04 := Row.cell R4.out 0; simp only [List.getElem?_cons_succ, List.getElem?_cons_zero] at h04; have D4 := Lib.hid hd4; have U4 := Lib.hid hu4; clear hd4 hu4)
        | (go_at_call 26; refine (Sync_any p 0 S1 _ D4.out (by have := HB2.out; have := HM.out; omega) (by have := HT.out; have := HB3.out; have := HFB.out; omega) (by rw [HB1.out]; exact HLIM.out)).mono ?_; rw [HSY.out]; rintro e w5 ⟨rfl, hd5, hu5⟩; have R5 := Lib.hid (show WalR w5 q p n from hu5.row R4.out HPQ.out.symm); have h15 := Row.cell R5.out 1; have hf5 := Row.frozen R5.out 1; simp only [List.getElem?_cons_succ, List.getElem?_cons_zero] at h15; have D5 := Lib.hid hd5; have U5 := Lib.hid hu5; clear hd5 hu5))
      go_ret
      exact ⟨rfl, D5.out, R5.out, w5, ((Upd.of_below B3.out).trans U4.out).trans U5.out, Upd.refl _ _⟩
  · have he1I : ¬ (e1 : Int) = 0 := by omega
    rw [if_pos (by simpa using he1)]
    clear he1
    go_wp2_with (first
      | (go_at_call 27; refine (framed_any q p n _ b _ HQ.out HB.out (by omega) hl).mono ?_; rintro e w3 ⟨v3, rfl, ho3, hb3⟩; have R3 := Lib.hid (show WalR w3 q p n from HQ.out.keep hb3); have h03 := Row.cell R3.out 0; simp only [List.getElem?_cons_succ, List.getElem?_cons_zero] at h03; have O3 := Lib.hid ho3; have B3 := Lib.hid hb3; have D3 := Lib.hid (HS.out.keepB hb3); clear ho3 hb3)
      | (go_at_call 28; refine (Write_any p 0 _ (frameB (enc n ++ b)) S _ D3.out (fun w' hu => (hu.own O3.out D3.out.rowC.choose_spec (by decide)).sh) HM.out (by have := HT.out; omega) (by have := HFB.out; omega) HLIM.out).mono ?_; rw [HW.out]; rintro e w4 ⟨rfl, hd4, hu4⟩))
    go_ret
    exact ⟨rfl, hd4, hu4.row R3.out HPQ.out.symm, w4, (Upd.of_below B3.out).trans hu4, Upd.refl _ _⟩
end Go.Proofs.Ytkghkpkiodghiaa
