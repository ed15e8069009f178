/- The law WalRecovers. (printed by gen/wal13.py) -/
import Derived.Test.YtkghkpkiodghiaaWalM
namespace Go.Proofs.Ytkghkpkiodghiaa
set_option linter.unusedVariables false
set_option linter.unusedSimpArgs false
set_option linter.unnecessarySimpa false
open Go.RowKit
set_option maxRecDepth 100000
set_option maxHeartbeats 8000000

theorem LogM.new (L : Int) : LogM ⟨[], [], false, [], [], false, L, -1, false⟩ false [] 0 [] [] [] 3030 :=
  ⟨.inl ⟨rfl, rfl, rfl, rfl⟩, rfl, .inl rfl, fun r hr => by simp at hr, by simp, by simp, by simp [bods, frames]⟩
theorem take_by (B : List UInt8) : (B.take 3000).length ≤ 3000 := by rw [List.length_take]; omega
theorem LogM.widen {S : PD} {has : Bool} {sn : List UInt8} {s : Nat} {old L : List (List UInt8)} {junk : List UInt8} {B B' : Nat} (h : LogM S has sn s old L junk B) (hB : B ≤ B') : LogM S has sn s old L junk B' :=
  ⟨h.n1, h.n0, h.jk, h.ro, h.sl, h.cnt, Nat.le_trans h.size hB⟩
/-- A model's row: what it holds. -/
def ModR (w0 w : World) (h : Nat) (has : Bool) (sn : List UInt8) (L : List (List UInt8)) : Prop :=
  ∃ (xs : Option Addr) (cs : Nat) (xr : Option Addr) (cr : Nat), Row w h 36 [.bool has, .slice xs sn.length cs, .slice xr L.length cr] ∧ Sh w0 (.slice xs sn.length cs) sn ∧ ModL w0 w (.slice xr L.length cr) L
theorem ModR.keep {w0 w w' : World} {h : Nat} {has : Bool} {sn : List UInt8} {L : List (List UInt8)} (k : ModR w0 w h has sn L) (hb : Below w.heap.size w w') : ModR w0 w' h has sn L := by
  obtain ⟨xs, cs, xr, cr, h1, h2, h3⟩ := k
  exact ⟨xs, cs, xr, cr, h1.keep hb, h2, h3.below hb⟩
theorem ModR.upd {w0 w w' : World} {h p t : Nat} {C : List Value} {has : Bool} {sn : List UInt8} {L : List (List UInt8)} (k : ModR w0 w h has sn L) (hu : Upd p w w') (hr : Row w p t C) (ht : 27 ≠ t) (hp : h ≠ p) : ModR w0 w' h has sn L := by
  obtain ⟨xs, cs, xr, cr, h1, h2, h3⟩ := k
  exact ⟨xs, cs, xr, cr, hu.row h1 hp, h2, h3.upd hu hr ht⟩
/-- A model is copied. -/
theorem ModR.copy {w0 w : World} {h' n m : Nat} {has : Bool} {sn : List UInt8} {L : List (List UInt8)} {xs xr : Option Addr} {cs cr : Nat} {a b c : Value} (hn : sn.length = n) (hm : L.length = m) (k2 : Sh w0 (.slice xs n cs) sn) (k3 : ModL w0 w (.slice xr m cr) L) (hr : Row w h' 36 [a, b, c]) :
    ModR w0 (((w.setCell ⟨h', 0, none⟩ (.bool has)).setCell ⟨h', 1, none⟩ (.slice xs n cs)).setCell ⟨h', 2, none⟩ (.slice xr m cr)) h' has sn L := by
  subst hn hm
  exact ⟨xs, cs, xr, cr, Row.set (Row.set (Row.set hr 0 _) 1 _) 2 _, k2, k3.upd (((Upd.set h' 0 w _).trans (Upd.set h' 1 _ _)).trans (Upd.set h' 2 _ _)) hr (by decide)⟩
theorem upd3 (h : Nat) (w : World) (a b c : Value) : Upd h w (((w.setCell ⟨h, 0, none⟩ a).setCell ⟨h, 1, none⟩ b).setCell ⟨h, 2, none⟩ c) := ((Upd.set h 0 w _).trans (Upd.set h 1 _ _)).trans (Upd.set h 2 _ _)
theorem WalRecovers_walk (lv : Value) (As : List WD) (C KP : Int) (tv : Value) (t : List UInt8) (w : World) (hA : ActsW w lv As) (hn : As.length ≤ 10000000000000) (hB : ∀ i, i < As.length → (As.getD i dWD).B.length ≤ 140737488355328) (hC : isIn C) (hK : isIn KP) (ht : Sh w tv t) (htl : t.length ≤ 2000000) :
    Calls Try.prog 5 #[lv, .agg #[.int .i64 C, .int .i64 KP, tv]] w fun e w' => e = .returned (.bool true) ∧ Below w.heap.size w w' := by
  have kc := fun (w : World) (C : Array Value) (n c : Nat) => Lib.run_convert_bytes_const (P := Try.prog) w 27 5 C n c Try.underlying27 Try.underlying5
  obtain ⟨xa, ka, rfl, hka, -⟩ := hA.open
  obtain ⟨xt, ct, rfl, -⟩ := ht.open
  have HA := Lib.hid hA
  have HBB := Lib.hid hB
  have HT0 := Lib.hid ht
  have HCI := Lib.hid hC
  have HKC := Lib.hid kc
  clear hA hB ht hC kc
  go_enter Try.func5, Try.ntmps5
  go_wp2_with fail
  have RE0 : Row (w.alloc (.cells #[.int .i64 C, .int .i64 KP, .slice xt t.length ct] 56)) w.heap.size 56 [.int .i64 C, .int .i64 KP, .slice xt t.length ct] := Row.new w 56 [.int .i64 C, .int .i64 KP, .slice xt t.length ct]
  have hbe := balloc (Below.refl w.heap.size w) (.cells #[.int .i64 C, .int .i64 KP, .slice xt t.length ct] 56)
  have hse : (w.alloc (.cells #[.int .i64 C, .int .i64 KP, .slice xt t.length ct] 56)).heap.size = w.heap.size + 1 := World.size_alloc ..
  generalize w.alloc (.cells #[.int .i64 C, .int .i64 KP, .slice xt t.length ct] 56) = w0 at *
  refine (New_any 1048576 _).mono ?_; rintro e w1 ⟨rfl, hd1, hb1, hs1⟩
  have hd1 : Dsk w1 w0.heap.size ⟨[], [], false, [], [], false, 1048576, -1, false⟩ := hd1
  rw [hse] at hd1 hs1
  have HE1 := Lib.hid (RE0.keep hb1)
  have HD1 := Lib.hid hd1
  have HB1 := Lib.hid (bthen hbe hb1 (by omega))
  clear hd1 hb1 RE0 hbe
  generalize hg : w.heap.size = g at *
  have HG := Lib.hid hg
  clear hg
  rw [hse]
  clear hse
  go_wp2_with fail
  refine (LogM.opens (g + 1) _ false [] 0 [] [] [] 3030 w1 HD1.out (LogM.new 1048576) rfl rfl rfl (by decide) (by simp)).mono ?_
  rintro e w2 ⟨S2, ⟨q, sv, rv, rfl, hq2, hs2, hr2, hlq⟩, hd2, hu2, hlm2, -, -, -, hS2⟩
  have hS2 := hS2 rfl
  subst hS2
  obtain ⟨xs2, cs2, rfl, -⟩ := hs2.sh.open
  obtain ⟨xr2, cr2, rfl, -⟩ := hr2.bss.open
  have HD2 := Lib.hid hd2
  have HQ2 := Lib.hid hq2
  have HE2 := Lib.hid (hu2.row HE1.out (by omega))
  have HB2 := Lib.hid (HB1.out.trans (hu2.below (by omega) (by have := HE1.out.lt; omega)))
  have HQS := Lib.hid hq2.lt
  have HGQ := Lib.hid (show g + 1 < q by have := HE1.out.lt; omega)
  have e0 := fun o => Row.cell (Row.alloc (HE2.out) o) 0; have e1 := fun o => Row.cell (Row.alloc (HE2.out) o) 1; have e2 := fun o => Row.cell (Row.alloc (HE2.out) o) 2; simp only [List.getElem?_cons_succ, List.getElem?_cons_zero] at e0 e1 e2
  have HBA := Lib.hid (balloc (Below.refl w2.heap.size w2) (.cells #[.bool false, .slice xs2 0 cs2, .slice xr2 0 cr2, .int .u64 0] 31 ))
  clear hd2 hq2 hlm2 hu2 hs2 hr2 hd1 HD1
  go_wp2_with (go_at_call 18; refine (Arm_dsk (g + 1) C _ _ (HD2.out.keepB HBA.out)).mono ?_; rintro e w3 ⟨rfl, hd3, hu3⟩)
  have HD3 := Lib.hid hd3
  have HQ3 := Lib.hid (show WalR w3 q (g + 1) 0 from hu3.row (HQ2.out.keep HBA.out) (by have := HGQ.out; omega))
  have HE3 := Lib.hid (hu3.row (HE2.out.keep HBA.out) (by omega))
  have HB3 := Lib.hid ((HB2.out.trans (HBA.out.mono (by have := HB2.out.size; have := HG.out; omega))).trans (hu3.below (by omega) (by have := HE2.out.lt; have := HBA.out.size; omega)))
  have HQ3S := Lib.hid (show q < w3.heap.size from HQ3.out.lt)
  clear hd3 hu3 e0 e1 e2 HD2 HE2 HB2 HBA HQ2 HQS hlq hs1
  have hba := balloc (balloc (Below.refl w3.heap.size w3) (.cells #[.bool false, .slice none 0 0, .slice none 0 0] 36 )) (.cells #[.bool false, .slice none 0 0, .slice none 0 0] 36 )
  have M0 : ModR w ((w3.alloc (.cells #[.bool false, .slice none 0 0, .slice none 0 0] 36 )).alloc (.cells #[.bool false, .slice none 0 0, .slice none 0 0] 36 )) w3.heap.size false [] [] :=
    ⟨none, 0, none, 0, Row.alloc (Row.new w3 36 [.bool false, .slice none 0 0, .slice none 0 0]) _, Sh.nil _, ModL.nil _ _⟩
  have M1 : ModR w ((w3.alloc (.cells #[.bool false, .slice none 0 0, .slice none 0 0] 36 )).alloc (.cells #[.bool false, .slice none 0 0, .slice none 0 0] 36 )) (w3.heap.size + 1) false [] [] := by
    have := Row.new (w3.alloc (.cells #[.bool false, .slice none 0 0, .slice none 0 0] 36 )) 36 [.bool false, .slice none 0 0, .slice none 0 0]
    rw [World.size_alloc] at this
    exact ⟨none, 0, none, 0, this, Sh.nil _, ModL.nil _ _⟩
  have HD4 := Lib.hid (HD3.out.keepB hba)
  have HQ4 := Lib.hid (show WalR _ q (g + 1) 0 from HQ3.out.keep hba)
  have HE4 := Lib.hid (HE3.out.keep hba)
  have HB4 := Lib.hid (HB3.out.trans (hba.mono (by have := HB3.out.size; have := HG.out; omega)))
  have HM4 := Lib.hid M0
  have HN4 := Lib.hid M1
  have HQH := Lib.hid HQ3S.out
  clear hba M0 M1 HD3 HQ3 HE3 HB3 HQ3S
  generalize (w3.alloc (.cells #[.bool false, .slice none 0 0, .slice none 0 0] 36 )).alloc (.cells #[.bool false, .slice none 0 0, .slice none 0 0] 36 ) = w4 at *
  generalize w3.heap.size = h at *
  have hAl : Alive ({ (PD.mk [] [] false [] [] false 1048576 (-1) false) with left := if C < 0 then 0 else C } : PD) := by
    have hc := HCI.out
    unfold isIn at hc
    refine ⟨rfl, ?_, ?_, rfl, rfl, rfl, rfl, rfl⟩
    · show 0 ≤ (if C < 0 then 0 else C)
      split <;> omega
    · show (if C < 0 then 0 else C) ≤ _
      split <;> omega
  go_loopw [11] (fun iv wr => ∃ (j : Nat) (S : PD) (has : Bool) (sn : List UInt8) (s : Nat) (old L : List (List UInt8)) (has' : Bool) (sn' : List UInt8) (L' : List (List UInt8)), j ≤ As.length ∧ iv = .int .i64 (j : Int) ∧ j ≤ 40 ∧ Dsk wr (g + 1) S ∧ Alive S ∧ LogM S has sn s old L [] (3030 * (j + 1)) ∧ WalR wr q (g + 1) (s + old.length + L.length) ∧ ModR w wr h has sn L ∧ ModR w wr (h + 1) has' sn' L' ∧ Row wr g 56 [.int .i64 C, .int .i64 KP, .slice xt t.length ct] ∧ Below g w wr ∧ s + old.length + L.length ≤ j) (fun iv _ => As.length - (intOf iv).toNat)
  case atStart => exact ⟨0, _, false, [], 0, [], [], false, [], [], by omega, rfl, by omega, HD4.out, hAl, (LogM.new 1048576).same rfl rfl (.inl rfl) (by omega), HQ4.out, HM4.out, HN4.out, HE4.out, HB4.out, by simp⟩
  case round =>
    obtain ⟨j, S, has, sn, s, old, L, has', sn', L', hj, rfl, hj40, hd, hal, hlm, hq, hm9, hm10, he, hbel, hcnt⟩ := hrel
    clear HD4 HQ4 HM4 HN4 HE4 HB4 hAl
    have HD := Lib.hid hd
    have HAL := Lib.hid hal
    have HLM := Lib.hid hlm
    have HQ := Lib.hid hq
    have HM9 := Lib.hid hm9
    have HM10 := Lib.hid hm10
    have HE := Lib.hid he
    have HB := Lib.hid hbel
    have hps : g ≤ wr.heap.size := by have := HB.out.size; have := HG.out; omega
    clear hd hal hlm hq hm9 hm10 he hbel
    have hcase : (j < As.length ∧ j < 40) ∨ j = As.length ∨ (j < As.length ∧ ¬ j < 40) := by omega
    rcases hcase with ⟨hjl, hj6⟩ | rfl | ⟨hjl, hj6⟩
    · obtain ⟨b, off, rfl, ov, c0, c1, c2, hsu⟩ := HA.out.at hjl
      have hbl : b < g := by rw [← HG.out]; exact blt c0
      have c0' := bcell HB.out c0 hbl
      have c1' := bcell HB.out c1 hbl
      have c2' := bcell HB.out c2 hbl
      have hbb := HBB.out j hjl
      have HS0 := Lib.hid hsu
      clear c0 c1 c2 hsu
      generalize As.getD j dWD = A at *
      obtain ⟨K', N, B⟩ := A
      simp only at c0' c1' c2' hbb HS0
      obtain ⟨xo, ko, rfl, -⟩ := HS0.out.open
      have hjI : (j : Int) < (As.length : Int) := by omega
      have hj6I : (j : Int) < 40 := by omega
      obtain ⟨xs, cs, xr, cr, r9, s9, l9⟩ := HM9.out
      obtain ⟨xs', cs', xr', cr', r10, s10, l10⟩ := HM10.out
      have m0 := fun o => Row.cell (Row.alloc (r9) o) 0; have m1 := fun o => Row.cell (Row.alloc (r9) o) 1; have m2 := fun o => Row.cell (Row.alloc (r9) o) 2; simp only [List.getElem?_cons_succ, List.getElem?_cons_zero] at m0 m1 m2
      have HR9 := Lib.hid r9
      have HS9 := Lib.hid s9
      have HL9 := Lib.hid l9
      have HR10 := Lib.hid r10
      have hqs := HQ.out.lt
      have hqh := HQH.out
      have hgq := HGQ.out
      have hls := HLM.out.sl
      have hcn := HLM.out.cnt
      clear r9 s9 l9 r10 s10 l10
      have hpl : (B.take 3000).length ≤ 3000 := take_by B
      rcases and_one K' with hk | hk
      · skip
        go_upto_region 13 with (go_at_call 10; (refine (after0 w N xo xs xr ko sn.length cs cr has B L _ (HS0.out.at' (HB.out.trans ((balloc (Below.refl wr.heap.size wr) (.cells #[.int .i64 0, .int .i64 N, .slice xo B.length ko] 38 )).mono hps)) (Nat.le_of_eq HG.out)) hbb (HL9.out.below (balloc (Below.refl wr.heap.size wr) _)) HS0.out (by omega)).mono ?_; rintro e w4 ⟨v4, rfl, hl4, hb4⟩; obtain ⟨x4, c4, rfl⟩ := hl4.open; have HL4 := Lib.hid hl4; clear hl4;  have HBA4 := Lib.hid (bstep (balloc (Below.refl wr.heap.size wr) (.cells #[.int .i64 0, .int .i64 N, .slice xo B.length ko] 38 )) hb4); have A4 := Lib.hid ((Row.new wr 38 [.int .i64 0, .int .i64 N, .slice xo B.length ko]).keep hb4); have R10 := Lib.hid (HR10.out.keep HBA4.out); have n0 := Row.cell (R10.out) 0; have n1 := Row.cell (R10.out) 1; have n2 := Row.cell (R10.out) 2; simp only [List.getElem?_cons_succ, List.getElem?_cons_zero] at n0 n1 n2; have nf0 := Row.frozen (R10.out) 0; have nf1 := Row.frozen (R10.out) 1; have nf2 := Row.frozen (R10.out) 2; clear hb4))
        
        have U5 := upd3 (h + 1) w4 (.bool has) (.slice xs sn.length cs) (.slice x4 (L.length + 1) c4)
        have hl1 : (L ++ [B.take 3000]).length = L.length + 1 := by simp
        have L4' := HL4.out
        rw [hl1] at L4'
        have M10 : ModR w (((w4.setCell ⟨h + 1, 0, none⟩ (.bool has)).setCell ⟨h + 1, 1, none⟩ (.slice xs sn.length cs)).setCell ⟨h + 1, 2, none⟩ (.slice x4 (L.length + 1) c4)) (h + 1) has sn (L ++ [B.take 3000]) := (⟨xs, cs, x4, c4, by rw [hl1]; exact Row.set (Row.set (Row.set R10.out 0 _) 1 _) 2 _, HS9.out, by rw [hl1]; exact L4'.upd U5 R10.out (by decide)⟩)
        have hg4 : g ≤ w4.heap.size := by have := HBA4.out.size; omega
        have D5 := Lib.hid ((HD.out.keepB HBA4.out).updO R10.out (by decide) (by omega) U5)
        have Q5 := Lib.hid (U5.row (show Row w4 q 71 _ from HQ.out.keep HBA4.out) (by omega))
        have M95 := Lib.hid ((HM9.out.keep HBA4.out).upd U5 R10.out (by decide) (by omega))
        have M105 := Lib.hid M10
        have E5 := Lib.hid (U5.row (HE.out.keep HBA4.out) (by omega))
        have A5 := Lib.hid (U5.row A4.out (by have := HR10.out.lt; omega))
        have B5 := Lib.hid ((HB.out.trans (HBA4.out.mono hps)).trans (U5.below (by omega) hg4))
        have S5 := Lib.hid (show wr.heap.size < (((w4.setCell ⟨h + 1, 0, none⟩ (.bool has)).setCell ⟨h + 1, 1, none⟩ (.slice xs sn.length cs)).setCell ⟨h + 1, 2, none⟩ (.slice x4 (L.length + 1) c4)).heap.size from A5.out.lt)
        generalize ((w4.setCell ⟨h + 1, 0, none⟩ (.bool has)).setCell ⟨h + 1, 1, none⟩ (.slice xs sn.length cs)).setCell ⟨h + 1, 2, none⟩ (.slice x4 (L.length + 1) c4) = w5 at *
        clear HL4 L4' hl1 M10 U5 n0 n1 n2 nf0 nf1 nf2 R10 A4 HBA4 m0 m1 m2 HR9 HS9 HL9 HR10 c0' c1' c2' hk
        have b0 := Row.cell (A5.out) 0; have b1 := Row.cell (A5.out) 1; have b2 := Row.cell (A5.out) 2; simp only [List.getElem?_cons_succ, List.getElem?_cons_zero] at b0 b1 b2
        have a0 := fun o => Row.cell (Row.alloc (A5.out) o) 0; have a1 := fun o => Row.cell (Row.alloc (A5.out) o) 1; have a2 := fun o => Row.cell (Row.alloc (A5.out) o) 2; simp only [List.getElem?_cons_succ, List.getElem?_cons_zero] at a0 a1 a2
        have hl1 : (L ++ [B.take 3000]).length = L.length + 1 := by simp
        have hg5 : g ≤ w5.heap.size := by have := B5.out.size; have := HG.out; omega
        have hsz0 : S.n0.length + S.n1.length ≤ 3030 * (j + 1) := by
          have h1 := HLM.out.size
          have h2 := HLM.out.n0
          rw [List.append_nil] at h2
          rw [h2]; exact h1
        have hltop := HAL.out.top
        have hllim := HAL.out.lim
        obtain ⟨S', n', e', hw, hc⟩ := wapp_step S has sn s old L _ (B.take 3000) HAL.out HLM.out hpl (by omega) (by omega)
        rcases hc with ⟨rfl, rfl, hal', hlm'⟩ | ⟨rfl, rfl, hdd, hlim', hsz', hrec⟩
        · have HW := Lib.hid hw
          clear hw
          go_wp2_with (first
              | (go_at_call 9; (refine (bytes_act 0 N xo ko B _ (HS0.out.at' (B5.out.trans ((balloc (Below.refl w5.heap.size w5) (.cells #[] 5)).mono hg5)) (Nat.le_of_eq HG.out)) hbb).mono ?_; rintro e w6 ⟨rfl, hb6⟩; have HBA6 := Lib.hid (bstep (balloc (Below.refl w5.heap.size w5) (.cells #[] 5)) hb6); have EE6 := Lib.hid ((Row.new w5 5 []).keep hb6); have SS := (HS0.out.at' (B5.out.trans (HBA6.out.mono hg5)) (Nat.le_of_eq HG.out)).taken; rw [List.length_take] at SS; have H6 := Lib.hid SS; clear SS hb6))
              | (at_builtin; (refine app_own_w Try.underlying27 info_byte (by with_unfolding_all rfl) (.tmp 62) (.tmp 64) rfl rfl EE6.out rfl H6.out (by omega) ?_; intro v7 w7 ho7 hb7; have O7 := Lib.hid ho7; have HB7 := Lib.hid (bstep HBA6.out hb7); clear ho7 hb7))
              | (go_at_call 8; (refine (Append_any q (g + 1) (s + old.length + L.length) _ (B.take 3000) S _ (Q5.out.keep HB7.out) (D5.out.keepB HB7.out) O7.out.sh (by omega) (by omega) (by omega) hltop (by omega) (by omega)).mono ?_; rw [HW.out]; rintro e w8 ⟨rfl, hd8, hq8, v8, hu8, hx8⟩; have D8 := Lib.hid hd8; have Q8 := Lib.hid hq8; have M98 := Lib.hid (((M95.out.keep HB7.out).upd hu8 (D5.out.keepB HB7.out).rowC.choose_spec (by decide) (by omega)).upd hx8 (hu8.row (show Row w7 q 71 _ from Q5.out.keep HB7.out) (by omega)) (by decide) (by omega)); have M108 := Lib.hid (((M105.out.keep HB7.out).upd hu8 (D5.out.keepB HB7.out).rowC.choose_spec (by decide) (by omega)).upd hx8 (hu8.row (show Row w7 q 71 _ from Q5.out.keep HB7.out) (by omega)) (by decide) (by omega)); have E8 := Lib.hid (hx8.row (hu8.row (E5.out.keep HB7.out) (by omega)) (by omega)); have B8 := Lib.hid (((B5.out.trans (HB7.out.mono hg5)).trans (hu8.below (by omega) (by have := HB7.out.size; omega))).trans (hx8.below (by omega) (by have := HB7.out.size; have := hu8.sizeLe; omega))); clear hd8 hu8 hx8 hq8; obtain ⟨ys, ds, yr, dr, r10, s10, l10⟩ := M108.out; rw [hl1] at r10 l10; obtain ⟨zs, es, zr, er, r9, s9, l9⟩ := M98.out; have p0 := Row.cell (r10) 0; have p1 := Row.cell (r10) 1; have p2 := Row.cell (r10) 2; simp only [List.getElem?_cons_succ, List.getElem?_cons_zero] at p0 p1 p2; have z0 := Row.cell (r9) 0; have z1 := Row.cell (r9) 1; have z2 := Row.cell (r9) 2; simp only [List.getElem?_cons_succ, List.getElem?_cons_zero] at z0 z1 z2; have zf0 := Row.frozen (r9) 0; have zf1 := Row.frozen (r9) 1; have zf2 := Row.frozen (r9) 2; have R98 := Lib.hid r9; have S108 := Lib.hid s10; have L108 := Lib.hid l10; clear r9 r10 s9 s10 l9 l10)))
          have U9 := upd3 h w8 (.bool has) (.slice ys (sn.length) ds) (.slice yr (L.length + 1) dr)
          have hg8 : g ≤ w8.heap.size := by have := B8.out.size; have := HG.out; omega
          exact ⟨⟨j + 1, S', has, sn, s, old, (L ++ [B.take 3000]), has, sn, (L ++ [B.take 3000]), by omega, by go_num, by omega, D8.out.updO R98.out (by decide) (by omega) U9, hal', hlm'.widen (by omega), (by have := U9.row (show Row w8 q 71 _ from Q8.out) (by omega); unfold WalR; rw [List.length_append]; exact this), (ModR.copy rfl hl1 S108.out L108.out R98.out), M108.out.upd U9 R98.out (by decide) (by omega), U9.row E8.out (by omega), B8.out.trans (U9.below (by omega) hg8), by rw [List.length_append]; simp only [List.length_cons, List.length_nil]; omega⟩, by simp [intOf]; omega⟩
        · have HW := Lib.hid hw
          have HREC := Lib.hid hrec
          clear hw hrec
          go_upto_region 21 with (first
              | (go_at_call 9; (refine (bytes_act 0 N xo ko B _ (HS0.out.at' (B5.out.trans ((balloc (Below.refl w5.heap.size w5) (.cells #[] 5)).mono hg5)) (Nat.le_of_eq HG.out)) hbb).mono ?_; rintro e w6 ⟨rfl, hb6⟩; have HBA6 := Lib.hid (bstep (balloc (Below.refl w5.heap.size w5) (.cells #[] 5)) hb6); have EE6 := Lib.hid ((Row.new w5 5 []).keep hb6); have SS := (HS0.out.at' (B5.out.trans (HBA6.out.mono hg5)) (Nat.le_of_eq HG.out)).taken; rw [List.length_take] at SS; have H6 := Lib.hid SS; clear SS hb6))
              | (at_builtin; (refine app_own_w Try.underlying27 info_byte (by with_unfolding_all rfl) (.tmp 62) (.tmp 64) rfl rfl EE6.out rfl H6.out (by omega) ?_; intro v7 w7 ho7 hb7; have O7 := Lib.hid ho7; have HB7 := Lib.hid (bstep HBA6.out hb7); clear ho7 hb7))
              | (go_at_call 8; (refine (Append_any q (g + 1) (s + old.length + L.length) _ (B.take 3000) S _ (Q5.out.keep HB7.out) (D5.out.keepB HB7.out) O7.out.sh (by omega) (by omega) (by omega) hltop (by omega) (by omega)).mono ?_; rw [HW.out]; rintro e w8 ⟨rfl, hd8, hq8, v8, hu8, hx8⟩; have D8 := Lib.hid hd8; have Q8 := Lib.hid hq8; have M98 := Lib.hid (((M95.out.keep HB7.out).upd hu8 (D5.out.keepB HB7.out).rowC.choose_spec (by decide) (by omega)).upd hx8 (hu8.row (show Row w7 q 71 _ from Q5.out.keep HB7.out) (by omega)) (by decide) (by omega)); have M108 := Lib.hid (((M105.out.keep HB7.out).upd hu8 (D5.out.keepB HB7.out).rowC.choose_spec (by decide) (by omega)).upd hx8 (hu8.row (show Row w7 q 71 _ from Q5.out.keep HB7.out) (by omega)) (by decide) (by omega)); have E8 := Lib.hid (hx8.row (hu8.row (E5.out.keep HB7.out) (by omega)) (by omega)); have B8 := Lib.hid (((B5.out.trans (HB7.out.mono hg5)).trans (hu8.below (by omega) (by have := HB7.out.size; omega))).trans (hx8.below (by omega) (by have := HB7.out.size; have := hu8.sizeLe; omega))); clear hd8 hu8 hx8 hq8))
              | (go_at_call 20; (refine (Dead_dsk (g + 1) S' _ D8.out).mono ?_; rw [hdd]; rintro e wd ⟨rfl, hwd⟩; have hwd' := hwd.symm; clear hwd; subst hwd')))
          have D9 := D8
          have M99 := M98
          have M109 := M108
          have E9 := E8
          have B9 := B8
          clear D8 M98 M108 E8 B8 Q8 HBA6 EE6 H6 O7 HB7 b0 b1 b2 a0 a1 a2 D5 Q5 M95 M105 E5 A5 B5 S5 HW HM9 HM10 HD HQ HE HB
          have hg9 : g ≤ w8.heap.size := by have := B9.out.size; have := HG.out; omega
          have hcr := HREC.out KP (safeL KP t) (safeL_safe KP t)
          obtain ⟨Sc, hSc⟩ : ∃ Sc, S'.crash KP (safeL KP t) = Sc := ⟨_, rfl⟩
          rw [hSc] at hcr
          have hscd : Sc.dead = false := by rw [← hSc]; rfl
          have hscl : Sc.left = -1 := by rw [← hSc]; rfl
          have hscm : Sc.lim = 1048576 := by rw [← hSc]; exact hlim'
          have htl2 := safeL_len KP t
          have HCR := Lib.hid hcr
          have D10 := Lib.hid (D9.out.keepB (Below.refl _ _).drew)
          have M910 := Lib.hid (M99.out.keep (Below.refl _ _).drew)
          have M1010 := Lib.hid (M109.out.keep (Below.refl _ _).drew)
          have B10 := Lib.hid (B9.out.trans ((Below.refl w8.heap.size w8).drew.mono hg9))
          have E10 := Lib.hid (Row.drew E9.out)
          clear D9 M99 M109 B9 hcr HREC
          refine wp_region_held_drew (S := fun w' => Row w' g 56 [.int .i64 C, .int .i64 KP, .slice xt t.length ct]) (by kernel_rfl) (by exact Row.drew E9.out) (fun hHeld => ?_)
          generalize World.drew w8 = w10 at *
          have hg10 : g ≤ w10.heap.size := by have := B10.out.size; have := HG.out; omega
          refine wpAnyH_take (i := 0) (v := ?_) (by simp only [List.getElem?_toArray, List.getElem?_cons_zero, List.getElem?_cons_succ] <;> rfl) (by kernel_rfl) (by kernel_rfl) (by kernel_rfl) (by intro _ _ _ h; exact h) (Or.inl ⟨by rfl, ?_⟩) (by assumption) ?_
          rotate_left
          · intro w _; go_simp; try with_reducible rfl
          try simp only [Act.put, List.setIfInBounds_toArray, List.set_cons_zero, List.set_cons_succ, Array.replicate]
          refine wpAnyH_take (i := 1) (v := ?_) (by simp only [List.getElem?_toArray, List.getElem?_cons_zero, List.getElem?_cons_succ] <;> rfl) (by kernel_rfl) (by kernel_rfl) (by kernel_rfl) (by intro _ _ _ h; exact h) (Or.inl ⟨by rfl, ?_⟩) (by assumption) ?_
          rotate_left
          · intro w _; go_simp; try with_reducible rfl
          try simp only [Act.put, List.setIfInBounds_toArray, List.set_cons_zero, List.set_cons_succ, Array.replicate]
          refine wpAnyH_take (i := 2) (v := ?_) (by simp only [List.getElem?_toArray, List.getElem?_cons_zero, List.getElem?_cons_succ] <;> rfl) (by kernel_rfl) (by kernel_rfl) (by kernel_rfl) (by intro _ _ _ h; exact h) (Or.inl ⟨by rfl, ?_⟩) (by assumption) ?_
          rotate_left
          · intro w hSS; have q1 := Row.cell hSS 1; simp only [List.getElem?_cons_succ, List.getElem?_cons_zero] at q1; go_simp; try with_reducible rfl
          try simp only [Act.put, List.setIfInBounds_toArray, List.set_cons_zero, List.set_cons_succ, Array.replicate]
          refine wpAnyH_take (i := 4) (v := ?_) (by simp only [List.getElem?_toArray, List.getElem?_cons_zero, List.getElem?_cons_succ] <;> rfl) (by kernel_rfl) (by kernel_rfl) (by kernel_rfl) (by intro _ _ _ h; exact h) (Or.inl ⟨by rfl, ?_⟩) (by assumption) ?_
          rotate_left
          · intro w hSS; have q0 := Row.cell hSS 0; have q1 := Row.cell hSS 1; have q2 := Row.cell hSS 2; simp only [List.getElem?_cons_succ, List.getElem?_cons_zero] at q0 q1 q2; go_simp; try with_reducible rfl
          try simp only [Act.put, List.setIfInBounds_toArray, List.set_cons_zero, List.set_cons_succ, Array.replicate]
          refine wpAnyH_ready (rs := [3, 5]) (by kernel_rfl) (by simp) ?_
          refine AllReadyH.cons (by simp only [List.getElem?_toArray, List.getElem?_cons_zero, List.getElem?_cons_succ] <;> rfl) (fun K hK => ?_) ?_
          · go_simp
            refine hK.out _ _ (by exact Row.alloc hHeld _) (fun hHeld => ?_)
            clear hK K
            try simp only [Act.put, List.setIfInBounds_toArray, List.set_cons_zero, List.set_cons_succ, Array.replicate]
            refine wpAnyH_ready (rs := [5]) (by kernel_rfl) (by simp) ?_
            refine AllReadyH.cons (by simp only [List.getElem?_toArray, List.getElem?_cons_zero, List.getElem?_cons_succ] <;> rfl) (fun K hK => ?_) ?_
            · go_simp; go_at_call 22; (refine (Safe_any C KP _ t _ (HT0.out.at' (B10.out.trans ((balloc (Below.refl w10.heap.size w10) (.cells #[] 5)).mono hg10)) (Nat.le_of_eq HG.out)) (by omega)).mono ?_; rintro e wq ⟨vq, rfl, hsq, hbq⟩; have HSQ := Lib.hid hsq; have HBQ := Lib.hid (bthen (balloc (Below.refl w10.heap.size w10) (.cells #[] 5)) hbq (Nat.le_refl _)); have RE := Lib.hid ((Row.new w10 5 []).keep hbq); have HSH := HSQ; have HBS := HBQ)
              refine hK.out _ _ (by exact Row.keep hHeld hbq) (fun hHeld => ?_)
              clear hK K
              try simp only [Act.put, List.setIfInBounds_toArray, List.set_cons_zero, List.set_cons_succ, Array.replicate]
              refine wpAnyH_ready (rs := [6]) (by kernel_rfl) (by simp) ?_
              refine AllReadyH.cons (by simp only [List.getElem?_toArray, List.getElem?_cons_zero, List.getElem?_cons_succ] <;> rfl) (fun K hK => ?_) ?_
              · (refine step_app_own Try.underlying27 info_byte (by with_unfolding_all rfl) (.tmp 83) (.tmp 85) rfl rfl RE.out rfl HSH.out (by omega) ?_; intro va wa hoa hba; have OA := Lib.hid hoa; have BA := Lib.hid (bthen HBS.out hba (Nat.le_refl _)))
                refine hK.out _ _ (by exact Row.keep hHeld hba) (fun hHeld => ?_)
                clear hK K
                try simp only [Act.put, List.setIfInBounds_toArray, List.set_cons_zero, List.set_cons_succ, Array.replicate]
                refine wpAnyH_ready (rs := [7]) (by kernel_rfl) (by simp) ?_
                refine AllReadyH.cons (by simp only [List.getElem?_toArray, List.getElem?_cons_zero, List.getElem?_cons_succ] <;> rfl) (fun K hK => ?_) ?_
                · go_simp; go_at_call 21; (refine (Crash_of (g + 1) KP _ (safeL KP t) S' Sc hSc _ (D10.out.keepB BA.out) (fun w' hu => (hu.own OA.out (D10.out.keepB BA.out).rowC.choose_spec (by decide)).sh) (by omega) (fun _ => by omega)).mono ?_; rintro e wc ⟨rfl, hdc, huc⟩; try go_simp)
                  refine hK.out _ _ (by exact huc.row hHeld (by omega)) (fun hHeld => ?_)
                  clear hK K
                  try simp only [Act.put, List.setIfInBounds_toArray, List.set_cons_zero, List.set_cons_succ, Array.replicate]
                  refine wpAnyH_done (by kernel_rfl) ?_ _
                  have hdr := (D10.out.keepB BA.out).rowC.choose_spec
                  have M9C := Lib.hid ((M910.out.keep BA.out).upd huc hdr (by decide) (by omega))
                  have BC := Lib.hid ((B10.out.trans (BA.out.mono hg10)).trans (huc.below (by omega) (by have := BA.out.size; omega)))
                  have HDC := Lib.hid hdc
                  obtain ⟨hasB, snB, LB, HCR', M10C'⟩ : ∃ hasB snB LB, ((∃ s old junk, LogM Sc has sn s old L junk _ ∧ junk.length ≤ (safeL KP t).length + 4000 ∧ s + old.length + L.length ≤ 500) ∨ (∃ s old junk, LogM Sc hasB snB s old LB junk _ ∧ junk.length ≤ (safeL KP t).length + 4000 ∧ s + old.length + LB.length ≤ 500)) ∧ ModR w wc (h + 1) hasB snB LB := ⟨_, _, _, HCR.out, (M1010.out.keep BA.out).upd huc hdr (by decide) (by omega)⟩
                  have M10C := Lib.hid M10C'
                  have hgc : g ≤ wc.heap.size := by have := BC.out.size; have := HG.out; omega
                  clear M10C' hdr huc hdc hba hoa hbq hsq D10 M910 M1010 B10 OA BA HBS HSH HSQ HBQ RE HCR E10 E9
                  rcases HCR' with ⟨s3, old3, jk, hlm3, hj3, hc3⟩ | ⟨s3, old3, jk, hlm3, hj3, hc3⟩
                  · have HLM3 := Lib.hid hlm3
                    clear hlm3
                    go_wp2_with (first
                        | (go_at_call 12; refine (lives15 _).mono ?_; rintro e wl ⟨rfl, hbl⟩)
                        | (go_at_call 7; (refine (LogM.opens (g + 1) S9 has sn s3 old3 (L ++ [[109, 111, 114, 101]]) [] _ _ DP.out LM9.out hdd9 hl9 hlim9 (by omega) (by decide)).mono ?_; rintro e wz ⟨S10, ⟨qz, svz, rvz, rfl, hqz, hsz, hrz, hlqz⟩, hdz, huz, -⟩; obtain ⟨xz, cz, rfl, -⟩ := hsz.sh.open; obtain ⟨xy, cy, rfl, -⟩ := hrz.bss.open; obtain ⟨bz, offz, rfl, -, hatz⟩ := hrz.cells (by simp); obtain ⟨uz, huzc, houz⟩ := hatz L.length (by simp); obtain ⟨xu, cu, rfl, -⟩ := houz.sh.open; have hgd : (L ++ [[109, 111, 114, 101]] : List (List UInt8)).getD L.length [] = [109, 111, 114, 101] := (by simp [List.getD]); rw [hgd] at houz huzc; have hcz := fun o => bcell (balloc (Below.refl wz.heap.size wz) o) huzc (blt huzc); have hcv : ∀ o, (convert 27 9 (.slice xu 4 cu)).run Try.prog (wz.alloc o) = .ok (.string ⟨#[109, 111, 114, 101]⟩) (wz.alloc o) := fun o => conv_run (houz.sh.at' (balloc (Below.refl wz.heap.size wz) o) (Nat.le_refl _)); have hwr : IntKind.i64.wrap ((L.length : Int) + 1) = (L.length : Int) + 1 := IntWalk.i64_in _ ⟨by omega, by omega⟩; have RZ := Lib.hid (huz.row RP.out (by omega)); have k0 := fun o => Row.cell (Row.alloc (RZ.out) o) 0; have k1 := fun o => Row.cell (Row.alloc (RZ.out) o) 1; have k2 := fun o => Row.cell (Row.alloc (RZ.out) o) 2; have k3 := fun o => Row.cell (Row.alloc (RZ.out) o) 3; simp only [List.getElem?_cons_succ, List.getElem?_cons_zero] at k0 k1 k2 k3; have BZ := Lib.hid (BP.out.trans (huz.below (by omega) hgp)); clear hqz hsz hrz hdz huz hatz houz huzc))
                        | (go_at_call 8; (obtain ⟨S9, hw9, hlm9, hdd9, hl9, hlim9⟩ := LogM.more OM.out hdd8 hl8 hlim8 (by omega) [109, 111, 114, 101] (by decide) (by omega); have hlt := balloc (Below.refl w9.heap.size w9) (.cells #[.int .u8 109, .int .u8 111, .int .u8 114, .int .u8 101] 5 (4, 5)); have hbl := bthen IB.out hlt (Nat.le_refl _); have hmsz := OM.out.size; have hmn := OM.out.n0; rw [List.append_nil] at hmn; have hmn := congrArg List.length hmn; refine (Append_any q8 (g + 1) (s3 + old3.length + L.length) _ [109, 111, 114, 101] S8 _ (OQ.out.keep hbl) (OD.out.keepB hbl) (lit_sb (w1 := w9) (p := g) (4, 5) [109, 111, 114, 101] (by decide) (by have := IB.out.size; omega) _ (Upd.refl _ _)) (by omega) (by decide) (by omega) (by omega) (by omega) (by omega)).mono ?_; rw [hw9]; rintro e wp ⟨rfl, hdp, hqp, vp, hup, hxp⟩; have RP := Lib.hid (hxp.row (hup.row (R15.out.keep hlt) (by omega)) (by omega)); have DP := Lib.hid hdp; have BP := Lib.hid (((OB.out.trans (hbl.mono hgo)).trans (hup.below (by omega) (by have := hbl.size; omega))).trans (hxp.below (by omega) (by have := hbl.size; have := hup.sizeLe; omega))); have hgp : g ≤ wp.heap.size := (by have h1 := BP.out.size; have h2 := HG.out; omega); have LM9 := Lib.hid hlm9; clear hdp hqp hup hxp hlm9 hlt hbl hw9))
                        | (go_at_call 11; (refine (is_yes has _ _ _ _ _ sn L _ (OS9.out.at' (OB.out.trans ((balloc (Below.refl wo.heap.size wo) _).mono hgo)) (Nat.le_of_eq HG.out)) (OSV.out.sh.below (balloc (Below.refl wo.heap.size wo) _)) ((OL9.out.below (balloc (Below.refl wo.heap.size wo) _)).bss (by rw [HG.out]; exact OB.out.trans ((balloc (Below.refl wo.heap.size wo) _).mono hgo))) (ORV.out.below (balloc (Below.refl wo.heap.size wo) _)).bss).mono ?_; rintro e w9 ⟨rfl, hb9⟩; have hbI := bthen (balloc (Below.refl wo.heap.size wo) (.cells #[.bool has, .slice xk sn.length ck, .slice xq L.length cq, .int .u64 ((s3 + old3.length + L.length : Nat) : Int)] 31)) hb9 (Nat.le_refl _); have kcI := HKC.out w9 #[.int .u8 109, .int .u8 111, .int .u8 114, .int .u8 101] 4 4; simp at kcI; have R15 := Lib.hid ((Row.new wo 31 [.bool has, .slice xk sn.length ck, .slice xq L.length cq, .int .u64 ((s3 + old3.length + L.length : Nat) : Int)]).keep hb9); have IB := Lib.hid hbI; clear hbI hb9))
                        | (go_at_call 7; (refine (LogM.opens (g + 1) Sc has sn s3 old3 L jk _ _ HDC.out HLM3.out hscd hscl hscm (by omega) (by omega)).mono ?_; rintro e wo ⟨S8, ⟨q8, sv8, rv8, rfl, hq8, hs8, hr8, hlq8⟩, hd8, hu8, hlm8, hdd8, hl8, hlim8, -⟩; obtain ⟨xk, ck, rfl, -⟩ := hs8.sh.open; obtain ⟨xq, cq, rfl, -⟩ := hr8.bss.open; have hdrC := HDC.out.rowC.choose_spec; obtain ⟨ms, mc, mr, md, r9, s9, l9⟩ := M9C.out.upd hu8 hdrC (by decide) (by omega); obtain ⟨ns, nc, nr, nd, r10, s10, l10⟩ := M10C.out.upd hu8 hdrC (by decide) (by omega); have m0 := fun o => Row.cell (Row.alloc (r9) o) 0; have m1 := fun o => Row.cell (Row.alloc (r9) o) 1; have m2 := fun o => Row.cell (Row.alloc (r9) o) 2; simp only [List.getElem?_cons_succ, List.getElem?_cons_zero] at m0 m1 m2; have OR10 := Lib.hid r10; have OS9 := Lib.hid s9; have OL9 := Lib.hid l9; have OS10 := Lib.hid s10; have OL10 := Lib.hid l10; have OB := Lib.hid (BC.out.trans (hu8.below (by omega) hgc)); have OQ := Lib.hid hq8; have OSV := Lib.hid hs8; have ORV := Lib.hid hr8; have OD := Lib.hid hd8; have hgo : g ≤ wo.heap.size := Nat.le_trans hgc hu8.sizeLe; have hqo := OQ.out.lt; have hgq8 : g + 1 < q8 := Nat.lt_trans HDC.out.lt hlq8; have OM := Lib.hid hlm8; clear hq8 hs8 hr8 hd8 hu8 hlm8 hdrC r9 s9 l9 r10 s10 l10)))
                    go_ret
                    rw [HG.out]
                    have hzz := BZ.out.size
                    have hzg := HG.out
                    exact ⟨rfl, bthen (balloc2 BZ.out _ (by omega)) hbl (by omega)⟩
                  · have HLM3 := Lib.hid hlm3
                    clear hlm3
                    go_wp2_with (first
                        | (go_at_call 7; (refine (LogM.opens (g + 1) Sc hasB snB s3 old3 LB jk _ _ HDC.out HLM3.out hscd hscl hscm (by omega) (by omega)).mono ?_; rintro e wo ⟨S8, ⟨q8, sv8, rv8, rfl, hq8, hs8, hr8, hlq8⟩, hd8, hu8, hlm8, hdd8, hl8, hlim8, -⟩; obtain ⟨xk, ck, rfl, -⟩ := hs8.sh.open; obtain ⟨xq, cq, rfl, -⟩ := hr8.bss.open; have hdrC := HDC.out.rowC.choose_spec; obtain ⟨ms, mc, mr, md, r9, s9, l9⟩ := M9C.out.upd hu8 hdrC (by decide) (by omega); obtain ⟨ns, nc, nr, nd, r10, s10, l10⟩ := M10C.out.upd hu8 hdrC (by decide) (by omega); have m0 := fun o => Row.cell (Row.alloc (r9) o) 0; have m1 := fun o => Row.cell (Row.alloc (r9) o) 1; have m2 := fun o => Row.cell (Row.alloc (r9) o) 2; simp only [List.getElem?_cons_succ, List.getElem?_cons_zero] at m0 m1 m2; have OR10 := Lib.hid r10; have OS9 := Lib.hid s9; have OL9 := Lib.hid l9; have OS10 := Lib.hid s10; have OL10 := Lib.hid l10; have OB := Lib.hid (BC.out.trans (hu8.below (by omega) hgc)); have OQ := Lib.hid hq8; have OSV := Lib.hid hs8; have ORV := Lib.hid hr8; have OD := Lib.hid hd8; have hgo : g ≤ wo.heap.size := Nat.le_trans hgc hu8.sizeLe; have hqo := OQ.out.lt; have hgq8 : g + 1 < q8 := Nat.lt_trans HDC.out.lt hlq8; have OM := Lib.hid hlm8; clear hq8 hs8 hr8 hd8 hu8 hlm8 hdrC r9 s9 l9 r10 s10 l10)))
                    refine (is_any has hasB _ _ _ _ _ sn snB L LB _ (OS9.out.at' (OB.out.trans ((balloc (Below.refl wo.heap.size wo) _).mono hgo)) (Nat.le_of_eq HG.out)) (OSV.out.sh.below (balloc (Below.refl wo.heap.size wo) _)) ((OL9.out.below (balloc (Below.refl wo.heap.size wo) _)).bss (by rw [HG.out]; exact OB.out.trans ((balloc (Below.refl wo.heap.size wo) _).mono hgo))) (ORV.out.below (balloc (Below.refl wo.heap.size wo) _)).bss).mono ?_
                    rintro e w9 ⟨bb, rfl, hb9⟩
                    have hbI := bthen (balloc (Below.refl wo.heap.size wo) (.cells #[.bool hasB, .slice xk snB.length ck, .slice xq LB.length cq, .int .u64 ((s3 + old3.length + LB.length : Nat) : Int)] 31)) hb9 (Nat.le_refl _)
                    have kcI := HKC.out w9 #[.int .u8 109, .int .u8 111, .int .u8 114, .int .u8 101] 4 4
                    simp at kcI
                    have R15 := Lib.hid ((Row.new wo 31 [.bool hasB, .slice xk snB.length ck, .slice xq LB.length cq, .int .u64 ((s3 + old3.length + LB.length : Nat) : Int)]).keep hb9)
                    have IB := Lib.hid hbI
                    clear hbI hb9
                    cases bb
                    · have t10 := OR10.out.keep IB.out
                      have t0 := Row.cell (t10) 0; have t1 := Row.cell (t10) 1; have t2 := Row.cell (t10) 2; simp only [List.getElem?_cons_succ, List.getElem?_cons_zero] at t0 t1 t2
                      have k0 := Row.cell (R15.out) 0; have k1 := Row.cell (R15.out) 1; have k2 := Row.cell (R15.out) 2; have k3 := Row.cell (R15.out) 3; simp only [List.getElem?_cons_succ, List.getElem?_cons_zero] at k0 k1 k2 k3
                      clear t10
                      go_wp2_with (first
                          | (go_at_call 12; refine (lives15 _).mono ?_; rintro e wl ⟨rfl, hbl⟩)
                          | (go_at_call 7; (refine (LogM.opens (g + 1) S9 hasB snB s3 old3 (LB ++ [[109, 111, 114, 101]]) [] _ _ DP.out LM9.out hdd9 hl9 hlim9 (by omega) (by decide)).mono ?_; rintro e wz ⟨S10, ⟨qz, svz, rvz, rfl, hqz, hsz, hrz, hlqz⟩, hdz, huz, -⟩; obtain ⟨xz, cz, rfl, -⟩ := hsz.sh.open; obtain ⟨xy, cy, rfl, -⟩ := hrz.bss.open; obtain ⟨bz, offz, rfl, -, hatz⟩ := hrz.cells (by simp); obtain ⟨uz, huzc, houz⟩ := hatz LB.length (by simp); obtain ⟨xu, cu, rfl, -⟩ := houz.sh.open; have hgd : (LB ++ [[109, 111, 114, 101]] : List (List UInt8)).getD LB.length [] = [109, 111, 114, 101] := (by simp [List.getD]); rw [hgd] at houz huzc; have hcz := fun o => bcell (balloc (Below.refl wz.heap.size wz) o) huzc (blt huzc); have hcv : ∀ o, (convert 27 9 (.slice xu 4 cu)).run Try.prog (wz.alloc o) = .ok (.string ⟨#[109, 111, 114, 101]⟩) (wz.alloc o) := fun o => conv_run (houz.sh.at' (balloc (Below.refl wz.heap.size wz) o) (Nat.le_refl _)); have hwr : IntKind.i64.wrap ((LB.length : Int) + 1) = (LB.length : Int) + 1 := IntWalk.i64_in _ ⟨by omega, by omega⟩; have RZ := Lib.hid (huz.row RP.out (by omega)); have k0 := fun o => Row.cell (Row.alloc (RZ.out) o) 0; have k1 := fun o => Row.cell (Row.alloc (RZ.out) o) 1; have k2 := fun o => Row.cell (Row.alloc (RZ.out) o) 2; have k3 := fun o => Row.cell (Row.alloc (RZ.out) o) 3; simp only [List.getElem?_cons_succ, List.getElem?_cons_zero] at k0 k1 k2 k3; have BZ := Lib.hid (BP.out.trans (huz.below (by omega) hgp)); clear hqz hsz hrz hdz huz hatz houz huzc))
                          | (go_at_call 8; (obtain ⟨S9, hw9, hlm9, hdd9, hl9, hlim9⟩ := LogM.more OM.out hdd8 hl8 hlim8 (by omega) [109, 111, 114, 101] (by decide) (by omega); have hlt := balloc (Below.refl wi.heap.size wi) (.cells #[.int .u8 109, .int .u8 111, .int .u8 114, .int .u8 101] 5 (4, 5)); have hbl := bthen IBJ.out hlt (Nat.le_refl _); have hmsz := OM.out.size; have hmn := OM.out.n0; rw [List.append_nil] at hmn; have hmn := congrArg List.length hmn; refine (Append_any q8 (g + 1) (s3 + old3.length + LB.length) _ [109, 111, 114, 101] S8 _ (OQ.out.keep hbl) (OD.out.keepB hbl) (lit_sb (w1 := wi) (p := g) (4, 5) [109, 111, 114, 101] (by decide) (by have := IBJ.out.size; omega) _ (Upd.refl _ _)) (by omega) (by decide) (by omega) (by omega) (by omega) (by omega)).mono ?_; rw [hw9]; rintro e wp ⟨rfl, hdp, hqp, vp, hup, hxp⟩; have RP := Lib.hid (hxp.row (hup.row (R15J.out.keep hlt) (by omega)) (by omega)); have DP := Lib.hid hdp; have BP := Lib.hid (((OB.out.trans (hbl.mono hgo)).trans (hup.below (by omega) (by have := hbl.size; omega))).trans (hxp.below (by omega) (by have := hbl.size; have := hup.sizeLe; omega))); have hgp : g ≤ wp.heap.size := (by have h1 := BP.out.size; have h2 := HG.out; omega); have LM9 := Lib.hid hlm9; clear hdp hqp hup hxp hlm9 hlt hbl hw9))
                          | (go_at_call 11; (refine (is_yes hasB _ _ _ _ _ snB LB _ (OS10.out.at' (OB.out.trans (IB.out.mono hgo)) (Nat.le_of_eq HG.out)) (OSV.out.sh.below IB.out) ((OL10.out.below IB.out).bss (by rw [HG.out]; exact OB.out.trans (IB.out.mono hgo))) (ORV.out.below IB.out).bss).mono ?_; rintro e wi ⟨rfl, hbi⟩; have kcJ := HKC.out wi #[.int .u8 109, .int .u8 111, .int .u8 114, .int .u8 101] 4 4; simp at kcJ; have R15J := Lib.hid (R15.out.keep hbi); have IBJ := Lib.hid (bthen IB.out hbi (Nat.le_refl _)); clear hbi)))
                      go_ret
                      rw [HG.out]
                      have hzz := BZ.out.size
                      have hzg := HG.out
                      exact ⟨rfl, bthen (balloc2 BZ.out _ (by omega)) hbl (by omega)⟩
                    · go_wp2_with (first
                          | (go_at_call 12; refine (lives15 _).mono ?_; rintro e wl ⟨rfl, hbl⟩)
                          | (go_at_call 7; (refine (LogM.opens (g + 1) S9 hasB snB s3 old3 (LB ++ [[109, 111, 114, 101]]) [] _ _ DP.out LM9.out hdd9 hl9 hlim9 (by omega) (by decide)).mono ?_; rintro e wz ⟨S10, ⟨qz, svz, rvz, rfl, hqz, hsz, hrz, hlqz⟩, hdz, huz, -⟩; obtain ⟨xz, cz, rfl, -⟩ := hsz.sh.open; obtain ⟨xy, cy, rfl, -⟩ := hrz.bss.open; obtain ⟨bz, offz, rfl, -, hatz⟩ := hrz.cells (by simp); obtain ⟨uz, huzc, houz⟩ := hatz LB.length (by simp); obtain ⟨xu, cu, rfl, -⟩ := houz.sh.open; have hgd : (LB ++ [[109, 111, 114, 101]] : List (List UInt8)).getD LB.length [] = [109, 111, 114, 101] := (by simp [List.getD]); rw [hgd] at houz huzc; have hcz := fun o => bcell (balloc (Below.refl wz.heap.size wz) o) huzc (blt huzc); have hcv : ∀ o, (convert 27 9 (.slice xu 4 cu)).run Try.prog (wz.alloc o) = .ok (.string ⟨#[109, 111, 114, 101]⟩) (wz.alloc o) := fun o => conv_run (houz.sh.at' (balloc (Below.refl wz.heap.size wz) o) (Nat.le_refl _)); have hwr : IntKind.i64.wrap ((LB.length : Int) + 1) = (LB.length : Int) + 1 := IntWalk.i64_in _ ⟨by omega, by omega⟩; have RZ := Lib.hid (huz.row RP.out (by omega)); have k0 := fun o => Row.cell (Row.alloc (RZ.out) o) 0; have k1 := fun o => Row.cell (Row.alloc (RZ.out) o) 1; have k2 := fun o => Row.cell (Row.alloc (RZ.out) o) 2; have k3 := fun o => Row.cell (Row.alloc (RZ.out) o) 3; simp only [List.getElem?_cons_succ, List.getElem?_cons_zero] at k0 k1 k2 k3; have BZ := Lib.hid (BP.out.trans (huz.below (by omega) hgp)); clear hqz hsz hrz hdz huz hatz houz huzc))
                          | (go_at_call 8; (obtain ⟨S9, hw9, hlm9, hdd9, hl9, hlim9⟩ := LogM.more OM.out hdd8 hl8 hlim8 (by omega) [109, 111, 114, 101] (by decide) (by omega); have hlt := balloc (Below.refl w9.heap.size w9) (.cells #[.int .u8 109, .int .u8 111, .int .u8 114, .int .u8 101] 5 (4, 5)); have hbl := bthen IB.out hlt (Nat.le_refl _); have hmsz := OM.out.size; have hmn := OM.out.n0; rw [List.append_nil] at hmn; have hmn := congrArg List.length hmn; refine (Append_any q8 (g + 1) (s3 + old3.length + LB.length) _ [109, 111, 114, 101] S8 _ (OQ.out.keep hbl) (OD.out.keepB hbl) (lit_sb (w1 := w9) (p := g) (4, 5) [109, 111, 114, 101] (by decide) (by have := IB.out.size; omega) _ (Upd.refl _ _)) (by omega) (by decide) (by omega) (by omega) (by omega) (by omega)).mono ?_; rw [hw9]; rintro e wp ⟨rfl, hdp, hqp, vp, hup, hxp⟩; have RP := Lib.hid (hxp.row (hup.row (R15.out.keep hlt) (by omega)) (by omega)); have DP := Lib.hid hdp; have BP := Lib.hid (((OB.out.trans (hbl.mono hgo)).trans (hup.below (by omega) (by have := hbl.size; omega))).trans (hxp.below (by omega) (by have := hbl.size; have := hup.sizeLe; omega))); have hgp : g ≤ wp.heap.size := (by have h1 := BP.out.size; have h2 := HG.out; omega); have LM9 := Lib.hid hlm9; clear hdp hqp hup hxp hlm9 hlt hbl hw9)))
                      go_ret
                      rw [HG.out]
                      have hzz := BZ.out.size
                      have hzg := HG.out
                      exact ⟨rfl, bthen (balloc2 BZ.out _ (by omega)) hbl (by omega)⟩
                exact AllReadyH.nil
              exact AllReadyH.nil
            exact AllReadyH.nil
          refine AllReadyH.cons (by simp only [List.getElem?_toArray, List.getElem?_cons_zero, List.getElem?_cons_succ] <;> rfl) (fun K hK => ?_) ?_
          · go_simp; go_at_call 22; (refine (Safe_any C KP _ t _ (HT0.out.at' (B10.out.trans ((Below.refl w10.heap.size w10).mono hg10)) (Nat.le_of_eq HG.out)) (by omega)).mono ?_; rintro e wq ⟨vq, rfl, hsq, hbq⟩; have HSQ := Lib.hid hsq; have HBQ := Lib.hid (bthen (Below.refl w10.heap.size w10) hbq (Nat.le_refl _)); have RE := Lib.hid (Row.new wq 5 []); have HSH := Lib.hid (HSQ.out.below (balloc (Below.refl _ _) (.cells #[] 5))); have HBS := Lib.hid (bthen HBQ.out (balloc (Below.refl wq.heap.size wq) (.cells #[] 5)) (Nat.le_refl _)))
            refine hK.out _ _ (by exact Row.keep hHeld hbq) (fun hHeld => ?_)
            clear hK K
            try simp only [Act.put, List.setIfInBounds_toArray, List.set_cons_zero, List.set_cons_succ, Array.replicate]
            refine wpAnyH_ready (rs := [3]) (by kernel_rfl) (by simp) ?_
            refine AllReadyH.cons (by simp only [List.getElem?_toArray, List.getElem?_cons_zero, List.getElem?_cons_succ] <;> rfl) (fun K hK => ?_) ?_
            · go_simp
              refine hK.out _ _ (by exact Row.alloc hHeld _) (fun hHeld => ?_)
              clear hK K
              try simp only [Act.put, List.setIfInBounds_toArray, List.set_cons_zero, List.set_cons_succ, Array.replicate]
              refine wpAnyH_ready (rs := [6]) (by kernel_rfl) (by simp) ?_
              refine AllReadyH.cons (by simp only [List.getElem?_toArray, List.getElem?_cons_zero, List.getElem?_cons_succ] <;> rfl) (fun K hK => ?_) ?_
              · (refine step_app_own Try.underlying27 info_byte (by with_unfolding_all rfl) (.tmp 83) (.tmp 85) rfl rfl RE.out rfl HSH.out (by omega) ?_; intro va wa hoa hba; have OA := Lib.hid hoa; have BA := Lib.hid (bthen HBS.out hba (Nat.le_refl _)))
                refine hK.out _ _ (by exact Row.keep hHeld hba) (fun hHeld => ?_)
                clear hK K
                try simp only [Act.put, List.setIfInBounds_toArray, List.set_cons_zero, List.set_cons_succ, Array.replicate]
                refine wpAnyH_ready (rs := [7]) (by kernel_rfl) (by simp) ?_
                refine AllReadyH.cons (by simp only [List.getElem?_toArray, List.getElem?_cons_zero, List.getElem?_cons_succ] <;> rfl) (fun K hK => ?_) ?_
                · go_simp; go_at_call 21; (refine (Crash_of (g + 1) KP _ (safeL KP t) S' Sc hSc _ (D10.out.keepB BA.out) (fun w' hu => (hu.own OA.out (D10.out.keepB BA.out).rowC.choose_spec (by decide)).sh) (by omega) (fun _ => by omega)).mono ?_; rintro e wc ⟨rfl, hdc, huc⟩; try go_simp)
                  refine hK.out _ _ (by exact huc.row hHeld (by omega)) (fun hHeld => ?_)
                  clear hK K
                  try simp only [Act.put, List.setIfInBounds_toArray, List.set_cons_zero, List.set_cons_succ, Array.replicate]
                  refine wpAnyH_done (by kernel_rfl) ?_ _
                  have hdr := (D10.out.keepB BA.out).rowC.choose_spec
                  have M9C := Lib.hid ((M910.out.keep BA.out).upd huc hdr (by decide) (by omega))
                  have BC := Lib.hid ((B10.out.trans (BA.out.mono hg10)).trans (huc.below (by omega) (by have := BA.out.size; omega)))
                  have HDC := Lib.hid hdc
                  obtain ⟨hasB, snB, LB, HCR', M10C'⟩ : ∃ hasB snB LB, ((∃ s old junk, LogM Sc has sn s old L junk _ ∧ junk.length ≤ (safeL KP t).length + 4000 ∧ s + old.length + L.length ≤ 500) ∨ (∃ s old junk, LogM Sc hasB snB s old LB junk _ ∧ junk.length ≤ (safeL KP t).length + 4000 ∧ s + old.length + LB.length ≤ 500)) ∧ ModR w wc (h + 1) hasB snB LB := ⟨_, _, _, HCR.out, (M1010.out.keep BA.out).upd huc hdr (by decide) (by omega)⟩
                  have M10C := Lib.hid M10C'
                  have hgc : g ≤ wc.heap.size := by have := BC.out.size; have := HG.out; omega
                  clear M10C' hdr huc hdc hba hoa hbq hsq D10 M910 M1010 B10 OA BA HBS HSH HSQ HBQ RE HCR E10 E9
                  rcases HCR' with ⟨s3, old3, jk, hlm3, hj3, hc3⟩ | ⟨s3, old3, jk, hlm3, hj3, hc3⟩
                  · have HLM3 := Lib.hid hlm3
                    clear hlm3
                    go_wp2_with (first
                        | (go_at_call 12; refine (lives15 _).mono ?_; rintro e wl ⟨rfl, hbl⟩)
                        | (go_at_call 7; (refine (LogM.opens (g + 1) S9 has sn s3 old3 (L ++ [[109, 111, 114, 101]]) [] _ _ DP.out LM9.out hdd9 hl9 hlim9 (by omega) (by decide)).mono ?_; rintro e wz ⟨S10, ⟨qz, svz, rvz, rfl, hqz, hsz, hrz, hlqz⟩, hdz, huz, -⟩; obtain ⟨xz, cz, rfl, -⟩ := hsz.sh.open; obtain ⟨xy, cy, rfl, -⟩ := hrz.bss.open; obtain ⟨bz, offz, rfl, -, hatz⟩ := hrz.cells (by simp); obtain ⟨uz, huzc, houz⟩ := hatz L.length (by simp); obtain ⟨xu, cu, rfl, -⟩ := houz.sh.open; have hgd : (L ++ [[109, 111, 114, 101]] : List (List UInt8)).getD L.length [] = [109, 111, 114, 101] := (by simp [List.getD]); rw [hgd] at houz huzc; have hcz := fun o => bcell (balloc (Below.refl wz.heap.size wz) o) huzc (blt huzc); have hcv : ∀ o, (convert 27 9 (.slice xu 4 cu)).run Try.prog (wz.alloc o) = .ok (.string ⟨#[109, 111, 114, 101]⟩) (wz.alloc o) := fun o => conv_run (houz.sh.at' (balloc (Below.refl wz.heap.size wz) o) (Nat.le_refl _)); have hwr : IntKind.i64.wrap ((L.length : Int) + 1) = (L.length : Int) + 1 := IntWalk.i64_in _ ⟨by omega, by omega⟩; have RZ := Lib.hid (huz.row RP.out (by omega)); have k0 := fun o => Row.cell (Row.alloc (RZ.out) o) 0; have k1 := fun o => Row.cell (Row.alloc (RZ.out) o) 1; have k2 := fun o => Row.cell (Row.alloc (RZ.out) o) 2; have k3 := fun o => Row.cell (Row.alloc (RZ.out) o) 3; simp only [List.getElem?_cons_succ, List.getElem?_cons_zero] at k0 k1 k2 k3; have BZ := Lib.hid (BP.out.trans (huz.below (by omega) hgp)); clear hqz hsz hrz hdz huz hatz houz huzc))
                        | (go_at_call 8; (obtain ⟨S9, hw9, hlm9, hdd9, hl9, hlim9⟩ := LogM.more OM.out hdd8 hl8 hlim8 (by omega) [109, 111, 114, 101] (by decide) (by omega); have hlt := balloc (Below.refl w9.heap.size w9) (.cells #[.int .u8 109, .int .u8 111, .int .u8 114, .int .u8 101] 5 (4, 5)); have hbl := bthen IB.out hlt (Nat.le_refl _); have hmsz := OM.out.size; have hmn := OM.out.n0; rw [List.append_nil] at hmn; have hmn := congrArg List.length hmn; refine (Append_any q8 (g + 1) (s3 + old3.length + L.length) _ [109, 111, 114, 101] S8 _ (OQ.out.keep hbl) (OD.out.keepB hbl) (lit_sb (w1 := w9) (p := g) (4, 5) [109, 111, 114, 101] (by decide) (by have := IB.out.size; omega) _ (Upd.refl _ _)) (by omega) (by decide) (by omega) (by omega) (by omega) (by omega)).mono ?_; rw [hw9]; rintro e wp ⟨rfl, hdp, hqp, vp, hup, hxp⟩; have RP := Lib.hid (hxp.row (hup.row (R15.out.keep hlt) (by omega)) (by omega)); have DP := Lib.hid hdp; have BP := Lib.hid (((OB.out.trans (hbl.mono hgo)).trans (hup.below (by omega) (by have := hbl.size; omega))).trans (hxp.below (by omega) (by have := hbl.size; have := hup.sizeLe; omega))); have hgp : g ≤ wp.heap.size := (by have h1 := BP.out.size; have h2 := HG.out; omega); have LM9 := Lib.hid hlm9; clear hdp hqp hup hxp hlm9 hlt hbl hw9))
                        | (go_at_call 11; (refine (is_yes has _ _ _ _ _ sn L _ (OS9.out.at' (OB.out.trans ((balloc (Below.refl wo.heap.size wo) _).mono hgo)) (Nat.le_of_eq HG.out)) (OSV.out.sh.below (balloc (Below.refl wo.heap.size wo) _)) ((OL9.out.below (balloc (Below.refl wo.heap.size wo) _)).bss (by rw [HG.out]; exact OB.out.trans ((balloc (Below.refl wo.heap.size wo) _).mono hgo))) (ORV.out.below (balloc (Below.refl wo.heap.size wo) _)).bss).mono ?_; rintro e w9 ⟨rfl, hb9⟩; have hbI := bthen (balloc (Below.refl wo.heap.size wo) (.cells #[.bool has, .slice xk sn.length ck, .slice xq L.length cq, .int .u64 ((s3 + old3.length + L.length : Nat) : Int)] 31)) hb9 (Nat.le_refl _); have kcI := HKC.out w9 #[.int .u8 109, .int .u8 111, .int .u8 114, .int .u8 101] 4 4; simp at kcI; have R15 := Lib.hid ((Row.new wo 31 [.bool has, .slice xk sn.length ck, .slice xq L.length cq, .int .u64 ((s3 + old3.length + L.length : Nat) : Int)]).keep hb9); have IB := Lib.hid hbI; clear hbI hb9))
                        | (go_at_call 7; (refine (LogM.opens (g + 1) Sc has sn s3 old3 L jk _ _ HDC.out HLM3.out hscd hscl hscm (by omega) (by omega)).mono ?_; rintro e wo ⟨S8, ⟨q8, sv8, rv8, rfl, hq8, hs8, hr8, hlq8⟩, hd8, hu8, hlm8, hdd8, hl8, hlim8, -⟩; obtain ⟨xk, ck, rfl, -⟩ := hs8.sh.open; obtain ⟨xq, cq, rfl, -⟩ := hr8.bss.open; have hdrC := HDC.out.rowC.choose_spec; obtain ⟨ms, mc, mr, md, r9, s9, l9⟩ := M9C.out.upd hu8 hdrC (by decide) (by omega); obtain ⟨ns, nc, nr, nd, r10, s10, l10⟩ := M10C.out.upd hu8 hdrC (by decide) (by omega); have m0 := fun o => Row.cell (Row.alloc (r9) o) 0; have m1 := fun o => Row.cell (Row.alloc (r9) o) 1; have m2 := fun o => Row.cell (Row.alloc (r9) o) 2; simp only [List.getElem?_cons_succ, List.getElem?_cons_zero] at m0 m1 m2; have OR10 := Lib.hid r10; have OS9 := Lib.hid s9; have OL9 := Lib.hid l9; have OS10 := Lib.hid s10; have OL10 := Lib.hid l10; have OB := Lib.hid (BC.out.trans (hu8.below (by omega) hgc)); have OQ := Lib.hid hq8; have OSV := Lib.hid hs8; have ORV := Lib.hid hr8; have OD := Lib.hid hd8; have hgo : g ≤ wo.heap.size := Nat.le_trans hgc hu8.sizeLe; have hqo := OQ.out.lt; have hgq8 : g + 1 < q8 := Nat.lt_trans HDC.out.lt hlq8; have OM := Lib.hid hlm8; clear hq8 hs8 hr8 hd8 hu8 hlm8 hdrC r9 s9 l9 r10 s10 l10)))
                    go_ret
                    rw [HG.out]
                    have hzz := BZ.out.size
                    have hzg := HG.out
                    exact ⟨rfl, bthen (balloc2 BZ.out _ (by omega)) hbl (by omega)⟩
                  · have HLM3 := Lib.hid hlm3
                    clear hlm3
                    go_wp2_with (first
                        | (go_at_call 7; (refine (LogM.opens (g + 1) Sc hasB snB s3 old3 LB jk _ _ HDC.out HLM3.out hscd hscl hscm (by omega) (by omega)).mono ?_; rintro e wo ⟨S8, ⟨q8, sv8, rv8, rfl, hq8, hs8, hr8, hlq8⟩, hd8, hu8, hlm8, hdd8, hl8, hlim8, -⟩; obtain ⟨xk, ck, rfl, -⟩ := hs8.sh.open; obtain ⟨xq, cq, rfl, -⟩ := hr8.bss.open; have hdrC := HDC.out.rowC.choose_spec; obtain ⟨ms, mc, mr, md, r9, s9, l9⟩ := M9C.out.upd hu8 hdrC (by decide) (by omega); obtain ⟨ns, nc, nr, nd, r10, s10, l10⟩ := M10C.out.upd hu8 hdrC (by decide) (by omega); have m0 := fun o => Row.cell (Row.alloc (r9) o) 0; have m1 := fun o => Row.cell (Row.alloc (r9) o) 1; have m2 := fun o => Row.cell (Row.alloc (r9) o) 2; simp only [List.getElem?_cons_succ, List.getElem?_cons_zero] at m0 m1 m2; have OR10 := Lib.hid r10; have OS9 := Lib.hid s9; have OL9 := Lib.hid l9; have OS10 := Lib.hid s10; have OL10 := Lib.hid l10; have OB := Lib.hid (BC.out.trans (hu8.below (by omega) hgc)); have OQ := Lib.hid hq8; have OSV := Lib.hid hs8; have ORV := Lib.hid hr8; have OD := Lib.hid hd8; have hgo : g ≤ wo.heap.size := Nat.le_trans hgc hu8.sizeLe; have hqo := OQ.out.lt; have hgq8 : g + 1 < q8 := Nat.lt_trans HDC.out.lt hlq8; have OM := Lib.hid hlm8; clear hq8 hs8 hr8 hd8 hu8 hlm8 hdrC r9 s9 l9 r10 s10 l10)))
                    refine (is_any has hasB _ _ _ _ _ sn snB L LB _ (OS9.out.at' (OB.out.trans ((balloc (Below.refl wo.heap.size wo) _).mono hgo)) (Nat.le_of_eq HG.out)) (OSV.out.sh.below (balloc (Below.refl wo.heap.size wo) _)) ((OL9.out.below (balloc (Below.refl wo.heap.size wo) _)).bss (by rw [HG.out]; exact OB.out.trans ((balloc (Below.refl wo.heap.size wo) _).mono hgo))) (ORV.out.below (balloc (Below.refl wo.heap.size wo) _)).bss).mono ?_
                    rintro e w9 ⟨bb, rfl, hb9⟩
                    have hbI := bthen (balloc (Below.refl wo.heap.size wo) (.cells #[.bool hasB, .slice xk snB.length ck, .slice xq LB.length cq, .int .u64 ((s3 + old3.length + LB.length : Nat) : Int)] 31)) hb9 (Nat.le_refl _)
                    have kcI := HKC.out w9 #[.int .u8 109, .int .u8 111, .int .u8 114, .int .u8 101] 4 4
                    simp at kcI
                    have R15 := Lib.hid ((Row.new wo 31 [.bool hasB, .slice xk snB.length ck, .slice xq LB.length cq, .int .u64 ((s3 + old3.length + LB.length : Nat) : Int)]).keep hb9)
                    have IB := Lib.hid hbI
                    clear hbI hb9
                    cases bb
                    · have t10 := OR10.out.keep IB.out
                      have t0 := Row.cell (t10) 0; have t1 := Row.cell (t10) 1; have t2 := Row.cell (t10) 2; simp only [List.getElem?_cons_succ, List.getElem?_cons_zero] at t0 t1 t2
                      have k0 := Row.cell (R15.out) 0; have k1 := Row.cell (R15.out) 1; have k2 := Row.cell (R15.out) 2; have k3 := Row.cell (R15.out) 3; simp only [List.getElem?_cons_succ, List.getElem?_cons_zero] at k0 k1 k2 k3
                      clear t10
                      go_wp2_with (first
                          | (go_at_call 12; refine (lives15 _).mono ?_; rintro e wl ⟨rfl, hbl⟩)
                          | (go_at_call 7; (refine (LogM.opens (g + 1) S9 hasB snB s3 old3 (LB ++ [[109, 111, 114, 101]]) [] _ _ DP.out LM9.out hdd9 hl9 hlim9 (by omega) (by decide)).mono ?_; rintro e wz ⟨S10, ⟨qz, svz, rvz, rfl, hqz, hsz, hrz, hlqz⟩, hdz, huz, -⟩; obtain ⟨xz, cz, rfl, -⟩ := hsz.sh.open; obtain ⟨xy, cy, rfl, -⟩ := hrz.bss.open; obtain ⟨bz, offz, rfl, -, hatz⟩ := hrz.cells (by simp); obtain ⟨uz, huzc, houz⟩ := hatz LB.length (by simp); obtain ⟨xu, cu, rfl, -⟩ := houz.sh.open; have hgd : (LB ++ [[109, 111, 114, 101]] : List (List UInt8)).getD LB.length [] = [109, 111, 114, 101] := (by simp [List.getD]); rw [hgd] at houz huzc; have hcz := fun o => bcell (balloc (Below.refl wz.heap.size wz) o) huzc (blt huzc); have hcv : ∀ o, (convert 27 9 (.slice xu 4 cu)).run Try.prog (wz.alloc o) = .ok (.string ⟨#[109, 111, 114, 101]⟩) (wz.alloc o) := fun o => conv_run (houz.sh.at' (balloc (Below.refl wz.heap.size wz) o) (Nat.le_refl _)); have hwr : IntKind.i64.wrap ((LB.length : Int) + 1) = (LB.length : Int) + 1 := IntWalk.i64_in _ ⟨by omega, by omega⟩; have RZ := Lib.hid (huz.row RP.out (by omega)); have k0 := fun o => Row.cell (Row.alloc (RZ.out) o) 0; have k1 := fun o => Row.cell (Row.alloc (RZ.out) o) 1; have k2 := fun o => Row.cell (Row.alloc (RZ.out) o) 2; have k3 := fun o => Row.cell (Row.alloc (RZ.out) o) 3; simp only [List.getElem?_cons_succ, List.getElem?_cons_zero] at k0 k1 k2 k3; have BZ := Lib.hid (BP.out.trans (huz.below (by omega) hgp)); clear hqz hsz hrz hdz huz hatz houz huzc))
                          | (go_at_call 8; (obtain ⟨S9, hw9, hlm9, hdd9, hl9, hlim9⟩ := LogM.more OM.out hdd8 hl8 hlim8 (by omega) [109, 111, 114, 101] (by decide) (by omega); have hlt := balloc (Below.refl wi.heap.size wi) (.cells #[.int .u8 109, .int .u8 111, .int .u8 114, .int .u8 101] 5 (4, 5)); have hbl := bthen IBJ.out hlt (Nat.le_refl _); have hmsz := OM.out.size; have hmn := OM.out.n0; rw [List.append_nil] at hmn; have hmn := congrArg List.length hmn; refine (Append_any q8 (g + 1) (s3 + old3.length + LB.length) _ [109, 111, 114, 101] S8 _ (OQ.out.keep hbl) (OD.out.keepB hbl) (lit_sb (w1 := wi) (p := g) (4, 5) [109, 111, 114, 101] (by decide) (by have := IBJ.out.size; omega) _ (Upd.refl _ _)) (by omega) (by decide) (by omega) (by omega) (by omega) (by omega)).mono ?_; rw [hw9]; rintro e wp ⟨rfl, hdp, hqp, vp, hup, hxp⟩; have RP := Lib.hid (hxp.row (hup.row (R15J.out.keep hlt) (by omega)) (by omega)); have DP := Lib.hid hdp; have BP := Lib.hid (((OB.out.trans (hbl.mono hgo)).trans (hup.below (by omega) (by have := hbl.size; omega))).trans (hxp.below (by omega) (by have := hbl.size; have := hup.sizeLe; omega))); have hgp : g ≤ wp.heap.size := (by have h1 := BP.out.size; have h2 := HG.out; omega); have LM9 := Lib.hid hlm9; clear hdp hqp hup hxp hlm9 hlt hbl hw9))
                          | (go_at_call 11; (refine (is_yes hasB _ _ _ _ _ snB LB _ (OS10.out.at' (OB.out.trans (IB.out.mono hgo)) (Nat.le_of_eq HG.out)) (OSV.out.sh.below IB.out) ((OL10.out.below IB.out).bss (by rw [HG.out]; exact OB.out.trans (IB.out.mono hgo))) (ORV.out.below IB.out).bss).mono ?_; rintro e wi ⟨rfl, hbi⟩; have kcJ := HKC.out wi #[.int .u8 109, .int .u8 111, .int .u8 114, .int .u8 101] 4 4; simp at kcJ; have R15J := Lib.hid (R15.out.keep hbi); have IBJ := Lib.hid (bthen IB.out hbi (Nat.le_refl _)); clear hbi)))
                      go_ret
                      rw [HG.out]
                      have hzz := BZ.out.size
                      have hzg := HG.out
                      exact ⟨rfl, bthen (balloc2 BZ.out _ (by omega)) hbl (by omega)⟩
                    · go_wp2_with (first
                          | (go_at_call 12; refine (lives15 _).mono ?_; rintro e wl ⟨rfl, hbl⟩)
                          | (go_at_call 7; (refine (LogM.opens (g + 1) S9 hasB snB s3 old3 (LB ++ [[109, 111, 114, 101]]) [] _ _ DP.out LM9.out hdd9 hl9 hlim9 (by omega) (by decide)).mono ?_; rintro e wz ⟨S10, ⟨qz, svz, rvz, rfl, hqz, hsz, hrz, hlqz⟩, hdz, huz, -⟩; obtain ⟨xz, cz, rfl, -⟩ := hsz.sh.open; obtain ⟨xy, cy, rfl, -⟩ := hrz.bss.open; obtain ⟨bz, offz, rfl, -, hatz⟩ := hrz.cells (by simp); obtain ⟨uz, huzc, houz⟩ := hatz LB.length (by simp); obtain ⟨xu, cu, rfl, -⟩ := houz.sh.open; have hgd : (LB ++ [[109, 111, 114, 101]] : List (List UInt8)).getD LB.length [] = [109, 111, 114, 101] := (by simp [List.getD]); rw [hgd] at houz huzc; have hcz := fun o => bcell (balloc (Below.refl wz.heap.size wz) o) huzc (blt huzc); have hcv : ∀ o, (convert 27 9 (.slice xu 4 cu)).run Try.prog (wz.alloc o) = .ok (.string ⟨#[109, 111, 114, 101]⟩) (wz.alloc o) := fun o => conv_run (houz.sh.at' (balloc (Below.refl wz.heap.size wz) o) (Nat.le_refl _)); have hwr : IntKind.i64.wrap ((LB.length : Int) + 1) = (LB.length : Int) + 1 := IntWalk.i64_in _ ⟨by omega, by omega⟩; have RZ := Lib.hid (huz.row RP.out (by omega)); have k0 := fun o => Row.cell (Row.alloc (RZ.out) o) 0; have k1 := fun o => Row.cell (Row.alloc (RZ.out) o) 1; have k2 := fun o => Row.cell (Row.alloc (RZ.out) o) 2; have k3 := fun o => Row.cell (Row.alloc (RZ.out) o) 3; simp only [List.getElem?_cons_succ, List.getElem?_cons_zero] at k0 k1 k2 k3; have BZ := Lib.hid (BP.out.trans (huz.below (by omega) hgp)); clear hqz hsz hrz hdz huz hatz houz huzc))
                          | (go_at_call 8; (obtain ⟨S9, hw9, hlm9, hdd9, hl9, hlim9⟩ := LogM.more OM.out hdd8 hl8 hlim8 (by omega) [109, 111, 114, 101] (by decide) (by omega); have hlt := balloc (Below.refl w9.heap.size w9) (.cells #[.int .u8 109, .int .u8 111, .int .u8 114, .int .u8 101] 5 (4, 5)); have hbl := bthen IB.out hlt (Nat.le_refl _); have hmsz := OM.out.size; have hmn := OM.out.n0; rw [List.append_nil] at hmn; have hmn := congrArg List.length hmn; refine (Append_any q8 (g + 1) (s3 + old3.length + LB.length) _ [109, 111, 114, 101] S8 _ (OQ.out.keep hbl) (OD.out.keepB hbl) (lit_sb (w1 := w9) (p := g) (4, 5) [109, 111, 114, 101] (by decide) (by have := IB.out.size; omega) _ (Upd.refl _ _)) (by omega) (by decide) (by omega) (by omega) (by omega) (by omega)).mono ?_; rw [hw9]; rintro e wp ⟨rfl, hdp, hqp, vp, hup, hxp⟩; have RP := Lib.hid (hxp.row (hup.row (R15.out.keep hlt) (by omega)) (by omega)); have DP := Lib.hid hdp; have BP := Lib.hid (((OB.out.trans (hbl.mono hgo)).trans (hup.below (by omega) (by have := hbl.size; omega))).trans (hxp.below (by omega) (by have := hbl.size; have := hup.sizeLe; omega))); have hgp : g ≤ wp.heap.size := (by have h1 := BP.out.size; have h2 := HG.out; omega); have LM9 := Lib.hid hlm9; clear hdp hqp hup hxp hlm9 hlt hbl hw9)))
                      go_ret
                      rw [HG.out]
                      have hzz := BZ.out.size
                      have hzg := HG.out
                      exact ⟨rfl, bthen (balloc2 BZ.out _ (by omega)) hbl (by omega)⟩
                exact AllReadyH.nil
              exact AllReadyH.nil
            exact AllReadyH.nil
          exact AllReadyH.nil
      · skip
        go_upto_region 13 with (go_at_call 10; (refine (after1 N xo xs xr ko sn.length L.length cs cr has B _ (HS0.out.at' (HB.out.trans ((balloc (Below.refl wr.heap.size wr) (.cells #[.int .i64 1, .int .i64 N, .slice xo B.length ko] 38 )).mono hps)) (Nat.le_of_eq HG.out)) hbb).mono ?_; rintro e w4 ⟨rfl, hb4⟩;  have HBA4 := Lib.hid (bstep (balloc (Below.refl wr.heap.size wr) (.cells #[.int .i64 1, .int .i64 N, .slice xo B.length ko] 38 )) hb4); have A4 := Lib.hid ((Row.new wr 38 [.int .i64 1, .int .i64 N, .slice xo B.length ko]).keep hb4); have R10 := Lib.hid (HR10.out.keep HBA4.out); have n0 := Row.cell (R10.out) 0; have n1 := Row.cell (R10.out) 1; have n2 := Row.cell (R10.out) 2; simp only [List.getElem?_cons_succ, List.getElem?_cons_zero] at n0 n1 n2; have nf0 := Row.frozen (R10.out) 0; have nf1 := Row.frozen (R10.out) 1; have nf2 := Row.frozen (R10.out) 2; clear hb4))
        
        have U5 := upd3 (h + 1) w4 (.bool true) (.slice xo (min 3000 B.length) ko) (.slice none 0 0)
        have M10 : ModR w (((w4.setCell ⟨h + 1, 0, none⟩ (.bool true)).setCell ⟨h + 1, 1, none⟩ (.slice xo (min 3000 B.length) ko)).setCell ⟨h + 1, 2, none⟩ (.slice none 0 0)) (h + 1) true (B.take 3000) [] := (⟨xo, ko, none, 0, by rw [List.length_take]; exact Row.set (Row.set (Row.set R10.out 0 _) 1 _) 2 _, HS0.out.taken, ModL.nil _ _⟩)
        have hg4 : g ≤ w4.heap.size := by have := HBA4.out.size; omega
        have D5 := Lib.hid ((HD.out.keepB HBA4.out).updO R10.out (by decide) (by omega) U5)
        have Q5 := Lib.hid (U5.row (show Row w4 q 71 _ from HQ.out.keep HBA4.out) (by omega))
        have M95 := Lib.hid ((HM9.out.keep HBA4.out).upd U5 R10.out (by decide) (by omega))
        have M105 := Lib.hid M10
        have E5 := Lib.hid (U5.row (HE.out.keep HBA4.out) (by omega))
        have A5 := Lib.hid (U5.row A4.out (by have := HR10.out.lt; omega))
        have B5 := Lib.hid ((HB.out.trans (HBA4.out.mono hps)).trans (U5.below (by omega) hg4))
        have S5 := Lib.hid (show wr.heap.size < (((w4.setCell ⟨h + 1, 0, none⟩ (.bool true)).setCell ⟨h + 1, 1, none⟩ (.slice xo (min 3000 B.length) ko)).setCell ⟨h + 1, 2, none⟩ (.slice none 0 0)).heap.size from A5.out.lt)
        generalize ((w4.setCell ⟨h + 1, 0, none⟩ (.bool true)).setCell ⟨h + 1, 1, none⟩ (.slice xo (min 3000 B.length) ko)).setCell ⟨h + 1, 2, none⟩ (.slice none 0 0) = w5 at *
        clear M10 U5 n0 n1 n2 nf0 nf1 nf2 R10 A4 HBA4 m0 m1 m2 HR9 HS9 HL9 HR10 c0' c1' c2' hk
        have b0 := Row.cell (A5.out) 0; have b1 := Row.cell (A5.out) 1; have b2 := Row.cell (A5.out) 2; simp only [List.getElem?_cons_succ, List.getElem?_cons_zero] at b0 b1 b2
        have a0 := fun o => Row.cell (Row.alloc (A5.out) o) 0; have a1 := fun o => Row.cell (Row.alloc (A5.out) o) 1; have a2 := fun o => Row.cell (Row.alloc (A5.out) o) 2; simp only [List.getElem?_cons_succ, List.getElem?_cons_zero] at a0 a1 a2
        have hg5 : g ≤ w5.heap.size := by have := B5.out.size; have := HG.out; omega
        have hsz0 : S.n0.length + S.n1.length ≤ 3030 * (j + 1) := by
          have h1 := HLM.out.size
          have h2 := HLM.out.n0
          rw [List.append_nil] at h2
          rw [h2]; exact h1
        have hltop := HAL.out.top
        have hllim := HAL.out.lim
        obtain ⟨S', e', hw, hc⟩ := wsnap_step S has sn s old L _ (B.take 3000) HAL.out HLM.out hpl (by omega) (by omega)
        rcases hc with ⟨rfl, hal', hlm'⟩ | ⟨rfl, hdd, hlim', hsz', hrec⟩
        · have HW := Lib.hid hw
          clear hw
          go_wp2_with (first
              | (go_at_call 9; (refine (bytes_act 1 N xo ko B _ (HS0.out.at' (B5.out.trans ((balloc (Below.refl w5.heap.size w5) (.cells #[] 5)).mono hg5)) (Nat.le_of_eq HG.out)) hbb).mono ?_; rintro e w6 ⟨rfl, hb6⟩; have HBA6 := Lib.hid (bstep (balloc (Below.refl w5.heap.size w5) (.cells #[] 5)) hb6); have EE6 := Lib.hid ((Row.new w5 5 []).keep hb6); have SS := (HS0.out.at' (B5.out.trans (HBA6.out.mono hg5)) (Nat.le_of_eq HG.out)).taken; rw [List.length_take] at SS; have H6 := Lib.hid SS; clear SS hb6))
              | (at_builtin; (refine app_own_w Try.underlying27 info_byte (by with_unfolding_all rfl) (.tmp 68) (.tmp 70) rfl rfl EE6.out rfl H6.out (by omega) ?_; intro v7 w7 ho7 hb7; have O7 := Lib.hid ho7; have HB7 := Lib.hid (bstep HBA6.out hb7); clear ho7 hb7))
              | (go_at_call 19; (refine (Snap_any q (g + 1) (s + old.length + L.length) _ (B.take 3000) S _ (Q5.out.keep HB7.out) (D5.out.keepB HB7.out) O7.out.sh (by omega) (by omega) (by omega) hltop (by omega) (by omega)).mono ?_; rw [HW.out]; rintro e w8 ⟨rfl, hd8, hu8⟩; have D8 := Lib.hid hd8; have Q8 := Lib.hid (show WalR w8 q (g + 1) (s + old.length + L.length) from hu8.row (Q5.out.keep HB7.out) (by omega)); have M98 := Lib.hid ((M95.out.keep HB7.out).upd hu8 (D5.out.keepB HB7.out).rowC.choose_spec (by decide) (by omega)); have M108 := Lib.hid ((M105.out.keep HB7.out).upd hu8 (D5.out.keepB HB7.out).rowC.choose_spec (by decide) (by omega)); have E8 := Lib.hid (hu8.row (E5.out.keep HB7.out) (by omega)); have B8 := Lib.hid ((B5.out.trans (HB7.out.mono hg5)).trans (hu8.below (by omega) (by have := HB7.out.size; omega))); clear hd8 hu8; obtain ⟨ys, ds, yr, dr, r10, s10, l10⟩ := M108.out; simp only [List.length_take, List.length_nil] at r10 s10 l10; obtain ⟨zs, es, zr, er, r9, s9, l9⟩ := M98.out; have p0 := Row.cell (r10) 0; have p1 := Row.cell (r10) 1; have p2 := Row.cell (r10) 2; simp only [List.getElem?_cons_succ, List.getElem?_cons_zero] at p0 p1 p2; have z0 := Row.cell (r9) 0; have z1 := Row.cell (r9) 1; have z2 := Row.cell (r9) 2; simp only [List.getElem?_cons_succ, List.getElem?_cons_zero] at z0 z1 z2; have zf0 := Row.frozen (r9) 0; have zf1 := Row.frozen (r9) 1; have zf2 := Row.frozen (r9) 2; have R98 := Lib.hid r9; have S108 := Lib.hid s10; have L108 := Lib.hid l10; clear r9 r10 s9 s10 l9 l10)))
          have U9 := upd3 h w8 (.bool true) (.slice ys (min 3000 B.length) ds) (.slice yr (0) dr)
          have hg8 : g ≤ w8.heap.size := by have := B8.out.size; have := HG.out; omega
          exact ⟨⟨j + 1, S', true, (B.take 3000), (s + old.length + L.length), [], [], true, (B.take 3000), [], by omega, by go_num, by omega, D8.out.updO R98.out (by decide) (by omega) U9, hal', hlm'.widen (by omega), (U9.row (show Row w8 q 71 _ from Q8.out) (by omega)), (ModR.copy List.length_take rfl S108.out L108.out R98.out), M108.out.upd U9 R98.out (by decide) (by omega), U9.row E8.out (by omega), B8.out.trans (U9.below (by omega) hg8), by simp only [List.length_nil]; omega⟩, by simp [intOf]; omega⟩
        · have HW := Lib.hid hw
          have HREC := Lib.hid hrec
          clear hw hrec
          go_upto_region 21 with (first
              | (go_at_call 9; (refine (bytes_act 1 N xo ko B _ (HS0.out.at' (B5.out.trans ((balloc (Below.refl w5.heap.size w5) (.cells #[] 5)).mono hg5)) (Nat.le_of_eq HG.out)) hbb).mono ?_; rintro e w6 ⟨rfl, hb6⟩; have HBA6 := Lib.hid (bstep (balloc (Below.refl w5.heap.size w5) (.cells #[] 5)) hb6); have EE6 := Lib.hid ((Row.new w5 5 []).keep hb6); have SS := (HS0.out.at' (B5.out.trans (HBA6.out.mono hg5)) (Nat.le_of_eq HG.out)).taken; rw [List.length_take] at SS; have H6 := Lib.hid SS; clear SS hb6))
              | (at_builtin; (refine app_own_w Try.underlying27 info_byte (by with_unfolding_all rfl) (.tmp 68) (.tmp 70) rfl rfl EE6.out rfl H6.out (by omega) ?_; intro v7 w7 ho7 hb7; have O7 := Lib.hid ho7; have HB7 := Lib.hid (bstep HBA6.out hb7); clear ho7 hb7))
              | (go_at_call 19; (refine (Snap_any q (g + 1) (s + old.length + L.length) _ (B.take 3000) S _ (Q5.out.keep HB7.out) (D5.out.keepB HB7.out) O7.out.sh (by omega) (by omega) (by omega) hltop (by omega) (by omega)).mono ?_; rw [HW.out]; rintro e w8 ⟨rfl, hd8, hu8⟩; have D8 := Lib.hid hd8; have Q8 := Lib.hid (show WalR w8 q (g + 1) (s + old.length + L.length) from hu8.row (Q5.out.keep HB7.out) (by omega)); have M98 := Lib.hid ((M95.out.keep HB7.out).upd hu8 (D5.out.keepB HB7.out).rowC.choose_spec (by decide) (by omega)); have M108 := Lib.hid ((M105.out.keep HB7.out).upd hu8 (D5.out.keepB HB7.out).rowC.choose_spec (by decide) (by omega)); have E8 := Lib.hid (hu8.row (E5.out.keep HB7.out) (by omega)); have B8 := Lib.hid ((B5.out.trans (HB7.out.mono hg5)).trans (hu8.below (by omega) (by have := HB7.out.size; omega))); clear hd8 hu8))
              | (go_at_call 20; (refine (Dead_dsk (g + 1) S' _ D8.out).mono ?_; rw [hdd]; rintro e wd ⟨rfl, hwd⟩; have hwd' := hwd.symm; clear hwd; subst hwd')))
          have D9 := D8
          have M99 := M98
          have M109 := M108
          have E9 := E8
          have B9 := B8
          clear D8 M98 M108 E8 B8 Q8 HBA6 EE6 H6 O7 HB7 b0 b1 b2 a0 a1 a2 D5 Q5 M95 M105 E5 A5 B5 S5 HW HM9 HM10 HD HQ HE HB
          have hg9 : g ≤ w8.heap.size := by have := B9.out.size; have := HG.out; omega
          have hcr := HREC.out KP (safeL KP t) (safeL_safe KP t)
          obtain ⟨Sc, hSc⟩ : ∃ Sc, S'.crash KP (safeL KP t) = Sc := ⟨_, rfl⟩
          rw [hSc] at hcr
          have hscd : Sc.dead = false := by rw [← hSc]; rfl
          have hscl : Sc.left = -1 := by rw [← hSc]; rfl
          have hscm : Sc.lim = 1048576 := by rw [← hSc]; exact hlim'
          have htl2 := safeL_len KP t
          have HCR := Lib.hid hcr
          have D10 := Lib.hid (D9.out.keepB (Below.refl _ _).drew)
          have M910 := Lib.hid (M99.out.keep (Below.refl _ _).drew)
          have M1010 := Lib.hid (M109.out.keep (Below.refl _ _).drew)
          have B10 := Lib.hid (B9.out.trans ((Below.refl w8.heap.size w8).drew.mono hg9))
          have E10 := Lib.hid (Row.drew E9.out)
          clear D9 M99 M109 B9 hcr HREC
          refine wp_region_held_drew (S := fun w' => Row w' g 56 [.int .i64 C, .int .i64 KP, .slice xt t.length ct]) (by kernel_rfl) (by exact Row.drew E9.out) (fun hHeld => ?_)
          generalize World.drew w8 = w10 at *
          have hg10 : g ≤ w10.heap.size := by have := B10.out.size; have := HG.out; omega
          refine wpAnyH_take (i := 0) (v := ?_) (by simp only [List.getElem?_toArray, List.getElem?_cons_zero, List.getElem?_cons_succ] <;> rfl) (by kernel_rfl) (by kernel_rfl) (by kernel_rfl) (by intro _ _ _ h; exact h) (Or.inl ⟨by rfl, ?_⟩) (by assumption) ?_
          rotate_left
          · intro w _; go_simp; try with_reducible rfl
          try simp only [Act.put, List.setIfInBounds_toArray, List.set_cons_zero, List.set_cons_succ, Array.replicate]
          refine wpAnyH_take (i := 1) (v := ?_) (by simp only [List.getElem?_toArray, List.getElem?_cons_zero, List.getElem?_cons_succ] <;> rfl) (by kernel_rfl) (by kernel_rfl) (by kernel_rfl) (by intro _ _ _ h; exact h) (Or.inl ⟨by rfl, ?_⟩) (by assumption) ?_
          rotate_left
          · intro w _; go_simp; try with_reducible rfl
          try simp only [Act.put, List.setIfInBounds_toArray, List.set_cons_zero, List.set_cons_succ, Array.replicate]
          refine wpAnyH_take (i := 2) (v := ?_) (by simp only [List.getElem?_toArray, List.getElem?_cons_zero, List.getElem?_cons_succ] <;> rfl) (by kernel_rfl) (by kernel_rfl) (by kernel_rfl) (by intro _ _ _ h; exact h) (Or.inl ⟨by rfl, ?_⟩) (by assumption) ?_
          rotate_left
          · intro w hSS; have q1 := Row.cell hSS 1; simp only [List.getElem?_cons_succ, List.getElem?_cons_zero] at q1; go_simp; try with_reducible rfl
          try simp only [Act.put, List.setIfInBounds_toArray, List.set_cons_zero, List.set_cons_succ, Array.replicate]
          refine wpAnyH_take (i := 4) (v := ?_) (by simp only [List.getElem?_toArray, List.getElem?_cons_zero, List.getElem?_cons_succ] <;> rfl) (by kernel_rfl) (by kernel_rfl) (by kernel_rfl) (by intro _ _ _ h; exact h) (Or.inl ⟨by rfl, ?_⟩) (by assumption) ?_
          rotate_left
          · intro w hSS; have q0 := Row.cell hSS 0; have q1 := Row.cell hSS 1; have q2 := Row.cell hSS 2; simp only [List.getElem?_cons_succ, List.getElem?_cons_zero] at q0 q1 q2; go_simp; try with_reducible rfl
          try simp only [Act.put, List.setIfInBounds_toArray, List.set_cons_zero, List.set_cons_succ, Array.replicate]
          refine wpAnyH_ready (rs := [3, 5]) (by kernel_rfl) (by simp) ?_
          refine AllReadyH.cons (by simp only [List.getElem?_toArray, List.getElem?_cons_zero, List.getElem?_cons_succ] <;> rfl) (fun K hK => ?_) ?_
          · go_simp
            refine hK.out _ _ (by exact Row.alloc hHeld _) (fun hHeld => ?_)
            clear hK K
            try simp only [Act.put, List.setIfInBounds_toArray, List.set_cons_zero, List.set_cons_succ, Array.replicate]
            refine wpAnyH_ready (rs := [5]) (by kernel_rfl) (by simp) ?_
            refine AllReadyH.cons (by simp only [List.getElem?_toArray, List.getElem?_cons_zero, List.getElem?_cons_succ] <;> rfl) (fun K hK => ?_) ?_
            · go_simp; go_at_call 22; (refine (Safe_any C KP _ t _ (HT0.out.at' (B10.out.trans ((balloc (Below.refl w10.heap.size w10) (.cells #[] 5)).mono hg10)) (Nat.le_of_eq HG.out)) (by omega)).mono ?_; rintro e wq ⟨vq, rfl, hsq, hbq⟩; have HSQ := Lib.hid hsq; have HBQ := Lib.hid (bthen (balloc (Below.refl w10.heap.size w10) (.cells #[] 5)) hbq (Nat.le_refl _)); have RE := Lib.hid ((Row.new w10 5 []).keep hbq); have HSH := HSQ; have HBS := HBQ)
              refine hK.out _ _ (by exact Row.keep hHeld hbq) (fun hHeld => ?_)
              clear hK K
              try simp only [Act.put, List.setIfInBounds_toArray, List.set_cons_zero, List.set_cons_succ, Array.replicate]
              refine wpAnyH_ready (rs := [6]) (by kernel_rfl) (by simp) ?_
              refine AllReadyH.cons (by simp only [List.getElem?_toArray, List.getElem?_cons_zero, List.getElem?_cons_succ] <;> rfl) (fun K hK => ?_) ?_
              · (refine step_app_own Try.underlying27 info_byte (by with_unfolding_all rfl) (.tmp 83) (.tmp 85) rfl rfl RE.out rfl HSH.out (by omega) ?_; intro va wa hoa hba; have OA := Lib.hid hoa; have BA := Lib.hid (bthen HBS.out hba (Nat.le_refl _)))
                refine hK.out _ _ (by exact Row.keep hHeld hba) (fun hHeld => ?_)
                clear hK K
                try simp only [Act.put, List.setIfInBounds_toArray, List.set_cons_zero, List.set_cons_succ, Array.replicate]
                refine wpAnyH_ready (rs := [7]) (by kernel_rfl) (by simp) ?_
                refine AllReadyH.cons (by simp only [List.getElem?_toArray, List.getElem?_cons_zero, List.getElem?_cons_succ] <;> rfl) (fun K hK => ?_) ?_
                · go_simp; go_at_call 21; (refine (Crash_of (g + 1) KP _ (safeL KP t) S' Sc hSc _ (D10.out.keepB BA.out) (fun w' hu => (hu.own OA.out (D10.out.keepB BA.out).rowC.choose_spec (by decide)).sh) (by omega) (fun _ => by omega)).mono ?_; rintro e wc ⟨rfl, hdc, huc⟩; try go_simp)
                  refine hK.out _ _ (by exact huc.row hHeld (by omega)) (fun hHeld => ?_)
                  clear hK K
                  try simp only [Act.put, List.setIfInBounds_toArray, List.set_cons_zero, List.set_cons_succ, Array.replicate]
                  refine wpAnyH_done (by kernel_rfl) ?_ _
                  have hdr := (D10.out.keepB BA.out).rowC.choose_spec
                  have M9C := Lib.hid ((M910.out.keep BA.out).upd huc hdr (by decide) (by omega))
                  have BC := Lib.hid ((B10.out.trans (BA.out.mono hg10)).trans (huc.below (by omega) (by have := BA.out.size; omega)))
                  have HDC := Lib.hid hdc
                  obtain ⟨hasB, snB, LB, HCR', M10C'⟩ : ∃ hasB snB LB, ((∃ s old junk, LogM Sc has sn s old L junk _ ∧ junk.length ≤ (safeL KP t).length + 4000 ∧ s + old.length + L.length ≤ 500) ∨ (∃ s old junk, LogM Sc hasB snB s old LB junk _ ∧ junk.length ≤ (safeL KP t).length + 4000 ∧ s + old.length + LB.length ≤ 500)) ∧ ModR w wc (h + 1) hasB snB LB := ⟨_, _, _, HCR.out, (M1010.out.keep BA.out).upd huc hdr (by decide) (by omega)⟩
                  have M10C := Lib.hid M10C'
                  have hgc : g ≤ wc.heap.size := by have := BC.out.size; have := HG.out; omega
                  clear M10C' hdr huc hdc hba hoa hbq hsq D10 M910 M1010 B10 OA BA HBS HSH HSQ HBQ RE HCR E10 E9
                  rcases HCR' with ⟨s3, old3, jk, hlm3, hj3, hc3⟩ | ⟨s3, old3, jk, hlm3, hj3, hc3⟩
                  · have HLM3 := Lib.hid hlm3
                    clear hlm3
                    go_wp2_with (first
                        | (go_at_call 12; refine (lives15 _).mono ?_; rintro e wl ⟨rfl, hbl⟩)
                        | (go_at_call 7; (refine (LogM.opens (g + 1) S9 has sn s3 old3 (L ++ [[109, 111, 114, 101]]) [] _ _ DP.out LM9.out hdd9 hl9 hlim9 (by omega) (by decide)).mono ?_; rintro e wz ⟨S10, ⟨qz, svz, rvz, rfl, hqz, hsz, hrz, hlqz⟩, hdz, huz, -⟩; obtain ⟨xz, cz, rfl, -⟩ := hsz.sh.open; obtain ⟨xy, cy, rfl, -⟩ := hrz.bss.open; obtain ⟨bz, offz, rfl, -, hatz⟩ := hrz.cells (by simp); obtain ⟨uz, huzc, houz⟩ := hatz L.length (by simp); obtain ⟨xu, cu, rfl, -⟩ := houz.sh.open; have hgd : (L ++ [[109, 111, 114, 101]] : List (List UInt8)).getD L.length [] = [109, 111, 114, 101] := (by simp [List.getD]); rw [hgd] at houz huzc; have hcz := fun o => bcell (balloc (Below.refl wz.heap.size wz) o) huzc (blt huzc); have hcv : ∀ o, (convert 27 9 (.slice xu 4 cu)).run Try.prog (wz.alloc o) = .ok (.string ⟨#[109, 111, 114, 101]⟩) (wz.alloc o) := fun o => conv_run (houz.sh.at' (balloc (Below.refl wz.heap.size wz) o) (Nat.le_refl _)); have hwr : IntKind.i64.wrap ((L.length : Int) + 1) = (L.length : Int) + 1 := IntWalk.i64_in _ ⟨by omega, by omega⟩; have RZ := Lib.hid (huz.row RP.out (by omega)); have k0 := fun o => Row.cell (Row.alloc (RZ.out) o) 0; have k1 := fun o => Row.cell (Row.alloc (RZ.out) o) 1; have k2 := fun o => Row.cell (Row.alloc (RZ.out) o) 2; have k3 := fun o => Row.cell (Row.alloc (RZ.out) o) 3; simp only [List.getElem?_cons_succ, List.getElem?_cons_zero] at k0 k1 k2 k3; have BZ := Lib.hid (BP.out.trans (huz.below (by omega) hgp)); clear hqz hsz hrz hdz huz hatz houz huzc))
                        | (go_at_call 8; (obtain ⟨S9, hw9, hlm9, hdd9, hl9, hlim9⟩ := LogM.more OM.out hdd8 hl8 hlim8 (by omega) [109, 111, 114, 101] (by decide) (by omega); have hlt := balloc (Below.refl w9.heap.size w9) (.cells #[.int .u8 109, .int .u8 111, .int .u8 114, .int .u8 101] 5 (4, 5)); have hbl := bthen IB.out hlt (Nat.le_refl _); have hmsz := OM.out.size; have hmn := OM.out.n0; rw [List.append_nil] at hmn; have hmn := congrArg List.length hmn; refine (Append_any q8 (g + 1) (s3 + old3.length + L.length) _ [109, 111, 114, 101] S8 _ (OQ.out.keep hbl) (OD.out.keepB hbl) (lit_sb (w1 := w9) (p := g) (4, 5) [109, 111, 114, 101] (by decide) (by have := IB.out.size; omega) _ (Upd.refl _ _)) (by omega) (by decide) (by omega) (by omega) (by omega) (by omega)).mono ?_; rw [hw9]; rintro e wp ⟨rfl, hdp, hqp, vp, hup, hxp⟩; have RP := Lib.hid (hxp.row (hup.row (R15.out.keep hlt) (by omega)) (by omega)); have DP := Lib.hid hdp; have BP := Lib.hid (((OB.out.trans (hbl.mono hgo)).trans (hup.below (by omega) (by have := hbl.size; omega))).trans (hxp.below (by omega) (by have := hbl.size; have := hup.sizeLe; omega))); have hgp : g ≤ wp.heap.size := (by have h1 := BP.out.size; have h2 := HG.out; omega); have LM9 := Lib.hid hlm9; clear hdp hqp hup hxp hlm9 hlt hbl hw9))
                        | (go_at_call 11; (refine (is_yes has _ _ _ _ _ sn L _ (OS9.out.at' (OB.out.trans ((balloc (Below.refl wo.heap.size wo) _).mono hgo)) (Nat.le_of_eq HG.out)) (OSV.out.sh.below (balloc (Below.refl wo.heap.size wo) _)) ((OL9.out.below (balloc (Below.refl wo.heap.size wo) _)).bss (by rw [HG.out]; exact OB.out.trans ((balloc (Below.refl wo.heap.size wo) _).mono hgo))) (ORV.out.below (balloc (Below.refl wo.heap.size wo) _)).bss).mono ?_; rintro e w9 ⟨rfl, hb9⟩; have hbI := bthen (balloc (Below.refl wo.heap.size wo) (.cells #[.bool has, .slice xk sn.length ck, .slice xq L.length cq, .int .u64 ((s3 + old3.length + L.length : Nat) : Int)] 31)) hb9 (Nat.le_refl _); have kcI := HKC.out w9 #[.int .u8 109, .int .u8 111, .int .u8 114, .int .u8 101] 4 4; simp at kcI; have R15 := Lib.hid ((Row.new wo 31 [.bool has, .slice xk sn.length ck, .slice xq L.length cq, .int .u64 ((s3 + old3.length + L.length : Nat) : Int)]).keep hb9); have IB := Lib.hid hbI; clear hbI hb9))
                        | (go_at_call 7; (refine (LogM.opens (g + 1) Sc has sn s3 old3 L jk _ _ HDC.out HLM3.out hscd hscl hscm (by omega) (by omega)).mono ?_; rintro e wo ⟨S8, ⟨q8, sv8, rv8, rfl, hq8, hs8, hr8, hlq8⟩, hd8, hu8, hlm8, hdd8, hl8, hlim8, -⟩; obtain ⟨xk, ck, rfl, -⟩ := hs8.sh.open; obtain ⟨xq, cq, rfl, -⟩ := hr8.bss.open; have hdrC := HDC.out.rowC.choose_spec; obtain ⟨ms, mc, mr, md, r9, s9, l9⟩ := M9C.out.upd hu8 hdrC (by decide) (by omega); obtain ⟨ns, nc, nr, nd, r10, s10, l10⟩ := M10C.out.upd hu8 hdrC (by decide) (by omega); have m0 := fun o => Row.cell (Row.alloc (r9) o) 0; have m1 := fun o => Row.cell (Row.alloc (r9) o) 1; have m2 := fun o => Row.cell (Row.alloc (r9) o) 2; simp only [List.getElem?_cons_succ, List.getElem?_cons_zero] at m0 m1 m2; have OR10 := Lib.hid r10; have OS9 := Lib.hid s9; have OL9 := Lib.hid l9; have OS10 := Lib.hid s10; have OL10 := Lib.hid l10; have OB := Lib.hid (BC.out.trans (hu8.below (by omega) hgc)); have OQ := Lib.hid hq8; have OSV := Lib.hid hs8; have ORV := Lib.hid hr8; have OD := Lib.hid hd8; have hgo : g ≤ wo.heap.size := Nat.le_trans hgc hu8.sizeLe; have hqo := OQ.out.lt; have hgq8 : g + 1 < q8 := Nat.lt_trans HDC.out.lt hlq8; have OM := Lib.hid hlm8; clear hq8 hs8 hr8 hd8 hu8 hlm8 hdrC r9 s9 l9 r10 s10 l10)))
                    go_ret
                    rw [HG.out]
                    have hzz := BZ.out.size
                    have hzg := HG.out
                    exact ⟨rfl, bthen (balloc2 BZ.out _ (by omega)) hbl (by omega)⟩
                  · have HLM3 := Lib.hid hlm3
                    clear hlm3
                    go_wp2_with (first
                        | (go_at_call 7; (refine (LogM.opens (g + 1) Sc hasB snB s3 old3 LB jk _ _ HDC.out HLM3.out hscd hscl hscm (by omega) (by omega)).mono ?_; rintro e wo ⟨S8, ⟨q8, sv8, rv8, rfl, hq8, hs8, hr8, hlq8⟩, hd8, hu8, hlm8, hdd8, hl8, hlim8, -⟩; obtain ⟨xk, ck, rfl, -⟩ := hs8.sh.open; obtain ⟨xq, cq, rfl, -⟩ := hr8.bss.open; have hdrC := HDC.out.rowC.choose_spec; obtain ⟨ms, mc, mr, md, r9, s9, l9⟩ := M9C.out.upd hu8 hdrC (by decide) (by omega); obtain ⟨ns, nc, nr, nd, r10, s10, l10⟩ := M10C.out.upd hu8 hdrC (by decide) (by omega); have m0 := fun o => Row.cell (Row.alloc (r9) o) 0; have m1 := fun o => Row.cell (Row.alloc (r9) o) 1; have m2 := fun o => Row.cell (Row.alloc (r9) o) 2; simp only [List.getElem?_cons_succ, List.getElem?_cons_zero] at m0 m1 m2; have OR10 := Lib.hid r10; have OS9 := Lib.hid s9; have OL9 := Lib.hid l9; have OS10 := Lib.hid s10; have OL10 := Lib.hid l10; have OB := Lib.hid (BC.out.trans (hu8.below (by omega) hgc)); have OQ := Lib.hid hq8; have OSV := Lib.hid hs8; have ORV := Lib.hid hr8; have OD := Lib.hid hd8; have hgo : g ≤ wo.heap.size := Nat.le_trans hgc hu8.sizeLe; have hqo := OQ.out.lt; have hgq8 : g + 1 < q8 := Nat.lt_trans HDC.out.lt hlq8; have OM := Lib.hid hlm8; clear hq8 hs8 hr8 hd8 hu8 hlm8 hdrC r9 s9 l9 r10 s10 l10)))
                    refine (is_any has hasB _ _ _ _ _ sn snB L LB _ (OS9.out.at' (OB.out.trans ((balloc (Below.refl wo.heap.size wo) _).mono hgo)) (Nat.le_of_eq HG.out)) (OSV.out.sh.below (balloc (Below.refl wo.heap.size wo) _)) ((OL9.out.below (balloc (Below.refl wo.heap.size wo) _)).bss (by rw [HG.out]; exact OB.out.trans ((balloc (Below.refl wo.heap.size wo) _).mono hgo))) (ORV.out.below (balloc (Below.refl wo.heap.size wo) _)).bss).mono ?_
                    rintro e w9 ⟨bb, rfl, hb9⟩
                    have hbI := bthen (balloc (Below.refl wo.heap.size wo) (.cells #[.bool hasB, .slice xk snB.length ck, .slice xq LB.length cq, .int .u64 ((s3 + old3.length + LB.length : Nat) : Int)] 31)) hb9 (Nat.le_refl _)
                    have kcI := HKC.out w9 #[.int .u8 109, .int .u8 111, .int .u8 114, .int .u8 101] 4 4
                    simp at kcI
                    have R15 := Lib.hid ((Row.new wo 31 [.bool hasB, .slice xk snB.length ck, .slice xq LB.length cq, .int .u64 ((s3 + old3.length + LB.length : Nat) : Int)]).keep hb9)
                    have IB := Lib.hid hbI
                    clear hbI hb9
                    cases bb
                    · have t10 := OR10.out.keep IB.out
                      have t0 := Row.cell (t10) 0; have t1 := Row.cell (t10) 1; have t2 := Row.cell (t10) 2; simp only [List.getElem?_cons_succ, List.getElem?_cons_zero] at t0 t1 t2
                      have k0 := Row.cell (R15.out) 0; have k1 := Row.cell (R15.out) 1; have k2 := Row.cell (R15.out) 2; have k3 := Row.cell (R15.out) 3; simp only [List.getElem?_cons_succ, List.getElem?_cons_zero] at k0 k1 k2 k3
                      clear t10
                      go_wp2_with (first
                          | (go_at_call 12; refine (lives15 _).mono ?_; rintro e wl ⟨rfl, hbl⟩)
                          | (go_at_call 7; (refine (LogM.opens (g + 1) S9 hasB snB s3 old3 (LB ++ [[109, 111, 114, 101]]) [] _ _ DP.out LM9.out hdd9 hl9 hlim9 (by omega) (by decide)).mono ?_; rintro e wz ⟨S10, ⟨qz, svz, rvz, rfl, hqz, hsz, hrz, hlqz⟩, hdz, huz, -⟩; obtain ⟨xz, cz, rfl, -⟩ := hsz.sh.open; obtain ⟨xy, cy, rfl, -⟩ := hrz.bss.open; obtain ⟨bz, offz, rfl, -, hatz⟩ := hrz.cells (by simp); obtain ⟨uz, huzc, houz⟩ := hatz LB.length (by simp); obtain ⟨xu, cu, rfl, -⟩ := houz.sh.open; have hgd : (LB ++ [[109, 111, 114, 101]] : List (List UInt8)).getD LB.length [] = [109, 111, 114, 101] := (by simp [List.getD]); rw [hgd] at houz huzc; have hcz := fun o => bcell (balloc (Below.refl wz.heap.size wz) o) huzc (blt huzc); have hcv : ∀ o, (convert 27 9 (.slice xu 4 cu)).run Try.prog (wz.alloc o) = .ok (.string ⟨#[109, 111, 114, 101]⟩) (wz.alloc o) := fun o => conv_run (houz.sh.at' (balloc (Below.refl wz.heap.size wz) o) (Nat.le_refl _)); have hwr : IntKind.i64.wrap ((LB.length : Int) + 1) = (LB.length : Int) + 1 := IntWalk.i64_in _ ⟨by omega, by omega⟩; have RZ := Lib.hid (huz.row RP.out (by omega)); have k0 := fun o => Row.cell (Row.alloc (RZ.out) o) 0; have k1 := fun o => Row.cell (Row.alloc (RZ.out) o) 1; have k2 := fun o => Row.cell (Row.alloc (RZ.out) o) 2; have k3 := fun o => Row.cell (Row.alloc (RZ.out) o) 3; simp only [List.getElem?_cons_succ, List.getElem?_cons_zero] at k0 k1 k2 k3; have BZ := Lib.hid (BP.out.trans (huz.below (by omega) hgp)); clear hqz hsz hrz hdz huz hatz houz huzc))
                          | (go_at_call 8; (obtain ⟨S9, hw9, hlm9, hdd9, hl9, hlim9⟩ := LogM.more OM.out hdd8 hl8 hlim8 (by omega) [109, 111, 114, 101] (by decide) (by omega); have hlt := balloc (Below.refl wi.heap.size wi) (.cells #[.int .u8 109, .int .u8 111, .int .u8 114, .int .u8 101] 5 (4, 5)); have hbl := bthen IBJ.out hlt (Nat.le_refl _); have hmsz := OM.out.size; have hmn := OM.out.n0; rw [List.append_nil] at hmn; have hmn := congrArg List.length hmn; refine (Append_any q8 (g + 1) (s3 + old3.length + LB.length) _ [109, 111, 114, 101] S8 _ (OQ.out.keep hbl) (OD.out.keepB hbl) (lit_sb (w1 := wi) (p := g) (4, 5) [109, 111, 114, 101] (by decide) (by have := IBJ.out.size; omega) _ (Upd.refl _ _)) (by omega) (by decide) (by omega) (by omega) (by omega) (by omega)).mono ?_; rw [hw9]; rintro e wp ⟨rfl, hdp, hqp, vp, hup, hxp⟩; have RP := Lib.hid (hxp.row (hup.row (R15J.out.keep hlt) (by omega)) (by omega)); have DP := Lib.hid hdp; have BP := Lib.hid (((OB.out.trans (hbl.mono hgo)).trans (hup.below (by omega) (by have := hbl.size; omega))).trans (hxp.below (by omega) (by have := hbl.size; have := hup.sizeLe; omega))); have hgp : g ≤ wp.heap.size := (by have h1 := BP.out.size; have h2 := HG.out; omega); have LM9 := Lib.hid hlm9; clear hdp hqp hup hxp hlm9 hlt hbl hw9))
                          | (go_at_call 11; (refine (is_yes hasB _ _ _ _ _ snB LB _ (OS10.out.at' (OB.out.trans (IB.out.mono hgo)) (Nat.le_of_eq HG.out)) (OSV.out.sh.below IB.out) ((OL10.out.below IB.out).bss (by rw [HG.out]; exact OB.out.trans (IB.out.mono hgo))) (ORV.out.below IB.out).bss).mono ?_; rintro e wi ⟨rfl, hbi⟩; have kcJ := HKC.out wi #[.int .u8 109, .int .u8 111, .int .u8 114, .int .u8 101] 4 4; simp at kcJ; have R15J := Lib.hid (R15.out.keep hbi); have IBJ := Lib.hid (bthen IB.out hbi (Nat.le_refl _)); clear hbi)))
                      go_ret
                      rw [HG.out]
                      have hzz := BZ.out.size
                      have hzg := HG.out
                      exact ⟨rfl, bthen (balloc2 BZ.out _ (by omega)) hbl (by omega)⟩
                    · go_wp2_with (first
                          | (go_at_call 12; refine (lives15 _).mono ?_; rintro e wl ⟨rfl, hbl⟩)
                          | (go_at_call 7; (refine (LogM.opens (g + 1) S9 hasB snB s3 old3 (LB ++ [[109, 111, 114, 101]]) [] _ _ DP.out LM9.out hdd9 hl9 hlim9 (by omega) (by decide)).mono ?_; rintro e wz ⟨S10, ⟨qz, svz, rvz, rfl, hqz, hsz, hrz, hlqz⟩, hdz, huz, -⟩; obtain ⟨xz, cz, rfl, -⟩ := hsz.sh.open; obtain ⟨xy, cy, rfl, -⟩ := hrz.bss.open; obtain ⟨bz, offz, rfl, -, hatz⟩ := hrz.cells (by simp); obtain ⟨uz, huzc, houz⟩ := hatz LB.length (by simp); obtain ⟨xu, cu, rfl, -⟩ := houz.sh.open; have hgd : (LB ++ [[109, 111, 114, 101]] : List (List UInt8)).getD LB.length [] = [109, 111, 114, 101] := (by simp [List.getD]); rw [hgd] at houz huzc; have hcz := fun o => bcell (balloc (Below.refl wz.heap.size wz) o) huzc (blt huzc); have hcv : ∀ o, (convert 27 9 (.slice xu 4 cu)).run Try.prog (wz.alloc o) = .ok (.string ⟨#[109, 111, 114, 101]⟩) (wz.alloc o) := fun o => conv_run (houz.sh.at' (balloc (Below.refl wz.heap.size wz) o) (Nat.le_refl _)); have hwr : IntKind.i64.wrap ((LB.length : Int) + 1) = (LB.length : Int) + 1 := IntWalk.i64_in _ ⟨by omega, by omega⟩; have RZ := Lib.hid (huz.row RP.out (by omega)); have k0 := fun o => Row.cell (Row.alloc (RZ.out) o) 0; have k1 := fun o => Row.cell (Row.alloc (RZ.out) o) 1; have k2 := fun o => Row.cell (Row.alloc (RZ.out) o) 2; have k3 := fun o => Row.cell (Row.alloc (RZ.out) o) 3; simp only [List.getElem?_cons_succ, List.getElem?_cons_zero] at k0 k1 k2 k3; have BZ := Lib.hid (BP.out.trans (huz.below (by omega) hgp)); clear hqz hsz hrz hdz huz hatz houz huzc))
                          | (go_at_call 8; (obtain ⟨S9, hw9, hlm9, hdd9, hl9, hlim9⟩ := LogM.more OM.out hdd8 hl8 hlim8 (by omega) [109, 111, 114, 101] (by decide) (by omega); have hlt := balloc (Below.refl w9.heap.size w9) (.cells #[.int .u8 109, .int .u8 111, .int .u8 114, .int .u8 101] 5 (4, 5)); have hbl := bthen IB.out hlt (Nat.le_refl _); have hmsz := OM.out.size; have hmn := OM.out.n0; rw [List.append_nil] at hmn; have hmn := congrArg List.length hmn; refine (Append_any q8 (g + 1) (s3 + old3.length + LB.length) _ [109, 111, 114, 101] S8 _ (OQ.out.keep hbl) (OD.out.keepB hbl) (lit_sb (w1 := w9) (p := g) (4, 5) [109, 111, 114, 101] (by decide) (by have := IB.out.size; omega) _ (Upd.refl _ _)) (by omega) (by decide) (by omega) (by omega) (by omega) (by omega)).mono ?_; rw [hw9]; rintro e wp ⟨rfl, hdp, hqp, vp, hup, hxp⟩; have RP := Lib.hid (hxp.row (hup.row (R15.out.keep hlt) (by omega)) (by omega)); have DP := Lib.hid hdp; have BP := Lib.hid (((OB.out.trans (hbl.mono hgo)).trans (hup.below (by omega) (by have := hbl.size; omega))).trans (hxp.below (by omega) (by have := hbl.size; have := hup.sizeLe; omega))); have hgp : g ≤ wp.heap.size := (by have h1 := BP.out.size; have h2 := HG.out; omega); have LM9 := Lib.hid hlm9; clear hdp hqp hup hxp hlm9 hlt hbl hw9)))
                      go_ret
                      rw [HG.out]
                      have hzz := BZ.out.size
                      have hzg := HG.out
                      exact ⟨rfl, bthen (balloc2 BZ.out _ (by omega)) hbl (by omega)⟩
                exact AllReadyH.nil
              exact AllReadyH.nil
            exact AllReadyH.nil
          refine AllReadyH.cons (by simp only [List.getElem?_toArray, List.getElem?_cons_zero, List.getElem?_cons_succ] <;> rfl) (fun K hK => ?_) ?_
          · go_simp; go_at_call 22; (refine (Safe_any C KP _ t _ (HT0.out.at' (B10.out.trans ((Below.refl w10.heap.size w10).mono hg10)) (Nat.le_of_eq HG.out)) (by omega)).mono ?_; rintro e wq ⟨vq, rfl, hsq, hbq⟩; have HSQ := Lib.hid hsq; have HBQ := Lib.hid (bthen (Below.refl w10.heap.size w10) hbq (Nat.le_refl _)); have RE := Lib.hid (Row.new wq 5 []); have HSH := Lib.hid (HSQ.out.below (balloc (Below.refl _ _) (.cells #[] 5))); have HBS := Lib.hid (bthen HBQ.out (balloc (Below.refl wq.heap.size wq) (.cells #[] 5)) (Nat.le_refl _)))
            refine hK.out _ _ (by exact Row.keep hHeld hbq) (fun hHeld => ?_)
            clear hK K
            try simp only [Act.put, List.setIfInBounds_toArray, List.set_cons_zero, List.set_cons_succ, Array.replicate]
            refine wpAnyH_ready (rs := [3]) (by kernel_rfl) (by simp) ?_
            refine AllReadyH.cons (by simp only [List.getElem?_toArray, List.getElem?_cons_zero, List.getElem?_cons_succ] <;> rfl) (fun K hK => ?_) ?_
            · go_simp
              refine hK.out _ _ (by exact Row.alloc hHeld _) (fun hHeld => ?_)
              clear hK K
              try simp only [Act.put, List.setIfInBounds_toArray, List.set_cons_zero, List.set_cons_succ, Array.replicate]
              refine wpAnyH_ready (rs := [6]) (by kernel_rfl) (by simp) ?_
              refine AllReadyH.cons (by simp only [List.getElem?_toArray, List.getElem?_cons_zero, List.getElem?_cons_succ] <;> rfl) (fun K hK => ?_) ?_
              · (refine step_app_own Try.underlying27 info_byte (by with_unfolding_all rfl) (.tmp 83) (.tmp 85) rfl rfl RE.out rfl HSH.out (by omega) ?_; intro va wa hoa hba; have OA := Lib.hid hoa; have BA := Lib.hid (bthen HBS.out hba (Nat.le_refl _)))
                refine hK.out _ _ (by exact Row.keep hHeld hba) (fun hHeld => ?_)
                clear hK K
                try simp only [Act.put, List.setIfInBounds_toArray, List.set_cons_zero, List.set_cons_succ, Array.replicate]
                refine wpAnyH_ready (rs := [7]) (by kernel_rfl) (by simp) ?_
                refine AllReadyH.cons (by simp only [List.getElem?_toArray, List.getElem?_cons_zero, List.getElem?_cons_succ] <;> rfl) (fun K hK => ?_) ?_
                · go_simp; go_at_call 21; (refine (Crash_of (g + 1) KP _ (safeL KP t) S' Sc hSc _ (D10.out.keepB BA.out) (fun w' hu => (hu.own OA.out (D10.out.keepB BA.out).rowC.choose_spec (by decide)).sh) (by omega) (fun _ => by omega)).mono ?_; rintro e wc ⟨rfl, hdc, huc⟩; try go_simp)
                  refine hK.out _ _ (by exact huc.row hHeld (by omega)) (fun hHeld => ?_)
                  clear hK K
                  try simp only [Act.put, List.setIfInBounds_toArray, List.set_cons_zero, List.set_cons_succ, Array.replicate]
                  refine wpAnyH_done (by kernel_rfl) ?_ _
                  have hdr := (D10.out.keepB BA.out).rowC.choose_spec
                  have M9C := Lib.hid ((M910.out.keep BA.out).upd huc hdr (by decide) (by omega))
                  have BC := Lib.hid ((B10.out.trans (BA.out.mono hg10)).trans (huc.below (by omega) (by have := BA.out.size; omega)))
                  have HDC := Lib.hid hdc
                  obtain ⟨hasB, snB, LB, HCR', M10C'⟩ : ∃ hasB snB LB, ((∃ s old junk, LogM Sc has sn s old L junk _ ∧ junk.length ≤ (safeL KP t).length + 4000 ∧ s + old.length + L.length ≤ 500) ∨ (∃ s old junk, LogM Sc hasB snB s old LB junk _ ∧ junk.length ≤ (safeL KP t).length + 4000 ∧ s + old.length + LB.length ≤ 500)) ∧ ModR w wc (h + 1) hasB snB LB := ⟨_, _, _, HCR.out, (M1010.out.keep BA.out).upd huc hdr (by decide) (by omega)⟩
                  have M10C := Lib.hid M10C'
                  have hgc : g ≤ wc.heap.size := by have := BC.out.size; have := HG.out; omega
                  clear M10C' hdr huc hdc hba hoa hbq hsq D10 M910 M1010 B10 OA BA HBS HSH HSQ HBQ RE HCR E10 E9
                  rcases HCR' with ⟨s3, old3, jk, hlm3, hj3, hc3⟩ | ⟨s3, old3, jk, hlm3, hj3, hc3⟩
                  · have HLM3 := Lib.hid hlm3
                    clear hlm3
                    go_wp2_with (first
                        | (go_at_call 12; refine (lives15 _).mono ?_; rintro e wl ⟨rfl, hbl⟩)
                        | (go_at_call 7; (refine (LogM.opens (g + 1) S9 has sn s3 old3 (L ++ [[109, 111, 114, 101]]) [] _ _ DP.out LM9.out hdd9 hl9 hlim9 (by omega) (by decide)).mono ?_; rintro e wz ⟨S10, ⟨qz, svz, rvz, rfl, hqz, hsz, hrz, hlqz⟩, hdz, huz, -⟩; obtain ⟨xz, cz, rfl, -⟩ := hsz.sh.open; obtain ⟨xy, cy, rfl, -⟩ := hrz.bss.open; obtain ⟨bz, offz, rfl, -, hatz⟩ := hrz.cells (by simp); obtain ⟨uz, huzc, houz⟩ := hatz L.length (by simp); obtain ⟨xu, cu, rfl, -⟩ := houz.sh.open; have hgd : (L ++ [[109, 111, 114, 101]] : List (List UInt8)).getD L.length [] = [109, 111, 114, 101] := (by simp [List.getD]); rw [hgd] at houz huzc; have hcz := fun o => bcell (balloc (Below.refl wz.heap.size wz) o) huzc (blt huzc); have hcv : ∀ o, (convert 27 9 (.slice xu 4 cu)).run Try.prog (wz.alloc o) = .ok (.string ⟨#[109, 111, 114, 101]⟩) (wz.alloc o) := fun o => conv_run (houz.sh.at' (balloc (Below.refl wz.heap.size wz) o) (Nat.le_refl _)); have hwr : IntKind.i64.wrap ((L.length : Int) + 1) = (L.length : Int) + 1 := IntWalk.i64_in _ ⟨by omega, by omega⟩; have RZ := Lib.hid (huz.row RP.out (by omega)); have k0 := fun o => Row.cell (Row.alloc (RZ.out) o) 0; have k1 := fun o => Row.cell (Row.alloc (RZ.out) o) 1; have k2 := fun o => Row.cell (Row.alloc (RZ.out) o) 2; have k3 := fun o => Row.cell (Row.alloc (RZ.out) o) 3; simp only [List.getElem?_cons_succ, List.getElem?_cons_zero] at k0 k1 k2 k3; have BZ := Lib.hid (BP.out.trans (huz.below (by omega) hgp)); clear hqz hsz hrz hdz huz hatz houz huzc))
                        | (go_at_call 8; (obtain ⟨S9, hw9, hlm9, hdd9, hl9, hlim9⟩ := LogM.more OM.out hdd8 hl8 hlim8 (by omega) [109, 111, 114, 101] (by decide) (by omega); have hlt := balloc (Below.refl w9.heap.size w9) (.cells #[.int .u8 109, .int .u8 111, .int .u8 114, .int .u8 101] 5 (4, 5)); have hbl := bthen IB.out hlt (Nat.le_refl _); have hmsz := OM.out.size; have hmn := OM.out.n0; rw [List.append_nil] at hmn; have hmn := congrArg List.length hmn; refine (Append_any q8 (g + 1) (s3 + old3.length + L.length) _ [109, 111, 114, 101] S8 _ (OQ.out.keep hbl) (OD.out.keepB hbl) (lit_sb (w1 := w9) (p := g) (4, 5) [109, 111, 114, 101] (by decide) (by have := IB.out.size; omega) _ (Upd.refl _ _)) (by omega) (by decide) (by omega) (by omega) (by omega) (by omega)).mono ?_; rw [hw9]; rintro e wp ⟨rfl, hdp, hqp, vp, hup, hxp⟩; have RP := Lib.hid (hxp.row (hup.row (R15.out.keep hlt) (by omega)) (by omega)); have DP := Lib.hid hdp; have BP := Lib.hid (((OB.out.trans (hbl.mono hgo)).trans (hup.below (by omega) (by have := hbl.size; omega))).trans (hxp.below (by omega) (by have := hbl.size; have := hup.sizeLe; omega))); have hgp : g ≤ wp.heap.size := (by have h1 := BP.out.size; have h2 := HG.out; omega); have LM9 := Lib.hid hlm9; clear hdp hqp hup hxp hlm9 hlt hbl hw9))
                        | (go_at_call 11; (refine (is_yes has _ _ _ _ _ sn L _ (OS9.out.at' (OB.out.trans ((balloc (Below.refl wo.heap.size wo) _).mono hgo)) (Nat.le_of_eq HG.out)) (OSV.out.sh.below (balloc (Below.refl wo.heap.size wo) _)) ((OL9.out.below (balloc (Below.refl wo.heap.size wo) _)).bss (by rw [HG.out]; exact OB.out.trans ((balloc (Below.refl wo.heap.size wo) _).mono hgo))) (ORV.out.below (balloc (Below.refl wo.heap.size wo) _)).bss).mono ?_; rintro e w9 ⟨rfl, hb9⟩; have hbI := bthen (balloc (Below.refl wo.heap.size wo) (.cells #[.bool has, .slice xk sn.length ck, .slice xq L.length cq, .int .u64 ((s3 + old3.length + L.length : Nat) : Int)] 31)) hb9 (Nat.le_refl _); have kcI := HKC.out w9 #[.int .u8 109, .int .u8 111, .int .u8 114, .int .u8 101] 4 4; simp at kcI; have R15 := Lib.hid ((Row.new wo 31 [.bool has, .slice xk sn.length ck, .slice xq L.length cq, .int .u64 ((s3 + old3.length + L.length : Nat) : Int)]).keep hb9); have IB := Lib.hid hbI; clear hbI hb9))
                        | (go_at_call 7; (refine (LogM.opens (g + 1) Sc has sn s3 old3 L jk _ _ HDC.out HLM3.out hscd hscl hscm (by omega) (by omega)).mono ?_; rintro e wo ⟨S8, ⟨q8, sv8, rv8, rfl, hq8, hs8, hr8, hlq8⟩, hd8, hu8, hlm8, hdd8, hl8, hlim8, -⟩; obtain ⟨xk, ck, rfl, -⟩ := hs8.sh.open; obtain ⟨xq, cq, rfl, -⟩ := hr8.bss.open; have hdrC := HDC.out.rowC.choose_spec; obtain ⟨ms, mc, mr, md, r9, s9, l9⟩ := M9C.out.upd hu8 hdrC (by decide) (by omega); obtain ⟨ns, nc, nr, nd, r10, s10, l10⟩ := M10C.out.upd hu8 hdrC (by decide) (by omega); have m0 := fun o => Row.cell (Row.alloc (r9) o) 0; have m1 := fun o => Row.cell (Row.alloc (r9) o) 1; have m2 := fun o => Row.cell (Row.alloc (r9) o) 2; simp only [List.getElem?_cons_succ, List.getElem?_cons_zero] at m0 m1 m2; have OR10 := Lib.hid r10; have OS9 := Lib.hid s9; have OL9 := Lib.hid l9; have OS10 := Lib.hid s10; have OL10 := Lib.hid l10; have OB := Lib.hid (BC.out.trans (hu8.below (by omega) hgc)); have OQ := Lib.hid hq8; have OSV := Lib.hid hs8; have ORV := Lib.hid hr8; have OD := Lib.hid hd8; have hgo : g ≤ wo.heap.size := Nat.le_trans hgc hu8.sizeLe; have hqo := OQ.out.lt; have hgq8 : g + 1 < q8 := Nat.lt_trans HDC.out.lt hlq8; have OM := Lib.hid hlm8; clear hq8 hs8 hr8 hd8 hu8 hlm8 hdrC r9 s9 l9 r10 s10 l10)))
                    go_ret
                    rw [HG.out]
                    have hzz := BZ.out.size
                    have hzg := HG.out
                    exact ⟨rfl, bthen (balloc2 BZ.out _ (by omega)) hbl (by omega)⟩
                  · have HLM3 := Lib.hid hlm3
                    clear hlm3
                    go_wp2_with (first
                        | (go_at_call 7; (refine (LogM.opens (g + 1) Sc hasB snB s3 old3 LB jk _ _ HDC.out HLM3.out hscd hscl hscm (by omega) (by omega)).mono ?_; rintro e wo ⟨S8, ⟨q8, sv8, rv8, rfl, hq8, hs8, hr8, hlq8⟩, hd8, hu8, hlm8, hdd8, hl8, hlim8, -⟩; obtain ⟨xk, ck, rfl, -⟩ := hs8.sh.open; obtain ⟨xq, cq, rfl, -⟩ := hr8.bss.open; have hdrC := HDC.out.rowC.choose_spec; obtain ⟨ms, mc, mr, md, r9, s9, l9⟩ := M9C.out.upd hu8 hdrC (by decide) (by omega); obtain ⟨ns, nc, nr, nd, r10, s10, l10⟩ := M10C.out.upd hu8 hdrC (by decide) (by omega); have m0 := fun o => Row.cell (Row.alloc (r9) o) 0; have m1 := fun o => Row.cell (Row.alloc (r9) o) 1; have m2 := fun o => Row.cell (Row.alloc (r9) o) 2; simp only [List.getElem?_cons_succ, List.getElem?_cons_zero] at m0 m1 m2; have OR10 := Lib.hid r10; have OS9 := Lib.hid s9; have OL9 := Lib.hid l9; have OS10 := Lib.hid s10; have OL10 := Lib.hid l10; have OB := Lib.hid (BC.out.trans (hu8.below (by omega) hgc)); have OQ := Lib.hid hq8; have OSV := Lib.hid hs8; have ORV := Lib.hid hr8; have OD := Lib.hid hd8; have hgo : g ≤ wo.heap.size := Nat.le_trans hgc hu8.sizeLe; have hqo := OQ.out.lt; have hgq8 : g + 1 < q8 := Nat.lt_trans HDC.out.lt hlq8; have OM := Lib.hid hlm8; clear hq8 hs8 hr8 hd8 hu8 hlm8 hdrC r9 s9 l9 r10 s10 l10)))
                    refine (is_any has hasB _ _ _ _ _ sn snB L LB _ (OS9.out.at' (OB.out.trans ((balloc (Below.refl wo.heap.size wo) _).mono hgo)) (Nat.le_of_eq HG.out)) (OSV.out.sh.below (balloc (Below.refl wo.heap.size wo) _)) ((OL9.out.below (balloc (Below.refl wo.heap.size wo) _)).bss (by rw [HG.out]; exact OB.out.trans ((balloc (Below.refl wo.heap.size wo) _).mono hgo))) (ORV.out.below (balloc (Below.refl wo.heap.size wo) _)).bss).mono ?_
                    rintro e w9 ⟨bb, rfl, hb9⟩
                    have hbI := bthen (balloc (Below.refl wo.heap.size wo) (.cells #[.bool hasB, .slice xk snB.length ck, .slice xq LB.length cq, .int .u64 ((s3 + old3.length + LB.length : Nat) : Int)] 31)) hb9 (Nat.le_refl _)
                    have kcI := HKC.out w9 #[.int .u8 109, .int .u8 111, .int .u8 114, .int .u8 101] 4 4
                    simp at kcI
                    have R15 := Lib.hid ((Row.new wo 31 [.bool hasB, .slice xk snB.length ck, .slice xq LB.length cq, .int .u64 ((s3 + old3.length + LB.length : Nat) : Int)]).keep hb9)
                    have IB := Lib.hid hbI
                    clear hbI hb9
                    cases bb
                    · have t10 := OR10.out.keep IB.out
                      have t0 := Row.cell (t10) 0; have t1 := Row.cell (t10) 1; have t2 := Row.cell (t10) 2; simp only [List.getElem?_cons_succ, List.getElem?_cons_zero] at t0 t1 t2
                      have k0 := Row.cell (R15.out) 0; have k1 := Row.cell (R15.out) 1; have k2 := Row.cell (R15.out) 2; have k3 := Row.cell (R15.out) 3; simp only [List.getElem?_cons_succ, List.getElem?_cons_zero] at k0 k1 k2 k3
                      clear t10
                      go_wp2_with (first
                          | (go_at_call 12; refine (lives15 _).mono ?_; rintro e wl ⟨rfl, hbl⟩)
                          | (go_at_call 7; (refine (LogM.opens (g + 1) S9 hasB snB s3 old3 (LB ++ [[109, 111, 114, 101]]) [] _ _ DP.out LM9.out hdd9 hl9 hlim9 (by omega) (by decide)).mono ?_; rintro e wz ⟨S10, ⟨qz, svz, rvz, rfl, hqz, hsz, hrz, hlqz⟩, hdz, huz, -⟩; obtain ⟨xz, cz, rfl, -⟩ := hsz.sh.open; obtain ⟨xy, cy, rfl, -⟩ := hrz.bss.open; obtain ⟨bz, offz, rfl, -, hatz⟩ := hrz.cells (by simp); obtain ⟨uz, huzc, houz⟩ := hatz LB.length (by simp); obtain ⟨xu, cu, rfl, -⟩ := houz.sh.open; have hgd : (LB ++ [[109, 111, 114, 101]] : List (List UInt8)).getD LB.length [] = [109, 111, 114, 101] := (by simp [List.getD]); rw [hgd] at houz huzc; have hcz := fun o => bcell (balloc (Below.refl wz.heap.size wz) o) huzc (blt huzc); have hcv : ∀ o, (convert 27 9 (.slice xu 4 cu)).run Try.prog (wz.alloc o) = .ok (.string ⟨#[109, 111, 114, 101]⟩) (wz.alloc o) := fun o => conv_run (houz.sh.at' (balloc (Below.refl wz.heap.size wz) o) (Nat.le_refl _)); have hwr : IntKind.i64.wrap ((LB.length : Int) + 1) = (LB.length : Int) + 1 := IntWalk.i64_in _ ⟨by omega, by omega⟩; have RZ := Lib.hid (huz.row RP.out (by omega)); have k0 := fun o => Row.cell (Row.alloc (RZ.out) o) 0; have k1 := fun o => Row.cell (Row.alloc (RZ.out) o) 1; have k2 := fun o => Row.cell (Row.alloc (RZ.out) o) 2; have k3 := fun o => Row.cell (Row.alloc (RZ.out) o) 3; simp only [List.getElem?_cons_succ, List.getElem?_cons_zero] at k0 k1 k2 k3; have BZ := Lib.hid (BP.out.trans (huz.below (by omega) hgp)); clear hqz hsz hrz hdz huz hatz houz huzc))
                          | (go_at_call 8; (obtain ⟨S9, hw9, hlm9, hdd9, hl9, hlim9⟩ := LogM.more OM.out hdd8 hl8 hlim8 (by omega) [109, 111, 114, 101] (by decide) (by omega); have hlt := balloc (Below.refl wi.heap.size wi) (.cells #[.int .u8 109, .int .u8 111, .int .u8 114, .int .u8 101] 5 (4, 5)); have hbl := bthen IBJ.out hlt (Nat.le_refl _); have hmsz := OM.out.size; have hmn := OM.out.n0; rw [List.append_nil] at hmn; have hmn := congrArg List.length hmn; refine (Append_any q8 (g + 1) (s3 + old3.length + LB.length) _ [109, 111, 114, 101] S8 _ (OQ.out.keep hbl) (OD.out.keepB hbl) (lit_sb (w1 := wi) (p := g) (4, 5) [109, 111, 114, 101] (by decide) (by have := IBJ.out.size; omega) _ (Upd.refl _ _)) (by omega) (by decide) (by omega) (by omega) (by omega) (by omega)).mono ?_; rw [hw9]; rintro e wp ⟨rfl, hdp, hqp, vp, hup, hxp⟩; have RP := Lib.hid (hxp.row (hup.row (R15J.out.keep hlt) (by omega)) (by omega)); have DP := Lib.hid hdp; have BP := Lib.hid (((OB.out.trans (hbl.mono hgo)).trans (hup.below (by omega) (by have := hbl.size; omega))).trans (hxp.below (by omega) (by have := hbl.size; have := hup.sizeLe; omega))); have hgp : g ≤ wp.heap.size := (by have h1 := BP.out.size; have h2 := HG.out; omega); have LM9 := Lib.hid hlm9; clear hdp hqp hup hxp hlm9 hlt hbl hw9))
                          | (go_at_call 11; (refine (is_yes hasB _ _ _ _ _ snB LB _ (OS10.out.at' (OB.out.trans (IB.out.mono hgo)) (Nat.le_of_eq HG.out)) (OSV.out.sh.below IB.out) ((OL10.out.below IB.out).bss (by rw [HG.out]; exact OB.out.trans (IB.out.mono hgo))) (ORV.out.below IB.out).bss).mono ?_; rintro e wi ⟨rfl, hbi⟩; have kcJ := HKC.out wi #[.int .u8 109, .int .u8 111, .int .u8 114, .int .u8 101] 4 4; simp at kcJ; have R15J := Lib.hid (R15.out.keep hbi); have IBJ := Lib.hid (bthen IB.out hbi (Nat.le_refl _)); clear hbi)))
                      go_ret
                      rw [HG.out]
                      have hzz := BZ.out.size
                      have hzg := HG.out
                      exact ⟨rfl, bthen (balloc2 BZ.out _ (by omega)) hbl (by omega)⟩
                    · go_wp2_with (first
                          | (go_at_call 12; refine (lives15 _).mono ?_; rintro e wl ⟨rfl, hbl⟩)
                          | (go_at_call 7; (refine (LogM.opens (g + 1) S9 hasB snB s3 old3 (LB ++ [[109, 111, 114, 101]]) [] _ _ DP.out LM9.out hdd9 hl9 hlim9 (by omega) (by decide)).mono ?_; rintro e wz ⟨S10, ⟨qz, svz, rvz, rfl, hqz, hsz, hrz, hlqz⟩, hdz, huz, -⟩; obtain ⟨xz, cz, rfl, -⟩ := hsz.sh.open; obtain ⟨xy, cy, rfl, -⟩ := hrz.bss.open; obtain ⟨bz, offz, rfl, -, hatz⟩ := hrz.cells (by simp); obtain ⟨uz, huzc, houz⟩ := hatz LB.length (by simp); obtain ⟨xu, cu, rfl, -⟩ := houz.sh.open; have hgd : (LB ++ [[109, 111, 114, 101]] : List (List UInt8)).getD LB.length [] = [109, 111, 114, 101] := (by simp [List.getD]); rw [hgd] at houz huzc; have hcz := fun o => bcell (balloc (Below.refl wz.heap.size wz) o) huzc (blt huzc); have hcv : ∀ o, (convert 27 9 (.slice xu 4 cu)).run Try.prog (wz.alloc o) = .ok (.string ⟨#[109, 111, 114, 101]⟩) (wz.alloc o) := fun o => conv_run (houz.sh.at' (balloc (Below.refl wz.heap.size wz) o) (Nat.le_refl _)); have hwr : IntKind.i64.wrap ((LB.length : Int) + 1) = (LB.length : Int) + 1 := IntWalk.i64_in _ ⟨by omega, by omega⟩; have RZ := Lib.hid (huz.row RP.out (by omega)); have k0 := fun o => Row.cell (Row.alloc (RZ.out) o) 0; have k1 := fun o => Row.cell (Row.alloc (RZ.out) o) 1; have k2 := fun o => Row.cell (Row.alloc (RZ.out) o) 2; have k3 := fun o => Row.cell (Row.alloc (RZ.out) o) 3; simp only [List.getElem?_cons_succ, List.getElem?_cons_zero] at k0 k1 k2 k3; have BZ := Lib.hid (BP.out.trans (huz.below (by omega) hgp)); clear hqz hsz hrz hdz huz hatz houz huzc))
                          | (go_at_call 8; (obtain ⟨S9, hw9, hlm9, hdd9, hl9, hlim9⟩ := LogM.more OM.out hdd8 hl8 hlim8 (by omega) [109, 111, 114, 101] (by decide) (by omega); have hlt := balloc (Below.refl w9.heap.size w9) (.cells #[.int .u8 109, .int .u8 111, .int .u8 114, .int .u8 101] 5 (4, 5)); have hbl := bthen IB.out hlt (Nat.le_refl _); have hmsz := OM.out.size; have hmn := OM.out.n0; rw [List.append_nil] at hmn; have hmn := congrArg List.length hmn; refine (Append_any q8 (g + 1) (s3 + old3.length + LB.length) _ [109, 111, 114, 101] S8 _ (OQ.out.keep hbl) (OD.out.keepB hbl) (lit_sb (w1 := w9) (p := g) (4, 5) [109, 111, 114, 101] (by decide) (by have := IB.out.size; omega) _ (Upd.refl _ _)) (by omega) (by decide) (by omega) (by omega) (by omega) (by omega)).mono ?_; rw [hw9]; rintro e wp ⟨rfl, hdp, hqp, vp, hup, hxp⟩; have RP := Lib.hid (hxp.row (hup.row (R15.out.keep hlt) (by omega)) (by omega)); have DP := Lib.hid hdp; have BP := Lib.hid (((OB.out.trans (hbl.mono hgo)).trans (hup.below (by omega) (by have := hbl.size; omega))).trans (hxp.below (by omega) (by have := hbl.size; have := hup.sizeLe; omega))); have hgp : g ≤ wp.heap.size := (by have h1 := BP.out.size; have h2 := HG.out; omega); have LM9 := Lib.hid hlm9; clear hdp hqp hup hxp hlm9 hlt hbl hw9)))
                      go_ret
                      rw [HG.out]
                      have hzz := BZ.out.size
                      have hzg := HG.out
                      exact ⟨rfl, bthen (balloc2 BZ.out _ (by omega)) hbl (by omega)⟩
                exact AllReadyH.nil
              exact AllReadyH.nil
            exact AllReadyH.nil
          exact AllReadyH.nil
    · have hj0 : As.length ≤ 40 := hj40
      obtain ⟨xs, cs, xr, cr, r9, s9, l9⟩ := HM9.out
      obtain ⟨xs', cs', xr', cr', r10, s10, l10⟩ := HM10.out
      have m0 := Row.cell (r9) 0; have m1 := Row.cell (r9) 1; have m2 := Row.cell (r9) 2; simp only [List.getElem?_cons_succ, List.getElem?_cons_zero] at m0 m1 m2
      have n0 := Row.cell (r10) 0; have n1 := Row.cell (r10) 1; have n2 := Row.cell (r10) 2; simp only [List.getElem?_cons_succ, List.getElem?_cons_zero] at n0 n1 n2
      have nf0 := Row.frozen (r10) 0; have nf1 := Row.frozen (r10) 1; have nf2 := Row.frozen (r10) 2
      have HS9 := Lib.hid s9
      have HL9 := Lib.hid l9
      have HR9 := Lib.hid r9
      have HR10 := Lib.hid r10
      have hqh := HQH.out
      have hgq := HGQ.out
      clear r9 s9 l9 r10 s10 l10
      have hdd := HAL.out.dead
      have hlim' := HAL.out.lim
      have hsz' : S.f0.length + S.n0.length + S.f1.length + S.n1.length ≤ 10000000 := by
        have h1 := HLM.out.size
        have h2 := HLM.out.n0
        rw [List.append_nil] at h2
        rw [HAL.out.f0, HAL.out.f1, h2]; omega
      have HREC := Lib.hid (HAL.out.recov HLM.out (show _ ≤ 130000 by omega) (by omega) has sn L)
      have D8 := HD
      have M98 := HM9
      have M108 := HM10
      have E8 := HE
      have B8 := HB
      clear HM9 HM10 HD HQ HE HB
      go_upto_region 21 with (first
          | (go_at_call 20; (refine (Dead_dsk (g + 1) S _ D8.out).mono ?_; rw [hdd]; rintro e wd ⟨rfl, hwd⟩; have hwd' := hwd.symm; clear hwd; subst hwd')))
      have U9 := upd3 (h + 1) wr (.bool has) (.slice xs sn.length cs) (.slice xr L.length cr)
      have N9 : ModR w (((wr.setCell ⟨h + 1, 0, none⟩ (.bool has)).setCell ⟨h + 1, 1, none⟩ (.slice xs sn.length cs)).setCell ⟨h + 1, 2, none⟩ (.slice xr L.length cr)) (h + 1) has sn L := ModR.copy rfl rfl HS9.out HL9.out HR10.out
      have D9 := Lib.hid (D8.out.updO HR10.out (by decide) (by omega) U9)
      have M99 := Lib.hid (M98.out.upd U9 HR10.out (by decide) (by omega))
      have M109 := Lib.hid N9
      have E9 := Lib.hid (U9.row E8.out (by omega))
      have B9 := Lib.hid (B8.out.trans (U9.below (by omega) hps))
      clear D8 M98 M108 E8 B8 N9 U9 m0 m1 m2 n0 n1 n2 nf0 nf1 nf2 HR9 HS9 HL9 HR10
      generalize ((wr.setCell ⟨h + 1, 0, none⟩ (.bool has)).setCell ⟨h + 1, 1, none⟩ (.slice xs sn.length cs)).setCell ⟨h + 1, 2, none⟩ (.slice xr L.length cr) = wy at *
      have hg9 : g ≤ wy.heap.size := by have := B9.out.size; have := HG.out; omega
      have hcr := HREC.out KP (safeL KP t) (safeL_safe KP t)
      obtain ⟨Sc, hSc⟩ : ∃ Sc, S.crash KP (safeL KP t) = Sc := ⟨_, rfl⟩
      rw [hSc] at hcr
      have hscd : Sc.dead = false := by rw [← hSc]; rfl
      have hscl : Sc.left = -1 := by rw [← hSc]; rfl
      have hscm : Sc.lim = 1048576 := by rw [← hSc]; exact hlim'
      have htl2 := safeL_len KP t
      have HCR := Lib.hid hcr
      have D10 := Lib.hid (D9.out.keepB (Below.refl _ _).drew)
      have M910 := Lib.hid (M99.out.keep (Below.refl _ _).drew)
      have M1010 := Lib.hid (M109.out.keep (Below.refl _ _).drew)
      have B10 := Lib.hid (B9.out.trans ((Below.refl wy.heap.size wy).drew.mono hg9))
      have E10 := Lib.hid (Row.drew E9.out)
      clear D9 M99 M109 B9 hcr HREC
      refine wp_region_held_drew (S := fun w' => Row w' g 56 [.int .i64 C, .int .i64 KP, .slice xt t.length ct]) (by kernel_rfl) (by exact Row.drew E9.out) (fun hHeld => ?_)
      generalize World.drew wy = w10 at *
      have hg10 : g ≤ w10.heap.size := by have := B10.out.size; have := HG.out; omega
      refine wpAnyH_take (i := 0) (v := ?_) (by simp only [List.getElem?_toArray, List.getElem?_cons_zero, List.getElem?_cons_succ] <;> rfl) (by kernel_rfl) (by kernel_rfl) (by kernel_rfl) (by intro _ _ _ h; exact h) (Or.inl ⟨by rfl, ?_⟩) (by assumption) ?_
      rotate_left
      · intro w _; go_simp; try with_reducible rfl
      try simp only [Act.put, List.setIfInBounds_toArray, List.set_cons_zero, List.set_cons_succ, Array.replicate]
      refine wpAnyH_take (i := 1) (v := ?_) (by simp only [List.getElem?_toArray, List.getElem?_cons_zero, List.getElem?_cons_succ] <;> rfl) (by kernel_rfl) (by kernel_rfl) (by kernel_rfl) (by intro _ _ _ h; exact h) (Or.inl ⟨by rfl, ?_⟩) (by assumption) ?_
      rotate_left
      · intro w _; go_simp; try with_reducible rfl
      try simp only [Act.put, List.setIfInBounds_toArray, List.set_cons_zero, List.set_cons_succ, Array.replicate]
      refine wpAnyH_take (i := 2) (v := ?_) (by simp only [List.getElem?_toArray, List.getElem?_cons_zero, List.getElem?_cons_succ] <;> rfl) (by kernel_rfl) (by kernel_rfl) (by kernel_rfl) (by intro _ _ _ h; exact h) (Or.inl ⟨by rfl, ?_⟩) (by assumption) ?_
      rotate_left
      · intro w hSS; have q1 := Row.cell hSS 1; simp only [List.getElem?_cons_succ, List.getElem?_cons_zero] at q1; go_simp; try with_reducible rfl
      try simp only [Act.put, List.setIfInBounds_toArray, List.set_cons_zero, List.set_cons_succ, Array.replicate]
      refine wpAnyH_take (i := 4) (v := ?_) (by simp only [List.getElem?_toArray, List.getElem?_cons_zero, List.getElem?_cons_succ] <;> rfl) (by kernel_rfl) (by kernel_rfl) (by kernel_rfl) (by intro _ _ _ h; exact h) (Or.inl ⟨by rfl, ?_⟩) (by assumption) ?_
      rotate_left
      · intro w hSS; have q0 := Row.cell hSS 0; have q1 := Row.cell hSS 1; have q2 := Row.cell hSS 2; simp only [List.getElem?_cons_succ, List.getElem?_cons_zero] at q0 q1 q2; go_simp; try with_reducible rfl
      try simp only [Act.put, List.setIfInBounds_toArray, List.set_cons_zero, List.set_cons_succ, Array.replicate]
      refine wpAnyH_ready (rs := [3, 5]) (by kernel_rfl) (by simp) ?_
      refine AllReadyH.cons (by simp only [List.getElem?_toArray, List.getElem?_cons_zero, List.getElem?_cons_succ] <;> rfl) (fun K hK => ?_) ?_
      · go_simp
        refine hK.out _ _ (by exact Row.alloc hHeld _) (fun hHeld => ?_)
        clear hK K
        try simp only [Act.put, List.setIfInBounds_toArray, List.set_cons_zero, List.set_cons_succ, Array.replicate]
        refine wpAnyH_ready (rs := [5]) (by kernel_rfl) (by simp) ?_
        refine AllReadyH.cons (by simp only [List.getElem?_toArray, List.getElem?_cons_zero, List.getElem?_cons_succ] <;> rfl) (fun K hK => ?_) ?_
        · go_simp; go_at_call 22; (refine (Safe_any C KP _ t _ (HT0.out.at' (B10.out.trans ((balloc (Below.refl w10.heap.size w10) (.cells #[] 5)).mono hg10)) (Nat.le_of_eq HG.out)) (by omega)).mono ?_; rintro e wq ⟨vq, rfl, hsq, hbq⟩; have HSQ := Lib.hid hsq; have HBQ := Lib.hid (bthen (balloc (Below.refl w10.heap.size w10) (.cells #[] 5)) hbq (Nat.le_refl _)); have RE := Lib.hid ((Row.new w10 5 []).keep hbq); have HSH := HSQ; have HBS := HBQ)
          refine hK.out _ _ (by exact Row.keep hHeld hbq) (fun hHeld => ?_)
          clear hK K
          try simp only [Act.put, List.setIfInBounds_toArray, List.set_cons_zero, List.set_cons_succ, Array.replicate]
          refine wpAnyH_ready (rs := [6]) (by kernel_rfl) (by simp) ?_
          refine AllReadyH.cons (by simp only [List.getElem?_toArray, List.getElem?_cons_zero, List.getElem?_cons_succ] <;> rfl) (fun K hK => ?_) ?_
          · (refine step_app_own Try.underlying27 info_byte (by with_unfolding_all rfl) (.tmp 83) (.tmp 85) rfl rfl RE.out rfl HSH.out (by omega) ?_; intro va wa hoa hba; have OA := Lib.hid hoa; have BA := Lib.hid (bthen HBS.out hba (Nat.le_refl _)))
            refine hK.out _ _ (by exact Row.keep hHeld hba) (fun hHeld => ?_)
            clear hK K
            try simp only [Act.put, List.setIfInBounds_toArray, List.set_cons_zero, List.set_cons_succ, Array.replicate]
            refine wpAnyH_ready (rs := [7]) (by kernel_rfl) (by simp) ?_
            refine AllReadyH.cons (by simp only [List.getElem?_toArray, List.getElem?_cons_zero, List.getElem?_cons_succ] <;> rfl) (fun K hK => ?_) ?_
            · go_simp; go_at_call 21; (refine (Crash_of (g + 1) KP _ (safeL KP t) S Sc hSc _ (D10.out.keepB BA.out) (fun w' hu => (hu.own OA.out (D10.out.keepB BA.out).rowC.choose_spec (by decide)).sh) (by omega) (fun _ => by omega)).mono ?_; rintro e wc ⟨rfl, hdc, huc⟩; try go_simp)
              refine hK.out _ _ (by exact huc.row hHeld (by omega)) (fun hHeld => ?_)
              clear hK K
              try simp only [Act.put, List.setIfInBounds_toArray, List.set_cons_zero, List.set_cons_succ, Array.replicate]
              refine wpAnyH_done (by kernel_rfl) ?_ _
              have hdr := (D10.out.keepB BA.out).rowC.choose_spec
              have M9C := Lib.hid ((M910.out.keep BA.out).upd huc hdr (by decide) (by omega))
              have BC := Lib.hid ((B10.out.trans (BA.out.mono hg10)).trans (huc.below (by omega) (by have := BA.out.size; omega)))
              have HDC := Lib.hid hdc
              obtain ⟨hasB, snB, LB, HCR', M10C'⟩ : ∃ hasB snB LB, ((∃ s old junk, LogM Sc has sn s old L junk _ ∧ junk.length ≤ (safeL KP t).length + 4000 ∧ s + old.length + L.length ≤ 500) ∨ (∃ s old junk, LogM Sc hasB snB s old LB junk _ ∧ junk.length ≤ (safeL KP t).length + 4000 ∧ s + old.length + LB.length ≤ 500)) ∧ ModR w wc (h + 1) hasB snB LB := ⟨_, _, _, HCR.out, (M1010.out.keep BA.out).upd huc hdr (by decide) (by omega)⟩
              have M10C := Lib.hid M10C'
              have hgc : g ≤ wc.heap.size := by have := BC.out.size; have := HG.out; omega
              clear M10C' hdr huc hdc hba hoa hbq hsq D10 M910 M1010 B10 OA BA HBS HSH HSQ HBQ RE HCR E10 E9
              rcases HCR' with ⟨s3, old3, jk, hlm3, hj3, hc3⟩ | ⟨s3, old3, jk, hlm3, hj3, hc3⟩
              · have HLM3 := Lib.hid hlm3
                clear hlm3
                go_wp2_with (first
                    | (go_at_call 12; refine (lives15 _).mono ?_; rintro e wl ⟨rfl, hbl⟩)
                    | (go_at_call 7; (refine (LogM.opens (g + 1) S9 has sn s3 old3 (L ++ [[109, 111, 114, 101]]) [] _ _ DP.out LM9.out hdd9 hl9 hlim9 (by omega) (by decide)).mono ?_; rintro e wz ⟨S10, ⟨qz, svz, rvz, rfl, hqz, hsz, hrz, hlqz⟩, hdz, huz, -⟩; obtain ⟨xz, cz, rfl, -⟩ := hsz.sh.open; obtain ⟨xy, cy, rfl, -⟩ := hrz.bss.open; obtain ⟨bz, offz, rfl, -, hatz⟩ := hrz.cells (by simp); obtain ⟨uz, huzc, houz⟩ := hatz L.length (by simp); obtain ⟨xu, cu, rfl, -⟩ := houz.sh.open; have hgd : (L ++ [[109, 111, 114, 101]] : List (List UInt8)).getD L.length [] = [109, 111, 114, 101] := (by simp [List.getD]); rw [hgd] at houz huzc; have hcz := fun o => bcell (balloc (Below.refl wz.heap.size wz) o) huzc (blt huzc); have hcv : ∀ o, (convert 27 9 (.slice xu 4 cu)).run Try.prog (wz.alloc o) = .ok (.string ⟨#[109, 111, 114, 101]⟩) (wz.alloc o) := fun o => conv_run (houz.sh.at' (balloc (Below.refl wz.heap.size wz) o) (Nat.le_refl _)); have hwr : IntKind.i64.wrap ((L.length : Int) + 1) = (L.length : Int) + 1 := IntWalk.i64_in _ ⟨by omega, by omega⟩; have RZ := Lib.hid (huz.row RP.out (by omega)); have k0 := fun o => Row.cell (Row.alloc (RZ.out) o) 0; have k1 := fun o => Row.cell (Row.alloc (RZ.out) o) 1; have k2 := fun o => Row.cell (Row.alloc (RZ.out) o) 2; have k3 := fun o => Row.cell (Row.alloc (RZ.out) o) 3; simp only [List.getElem?_cons_succ, List.getElem?_cons_zero] at k0 k1 k2 k3; have BZ := Lib.hid (BP.out.trans (huz.below (by omega) hgp)); clear hqz hsz hrz hdz huz hatz houz huzc))
                    | (go_at_call 8; (obtain ⟨S9, hw9, hlm9, hdd9, hl9, hlim9⟩ := LogM.more OM.out hdd8 hl8 hlim8 (by omega) [109, 111, 114, 101] (by decide) (by omega); have hlt := balloc (Below.refl w9.heap.size w9) (.cells #[.int .u8 109, .int .u8 111, .int .u8 114, .int .u8 101] 5 (4, 5)); have hbl := bthen IB.out hlt (Nat.le_refl _); have hmsz := OM.out.size; have hmn := OM.out.n0; rw [List.append_nil] at hmn; have hmn := congrArg List.length hmn; refine (Append_any q8 (g + 1) (s3 + old3.length + L.length) _ [109, 111, 114, 101] S8 _ (OQ.out.keep hbl) (OD.out.keepB hbl) (lit_sb (w1 := w9) (p := g) (4, 5) [109, 111, 114, 101] (by decide) (by have := IB.out.size; omega) _ (Upd.refl _ _)) (by omega) (by decide) (by omega) (by omega) (by omega) (by omega)).mono ?_; rw [hw9]; rintro e wp ⟨rfl, hdp, hqp, vp, hup, hxp⟩; have RP := Lib.hid (hxp.row (hup.row (R15.out.keep hlt) (by omega)) (by omega)); have DP := Lib.hid hdp; have BP := Lib.hid (((OB.out.trans (hbl.mono hgo)).trans (hup.below (by omega) (by have := hbl.size; omega))).trans (hxp.below (by omega) (by have := hbl.size; have := hup.sizeLe; omega))); have hgp : g ≤ wp.heap.size := (by have h1 := BP.out.size; have h2 := HG.out; omega); have LM9 := Lib.hid hlm9; clear hdp hqp hup hxp hlm9 hlt hbl hw9))
                    | (go_at_call 11; (refine (is_yes has _ _ _ _ _ sn L _ (OS9.out.at' (OB.out.trans ((balloc (Below.refl wo.heap.size wo) _).mono hgo)) (Nat.le_of_eq HG.out)) (OSV.out.sh.below (balloc (Below.refl wo.heap.size wo) _)) ((OL9.out.below (balloc (Below.refl wo.heap.size wo) _)).bss (by rw [HG.out]; exact OB.out.trans ((balloc (Below.refl wo.heap.size wo) _).mono hgo))) (ORV.out.below (balloc (Below.refl wo.heap.size wo) _)).bss).mono ?_; rintro e w9 ⟨rfl, hb9⟩; have hbI := bthen (balloc (Below.refl wo.heap.size wo) (.cells #[.bool has, .slice xk sn.length ck, .slice xq L.length cq, .int .u64 ((s3 + old3.length + L.length : Nat) : Int)] 31)) hb9 (Nat.le_refl _); have kcI := HKC.out w9 #[.int .u8 109, .int .u8 111, .int .u8 114, .int .u8 101] 4 4; simp at kcI; have R15 := Lib.hid ((Row.new wo 31 [.bool has, .slice xk sn.length ck, .slice xq L.length cq, .int .u64 ((s3 + old3.length + L.length : Nat) : Int)]).keep hb9); have IB := Lib.hid hbI; clear hbI hb9))
                    | (go_at_call 7; (refine (LogM.opens (g + 1) Sc has sn s3 old3 L jk _ _ HDC.out HLM3.out hscd hscl hscm (by omega) (by omega)).mono ?_; rintro e wo ⟨S8, ⟨q8, sv8, rv8, rfl, hq8, hs8, hr8, hlq8⟩, hd8, hu8, hlm8, hdd8, hl8, hlim8, -⟩; obtain ⟨xk, ck, rfl, -⟩ := hs8.sh.open; obtain ⟨xq, cq, rfl, -⟩ := hr8.bss.open; have hdrC := HDC.out.rowC.choose_spec; obtain ⟨ms, mc, mr, md, r9, s9, l9⟩ := M9C.out.upd hu8 hdrC (by decide) (by omega); obtain ⟨ns, nc, nr, nd, r10, s10, l10⟩ := M10C.out.upd hu8 hdrC (by decide) (by omega); have m0 := fun o => Row.cell (Row.alloc (r9) o) 0; have m1 := fun o => Row.cell (Row.alloc (r9) o) 1; have m2 := fun o => Row.cell (Row.alloc (r9) o) 2; simp only [List.getElem?_cons_succ, List.getElem?_cons_zero] at m0 m1 m2; have OR10 := Lib.hid r10; have OS9 := Lib.hid s9; have OL9 := Lib.hid l9; have OS10 := Lib.hid s10; have OL10 := Lib.hid l10; have OB := Lib.hid (BC.out.trans (hu8.below (by omega) hgc)); have OQ := Lib.hid hq8; have OSV := Lib.hid hs8; have ORV := Lib.hid hr8; have OD := Lib.hid hd8; have hgo : g ≤ wo.heap.size := Nat.le_trans hgc hu8.sizeLe; have hqo := OQ.out.lt; have hgq8 : g + 1 < q8 := Nat.lt_trans HDC.out.lt hlq8; have OM := Lib.hid hlm8; clear hq8 hs8 hr8 hd8 hu8 hlm8 hdrC r9 s9 l9 r10 s10 l10)))
                go_ret
                rw [HG.out]
                have hzz := BZ.out.size
                have hzg := HG.out
                exact ⟨rfl, bthen (balloc2 BZ.out _ (by omega)) hbl (by omega)⟩
              · have HLM3 := Lib.hid hlm3
                clear hlm3
                go_wp2_with (first
                    | (go_at_call 7; (refine (LogM.opens (g + 1) Sc hasB snB s3 old3 LB jk _ _ HDC.out HLM3.out hscd hscl hscm (by omega) (by omega)).mono ?_; rintro e wo ⟨S8, ⟨q8, sv8, rv8, rfl, hq8, hs8, hr8, hlq8⟩, hd8, hu8, hlm8, hdd8, hl8, hlim8, -⟩; obtain ⟨xk, ck, rfl, -⟩ := hs8.sh.open; obtain ⟨xq, cq, rfl, -⟩ := hr8.bss.open; have hdrC := HDC.out.rowC.choose_spec; obtain ⟨ms, mc, mr, md, r9, s9, l9⟩ := M9C.out.upd hu8 hdrC (by decide) (by omega); obtain ⟨ns, nc, nr, nd, r10, s10, l10⟩ := M10C.out.upd hu8 hdrC (by decide) (by omega); have m0 := fun o => Row.cell (Row.alloc (r9) o) 0; have m1 := fun o => Row.cell (Row.alloc (r9) o) 1; have m2 := fun o => Row.cell (Row.alloc (r9) o) 2; simp only [List.getElem?_cons_succ, List.getElem?_cons_zero] at m0 m1 m2; have OR10 := Lib.hid r10; have OS9 := Lib.hid s9; have OL9 := Lib.hid l9; have OS10 := Lib.hid s10; have OL10 := Lib.hid l10; have OB := Lib.hid (BC.out.trans (hu8.below (by omega) hgc)); have OQ := Lib.hid hq8; have OSV := Lib.hid hs8; have ORV := Lib.hid hr8; have OD := Lib.hid hd8; have hgo : g ≤ wo.heap.size := Nat.le_trans hgc hu8.sizeLe; have hqo := OQ.out.lt; have hgq8 : g + 1 < q8 := Nat.lt_trans HDC.out.lt hlq8; have OM := Lib.hid hlm8; clear hq8 hs8 hr8 hd8 hu8 hlm8 hdrC r9 s9 l9 r10 s10 l10)))
                refine (is_any has hasB _ _ _ _ _ sn snB L LB _ (OS9.out.at' (OB.out.trans ((balloc (Below.refl wo.heap.size wo) _).mono hgo)) (Nat.le_of_eq HG.out)) (OSV.out.sh.below (balloc (Below.refl wo.heap.size wo) _)) ((OL9.out.below (balloc (Below.refl wo.heap.size wo) _)).bss (by rw [HG.out]; exact OB.out.trans ((balloc (Below.refl wo.heap.size wo) _).mono hgo))) (ORV.out.below (balloc (Below.refl wo.heap.size wo) _)).bss).mono ?_
                rintro e w9 ⟨bb, rfl, hb9⟩
                have hbI := bthen (balloc (Below.refl wo.heap.size wo) (.cells #[.bool hasB, .slice xk snB.length ck, .slice xq LB.length cq, .int .u64 ((s3 + old3.length + LB.length : Nat) : Int)] 31)) hb9 (Nat.le_refl _)
                have kcI := HKC.out w9 #[.int .u8 109, .int .u8 111, .int .u8 114, .int .u8 101] 4 4
                simp at kcI
                have R15 := Lib.hid ((Row.new wo 31 [.bool hasB, .slice xk snB.length ck, .slice xq LB.length cq, .int .u64 ((s3 + old3.length + LB.length : Nat) : Int)]).keep hb9)
                have IB := Lib.hid hbI
                clear hbI hb9
                cases bb
                · have t10 := OR10.out.keep IB.out
                  have t0 := Row.cell (t10) 0; have t1 := Row.cell (t10) 1; have t2 := Row.cell (t10) 2; simp only [List.getElem?_cons_succ, List.getElem?_cons_zero] at t0 t1 t2
                  have k0 := Row.cell (R15.out) 0; have k1 := Row.cell (R15.out) 1; have k2 := Row.cell (R15.out) 2; have k3 := Row.cell (R15.out) 3; simp only [List.getElem?_cons_succ, List.getElem?_cons_zero] at k0 k1 k2 k3
                  clear t10
                  go_wp2_with (first
                      | (go_at_call 12; refine (lives15 _).mono ?_; rintro e wl ⟨rfl, hbl⟩)
                      | (go_at_call 7; (refine (LogM.opens (g + 1) S9 hasB snB s3 old3 (LB ++ [[109, 111, 114, 101]]) [] _ _ DP.out LM9.out hdd9 hl9 hlim9 (by omega) (by decide)).mono ?_; rintro e wz ⟨S10, ⟨qz, svz, rvz, rfl, hqz, hsz, hrz, hlqz⟩, hdz, huz, -⟩; obtain ⟨xz, cz, rfl, -⟩ := hsz.sh.open; obtain ⟨xy, cy, rfl, -⟩ := hrz.bss.open; obtain ⟨bz, offz, rfl, -, hatz⟩ := hrz.cells (by simp); obtain ⟨uz, huzc, houz⟩ := hatz LB.length (by simp); obtain ⟨xu, cu, rfl, -⟩ := houz.sh.open; have hgd : (LB ++ [[109, 111, 114, 101]] : List (List UInt8)).getD LB.length [] = [109, 111, 114, 101] := (by simp [List.getD]); rw [hgd] at houz huzc; have hcz := fun o => bcell (balloc (Below.refl wz.heap.size wz) o) huzc (blt huzc); have hcv : ∀ o, (convert 27 9 (.slice xu 4 cu)).run Try.prog (wz.alloc o) = .ok (.string ⟨#[109, 111, 114, 101]⟩) (wz.alloc o) := fun o => conv_run (houz.sh.at' (balloc (Below.refl wz.heap.size wz) o) (Nat.le_refl _)); have hwr : IntKind.i64.wrap ((LB.length : Int) + 1) = (LB.length : Int) + 1 := IntWalk.i64_in _ ⟨by omega, by omega⟩; have RZ := Lib.hid (huz.row RP.out (by omega)); have k0 := fun o => Row.cell (Row.alloc (RZ.out) o) 0; have k1 := fun o => Row.cell (Row.alloc (RZ.out) o) 1; have k2 := fun o => Row.cell (Row.alloc (RZ.out) o) 2; have k3 := fun o => Row.cell (Row.alloc (RZ.out) o) 3; simp only [List.getElem?_cons_succ, List.getElem?_cons_zero] at k0 k1 k2 k3; have BZ := Lib.hid (BP.out.trans (huz.below (by omega) hgp)); clear hqz hsz hrz hdz huz hatz houz huzc))
                      | (go_at_call 8; (obtain ⟨S9, hw9, hlm9, hdd9, hl9, hlim9⟩ := LogM.more OM.out hdd8 hl8 hlim8 (by omega) [109, 111, 114, 101] (by decide) (by omega); have hlt := balloc (Below.refl wi.heap.size wi) (.cells #[.int .u8 109, .int .u8 111, .int .u8 114, .int .u8 101] 5 (4, 5)); have hbl := bthen IBJ.out hlt (Nat.le_refl _); have hmsz := OM.out.size; have hmn := OM.out.n0; rw [List.append_nil] at hmn; have hmn := congrArg List.length hmn; refine (Append_any q8 (g + 1) (s3 + old3.length + LB.length) _ [109, 111, 114, 101] S8 _ (OQ.out.keep hbl) (OD.out.keepB hbl) (lit_sb (w1 := wi) (p := g) (4, 5) [109, 111, 114, 101] (by decide) (by have := IBJ.out.size; omega) _ (Upd.refl _ _)) (by omega) (by decide) (by omega) (by omega) (by omega) (by omega)).mono ?_; rw [hw9]; rintro e wp ⟨rfl, hdp, hqp, vp, hup, hxp⟩; have RP := Lib.hid (hxp.row (hup.row (R15J.out.keep hlt) (by omega)) (by omega)); have DP := Lib.hid hdp; have BP := Lib.hid (((OB.out.trans (hbl.mono hgo)).trans (hup.below (by omega) (by have := hbl.size; omega))).trans (hxp.below (by omega) (by have := hbl.size; have := hup.sizeLe; omega))); have hgp : g ≤ wp.heap.size := (by have h1 := BP.out.size; have h2 := HG.out; omega); have LM9 := Lib.hid hlm9; clear hdp hqp hup hxp hlm9 hlt hbl hw9))
                      | (go_at_call 11; (refine (is_yes hasB _ _ _ _ _ snB LB _ (OS10.out.at' (OB.out.trans (IB.out.mono hgo)) (Nat.le_of_eq HG.out)) (OSV.out.sh.below IB.out) ((OL10.out.below IB.out).bss (by rw [HG.out]; exact OB.out.trans (IB.out.mono hgo))) (ORV.out.below IB.out).bss).mono ?_; rintro e wi ⟨rfl, hbi⟩; have kcJ := HKC.out wi #[.int .u8 109, .int .u8 111, .int .u8 114, .int .u8 101] 4 4; simp at kcJ; have R15J := Lib.hid (R15.out.keep hbi); have IBJ := Lib.hid (bthen IB.out hbi (Nat.le_refl _)); clear hbi)))
                  go_ret
                  rw [HG.out]
                  have hzz := BZ.out.size
                  have hzg := HG.out
                  exact ⟨rfl, bthen (balloc2 BZ.out _ (by omega)) hbl (by omega)⟩
                · go_wp2_with (first
                      | (go_at_call 12; refine (lives15 _).mono ?_; rintro e wl ⟨rfl, hbl⟩)
                      | (go_at_call 7; (refine (LogM.opens (g + 1) S9 hasB snB s3 old3 (LB ++ [[109, 111, 114, 101]]) [] _ _ DP.out LM9.out hdd9 hl9 hlim9 (by omega) (by decide)).mono ?_; rintro e wz ⟨S10, ⟨qz, svz, rvz, rfl, hqz, hsz, hrz, hlqz⟩, hdz, huz, -⟩; obtain ⟨xz, cz, rfl, -⟩ := hsz.sh.open; obtain ⟨xy, cy, rfl, -⟩ := hrz.bss.open; obtain ⟨bz, offz, rfl, -, hatz⟩ := hrz.cells (by simp); obtain ⟨uz, huzc, houz⟩ := hatz LB.length (by simp); obtain ⟨xu, cu, rfl, -⟩ := houz.sh.open; have hgd : (LB ++ [[109, 111, 114, 101]] : List (List UInt8)).getD LB.length [] = [109, 111, 114, 101] := (by simp [List.getD]); rw [hgd] at houz huzc; have hcz := fun o => bcell (balloc (Below.refl wz.heap.size wz) o) huzc (blt huzc); have hcv : ∀ o, (convert 27 9 (.slice xu 4 cu)).run Try.prog (wz.alloc o) = .ok (.string ⟨#[109, 111, 114, 101]⟩) (wz.alloc o) := fun o => conv_run (houz.sh.at' (balloc (Below.refl wz.heap.size wz) o) (Nat.le_refl _)); have hwr : IntKind.i64.wrap ((LB.length : Int) + 1) = (LB.length : Int) + 1 := IntWalk.i64_in _ ⟨by omega, by omega⟩; have RZ := Lib.hid (huz.row RP.out (by omega)); have k0 := fun o => Row.cell (Row.alloc (RZ.out) o) 0; have k1 := fun o => Row.cell (Row.alloc (RZ.out) o) 1; have k2 := fun o => Row.cell (Row.alloc (RZ.out) o) 2; have k3 := fun o => Row.cell (Row.alloc (RZ.out) o) 3; simp only [List.getElem?_cons_succ, List.getElem?_cons_zero] at k0 k1 k2 k3; have BZ := Lib.hid (BP.out.trans (huz.below (by omega) hgp)); clear hqz hsz hrz hdz huz hatz houz huzc))
                      | (go_at_call 8; (obtain ⟨S9, hw9, hlm9, hdd9, hl9, hlim9⟩ := LogM.more OM.out hdd8 hl8 hlim8 (by omega) [109, 111, 114, 101] (by decide) (by omega); have hlt := balloc (Below.refl w9.heap.size w9) (.cells #[.int .u8 109, .int .u8 111, .int .u8 114, .int .u8 101] 5 (4, 5)); have hbl := bthen IB.out hlt (Nat.le_refl _); have hmsz := OM.out.size; have hmn := OM.out.n0; rw [List.append_nil] at hmn; have hmn := congrArg List.length hmn; refine (Append_any q8 (g + 1) (s3 + old3.length + LB.length) _ [109, 111, 114, 101] S8 _ (OQ.out.keep hbl) (OD.out.keepB hbl) (lit_sb (w1 := w9) (p := g) (4, 5) [109, 111, 114, 101] (by decide) (by have := IB.out.size; omega) _ (Upd.refl _ _)) (by omega) (by decide) (by omega) (by omega) (by omega) (by omega)).mono ?_; rw [hw9]; rintro e wp ⟨rfl, hdp, hqp, vp, hup, hxp⟩; have RP := Lib.hid (hxp.row (hup.row (R15.out.keep hlt) (by omega)) (by omega)); have DP := Lib.hid hdp; have BP := Lib.hid (((OB.out.trans (hbl.mono hgo)).trans (hup.below (by omega) (by have := hbl.size; omega))).trans (hxp.below (by omega) (by have := hbl.size; have := hup.sizeLe; omega))); have hgp : g ≤ wp.heap.size := (by have h1 := BP.out.size; have h2 := HG.out; omega); have LM9 := Lib.hid hlm9; clear hdp hqp hup hxp hlm9 hlt hbl hw9)))
                  go_ret
                  rw [HG.out]
                  have hzz := BZ.out.size
                  have hzg := HG.out
                  exact ⟨rfl, bthen (balloc2 BZ.out _ (by omega)) hbl (by omega)⟩
            exact AllReadyH.nil
          exact AllReadyH.nil
        exact AllReadyH.nil
      refine AllReadyH.cons (by simp only [List.getElem?_toArray, List.getElem?_cons_zero, List.getElem?_cons_succ] <;> rfl) (fun K hK => ?_) ?_
      · go_simp; go_at_call 22; (refine (Safe_any C KP _ t _ (HT0.out.at' (B10.out.trans ((Below.refl w10.heap.size w10).mono hg10)) (Nat.le_of_eq HG.out)) (by omega)).mono ?_; rintro e wq ⟨vq, rfl, hsq, hbq⟩; have HSQ := Lib.hid hsq; have HBQ := Lib.hid (bthen (Below.refl w10.heap.size w10) hbq (Nat.le_refl _)); have RE := Lib.hid (Row.new wq 5 []); have HSH := Lib.hid (HSQ.out.below (balloc (Below.refl _ _) (.cells #[] 5))); have HBS := Lib.hid (bthen HBQ.out (balloc (Below.refl wq.heap.size wq) (.cells #[] 5)) (Nat.le_refl _)))
        refine hK.out _ _ (by exact Row.keep hHeld hbq) (fun hHeld => ?_)
        clear hK K
        try simp only [Act.put, List.setIfInBounds_toArray, List.set_cons_zero, List.set_cons_succ, Array.replicate]
        refine wpAnyH_ready (rs := [3]) (by kernel_rfl) (by simp) ?_
        refine AllReadyH.cons (by simp only [List.getElem?_toArray, List.getElem?_cons_zero, List.getElem?_cons_succ] <;> rfl) (fun K hK => ?_) ?_
        · go_simp
          refine hK.out _ _ (by exact Row.alloc hHeld _) (fun hHeld => ?_)
          clear hK K
          try simp only [Act.put, List.setIfInBounds_toArray, List.set_cons_zero, List.set_cons_succ, Array.replicate]
          refine wpAnyH_ready (rs := [6]) (by kernel_rfl) (by simp) ?_
          refine AllReadyH.cons (by simp only [List.getElem?_toArray, List.getElem?_cons_zero, List.getElem?_cons_succ] <;> rfl) (fun K hK => ?_) ?_
          · (refine step_app_own Try.underlying27 info_byte (by with_unfolding_all rfl) (.tmp 83) (.tmp 85) rfl rfl RE.out rfl HSH.out (by omega) ?_; intro va wa hoa hba; have OA := Lib.hid hoa; have BA := Lib.hid (bthen HBS.out hba (Nat.le_refl _)))
            refine hK.out _ _ (by exact Row.keep hHeld hba) (fun hHeld => ?_)
            clear hK K
            try simp only [Act.put, List.setIfInBounds_toArray, List.set_cons_zero, List.set_cons_succ, Array.replicate]
            refine wpAnyH_ready (rs := [7]) (by kernel_rfl) (by simp) ?_
            refine AllReadyH.cons (by simp only [List.getElem?_toArray, List.getElem?_cons_zero, List.getElem?_cons_succ] <;> rfl) (fun K hK => ?_) ?_
            · go_simp; go_at_call 21; (refine (Crash_of (g + 1) KP _ (safeL KP t) S Sc hSc _ (D10.out.keepB BA.out) (fun w' hu => (hu.own OA.out (D10.out.keepB BA.out).rowC.choose_spec (by decide)).sh) (by omega) (fun _ => by omega)).mono ?_; rintro e wc ⟨rfl, hdc, huc⟩; try go_simp)
              refine hK.out _ _ (by exact huc.row hHeld (by omega)) (fun hHeld => ?_)
              clear hK K
              try simp only [Act.put, List.setIfInBounds_toArray, List.set_cons_zero, List.set_cons_succ, Array.replicate]
              refine wpAnyH_done (by kernel_rfl) ?_ _
              have hdr := (D10.out.keepB BA.out).rowC.choose_spec
              have M9C := Lib.hid ((M910.out.keep BA.out).upd huc hdr (by decide) (by omega))
              have BC := Lib.hid ((B10.out.trans (BA.out.mono hg10)).trans (huc.below (by omega) (by have := BA.out.size; omega)))
              have HDC := Lib.hid hdc
              obtain ⟨hasB, snB, LB, HCR', M10C'⟩ : ∃ hasB snB LB, ((∃ s old junk, LogM Sc has sn s old L junk _ ∧ junk.length ≤ (safeL KP t).length + 4000 ∧ s + old.length + L.length ≤ 500) ∨ (∃ s old junk, LogM Sc hasB snB s old LB junk _ ∧ junk.length ≤ (safeL KP t).length + 4000 ∧ s + old.length + LB.length ≤ 500)) ∧ ModR w wc (h + 1) hasB snB LB := ⟨_, _, _, HCR.out, (M1010.out.keep BA.out).upd huc hdr (by decide) (by omega)⟩
              have M10C := Lib.hid M10C'
              have hgc : g ≤ wc.heap.size := by have := BC.out.size; have := HG.out; omega
              clear M10C' hdr huc hdc hba hoa hbq hsq D10 M910 M1010 B10 OA BA HBS HSH HSQ HBQ RE HCR E10 E9
              rcases HCR' with ⟨s3, old3, jk, hlm3, hj3, hc3⟩ | ⟨s3, old3, jk, hlm3, hj3, hc3⟩
              · have HLM3 := Lib.hid hlm3
                clear hlm3
                go_wp2_with (first
                    | (go_at_call 12; refine (lives15 _).mono ?_; rintro e wl ⟨rfl, hbl⟩)
                    | (go_at_call 7; (refine (LogM.opens (g + 1) S9 has sn s3 old3 (L ++ [[109, 111, 114, 101]]) [] _ _ DP.out LM9.out hdd9 hl9 hlim9 (by omega) (by decide)).mono ?_; rintro e wz ⟨S10, ⟨qz, svz, rvz, rfl, hqz, hsz, hrz, hlqz⟩, hdz, huz, -⟩; obtain ⟨xz, cz, rfl, -⟩ := hsz.sh.open; obtain ⟨xy, cy, rfl, -⟩ := hrz.bss.open; obtain ⟨bz, offz, rfl, -, hatz⟩ := hrz.cells (by simp); obtain ⟨uz, huzc, houz⟩ := hatz L.length (by simp); obtain ⟨xu, cu, rfl, -⟩ := houz.sh.open; have hgd : (L ++ [[109, 111, 114, 101]] : List (List UInt8)).getD L.length [] = [109, 111, 114, 101] := (by simp [List.getD]); rw [hgd] at houz huzc; have hcz := fun o => bcell (balloc (Below.refl wz.heap.size wz) o) huzc (blt huzc); have hcv : ∀ o, (convert 27 9 (.slice xu 4 cu)).run Try.prog (wz.alloc o) = .ok (.string ⟨#[109, 111, 114, 101]⟩) (wz.alloc o) := fun o => conv_run (houz.sh.at' (balloc (Below.refl wz.heap.size wz) o) (Nat.le_refl _)); have hwr : IntKind.i64.wrap ((L.length : Int) + 1) = (L.length : Int) + 1 := IntWalk.i64_in _ ⟨by omega, by omega⟩; have RZ := Lib.hid (huz.row RP.out (by omega)); have k0 := fun o => Row.cell (Row.alloc (RZ.out) o) 0; have k1 := fun o => Row.cell (Row.alloc (RZ.out) o) 1; have k2 := fun o => Row.cell (Row.alloc (RZ.out) o) 2; have k3 := fun o => Row.cell (Row.alloc (RZ.out) o) 3; simp only [List.getElem?_cons_succ, List.getElem?_cons_zero] at k0 k1 k2 k3; have BZ := Lib.hid (BP.out.trans (huz.below (by omega) hgp)); clear hqz hsz hrz hdz huz hatz houz huzc))
                    | (go_at_call 8; (obtain ⟨S9, hw9, hlm9, hdd9, hl9, hlim9⟩ := LogM.more OM.out hdd8 hl8 hlim8 (by omega) [109, 111, 114, 101] (by decide) (by omega); have hlt := balloc (Below.refl w9.heap.size w9) (.cells #[.int .u8 109, .int .u8 111, .int .u8 114, .int .u8 101] 5 (4, 5)); have hbl := bthen IB.out hlt (Nat.le_refl _); have hmsz := OM.out.size; have hmn := OM.out.n0; rw [List.append_nil] at hmn; have hmn := congrArg List.length hmn; refine (Append_any q8 (g + 1) (s3 + old3.length + L.length) _ [109, 111, 114, 101] S8 _ (OQ.out.keep hbl) (OD.out.keepB hbl) (lit_sb (w1 := w9) (p := g) (4, 5) [109, 111, 114, 101] (by decide) (by have := IB.out.size; omega) _ (Upd.refl _ _)) (by omega) (by decide) (by omega) (by omega) (by omega) (by omega)).mono ?_; rw [hw9]; rintro e wp ⟨rfl, hdp, hqp, vp, hup, hxp⟩; have RP := Lib.hid (hxp.row (hup.row (R15.out.keep hlt) (by omega)) (by omega)); have DP := Lib.hid hdp; have BP := Lib.hid (((OB.out.trans (hbl.mono hgo)).trans (hup.below (by omega) (by have := hbl.size; omega))).trans (hxp.below (by omega) (by have := hbl.size; have := hup.sizeLe; omega))); have hgp : g ≤ wp.heap.size := (by have h1 := BP.out.size; have h2 := HG.out; omega); have LM9 := Lib.hid hlm9; clear hdp hqp hup hxp hlm9 hlt hbl hw9))
                    | (go_at_call 11; (refine (is_yes has _ _ _ _ _ sn L _ (OS9.out.at' (OB.out.trans ((balloc (Below.refl wo.heap.size wo) _).mono hgo)) (Nat.le_of_eq HG.out)) (OSV.out.sh.below (balloc (Below.refl wo.heap.size wo) _)) ((OL9.out.below (balloc (Below.refl wo.heap.size wo) _)).bss (by rw [HG.out]; exact OB.out.trans ((balloc (Below.refl wo.heap.size wo) _).mono hgo))) (ORV.out.below (balloc (Below.refl wo.heap.size wo) _)).bss).mono ?_; rintro e w9 ⟨rfl, hb9⟩; have hbI := bthen (balloc (Below.refl wo.heap.size wo) (.cells #[.bool has, .slice xk sn.length ck, .slice xq L.length cq, .int .u64 ((s3 + old3.length + L.length : Nat) : Int)] 31)) hb9 (Nat.le_refl _); have kcI := HKC.out w9 #[.int .u8 109, .int .u8 111, .int .u8 114, .int .u8 101] 4 4; simp at kcI; have R15 := Lib.hid ((Row.new wo 31 [.bool has, .slice xk sn.length ck, .slice xq L.length cq, .int .u64 ((s3 + old3.length + L.length : Nat) : Int)]).keep hb9); have IB := Lib.hid hbI; clear hbI hb9))
                    | (go_at_call 7; (refine (LogM.opens (g + 1) Sc has sn s3 old3 L jk _ _ HDC.out HLM3.out hscd hscl hscm (by omega) (by omega)).mono ?_; rintro e wo ⟨S8, ⟨q8, sv8, rv8, rfl, hq8, hs8, hr8, hlq8⟩, hd8, hu8, hlm8, hdd8, hl8, hlim8, -⟩; obtain ⟨xk, ck, rfl, -⟩ := hs8.sh.open; obtain ⟨xq, cq, rfl, -⟩ := hr8.bss.open; have hdrC := HDC.out.rowC.choose_spec; obtain ⟨ms, mc, mr, md, r9, s9, l9⟩ := M9C.out.upd hu8 hdrC (by decide) (by omega); obtain ⟨ns, nc, nr, nd, r10, s10, l10⟩ := M10C.out.upd hu8 hdrC (by decide) (by omega); have m0 := fun o => Row.cell (Row.alloc (r9) o) 0; have m1 := fun o => Row.cell (Row.alloc (r9) o) 1; have m2 := fun o => Row.cell (Row.alloc (r9) o) 2; simp only [List.getElem?_cons_succ, List.getElem?_cons_zero] at m0 m1 m2; have OR10 := Lib.hid r10; have OS9 := Lib.hid s9; have OL9 := Lib.hid l9; have OS10 := Lib.hid s10; have OL10 := Lib.hid l10; have OB := Lib.hid (BC.out.trans (hu8.below (by omega) hgc)); have OQ := Lib.hid hq8; have OSV := Lib.hid hs8; have ORV := Lib.hid hr8; have OD := Lib.hid hd8; have hgo : g ≤ wo.heap.size := Nat.le_trans hgc hu8.sizeLe; have hqo := OQ.out.lt; have hgq8 : g + 1 < q8 := Nat.lt_trans HDC.out.lt hlq8; have OM := Lib.hid hlm8; clear hq8 hs8 hr8 hd8 hu8 hlm8 hdrC r9 s9 l9 r10 s10 l10)))
                go_ret
                rw [HG.out]
                have hzz := BZ.out.size
                have hzg := HG.out
                exact ⟨rfl, bthen (balloc2 BZ.out _ (by omega)) hbl (by omega)⟩
              · have HLM3 := Lib.hid hlm3
                clear hlm3
                go_wp2_with (first
                    | (go_at_call 7; (refine (LogM.opens (g + 1) Sc hasB snB s3 old3 LB jk _ _ HDC.out HLM3.out hscd hscl hscm (by omega) (by omega)).mono ?_; rintro e wo ⟨S8, ⟨q8, sv8, rv8, rfl, hq8, hs8, hr8, hlq8⟩, hd8, hu8, hlm8, hdd8, hl8, hlim8, -⟩; obtain ⟨xk, ck, rfl, -⟩ := hs8.sh.open; obtain ⟨xq, cq, rfl, -⟩ := hr8.bss.open; have hdrC := HDC.out.rowC.choose_spec; obtain ⟨ms, mc, mr, md, r9, s9, l9⟩ := M9C.out.upd hu8 hdrC (by decide) (by omega); obtain ⟨ns, nc, nr, nd, r10, s10, l10⟩ := M10C.out.upd hu8 hdrC (by decide) (by omega); have m0 := fun o => Row.cell (Row.alloc (r9) o) 0; have m1 := fun o => Row.cell (Row.alloc (r9) o) 1; have m2 := fun o => Row.cell (Row.alloc (r9) o) 2; simp only [List.getElem?_cons_succ, List.getElem?_cons_zero] at m0 m1 m2; have OR10 := Lib.hid r10; have OS9 := Lib.hid s9; have OL9 := Lib.hid l9; have OS10 := Lib.hid s10; have OL10 := Lib.hid l10; have OB := Lib.hid (BC.out.trans (hu8.below (by omega) hgc)); have OQ := Lib.hid hq8; have OSV := Lib.hid hs8; have ORV := Lib.hid hr8; have OD := Lib.hid hd8; have hgo : g ≤ wo.heap.size := Nat.le_trans hgc hu8.sizeLe; have hqo := OQ.out.lt; have hgq8 : g + 1 < q8 := Nat.lt_trans HDC.out.lt hlq8; have OM := Lib.hid hlm8; clear hq8 hs8 hr8 hd8 hu8 hlm8 hdrC r9 s9 l9 r10 s10 l10)))
                refine (is_any has hasB _ _ _ _ _ sn snB L LB _ (OS9.out.at' (OB.out.trans ((balloc (Below.refl wo.heap.size wo) _).mono hgo)) (Nat.le_of_eq HG.out)) (OSV.out.sh.below (balloc (Below.refl wo.heap.size wo) _)) ((OL9.out.below (balloc (Below.refl wo.heap.size wo) _)).bss (by rw [HG.out]; exact OB.out.trans ((balloc (Below.refl wo.heap.size wo) _).mono hgo))) (ORV.out.below (balloc (Below.refl wo.heap.size wo) _)).bss).mono ?_
                rintro e w9 ⟨bb, rfl, hb9⟩
                have hbI := bthen (balloc (Below.refl wo.heap.size wo) (.cells #[.bool hasB, .slice xk snB.length ck, .slice xq LB.length cq, .int .u64 ((s3 + old3.length + LB.length : Nat) : Int)] 31)) hb9 (Nat.le_refl _)
                have kcI := HKC.out w9 #[.int .u8 109, .int .u8 111, .int .u8 114, .int .u8 101] 4 4
                simp at kcI
                have R15 := Lib.hid ((Row.new wo 31 [.bool hasB, .slice xk snB.length ck, .slice xq LB.length cq, .int .u64 ((s3 + old3.length + LB.length : Nat) : Int)]).keep hb9)
                have IB := Lib.hid hbI
                clear hbI hb9
                cases bb
                · have t10 := OR10.out.keep IB.out
                  have t0 := Row.cell (t10) 0; have t1 := Row.cell (t10) 1; have t2 := Row.cell (t10) 2; simp only [List.getElem?_cons_succ, List.getElem?_cons_zero] at t0 t1 t2
                  have k0 := Row.cell (R15.out) 0; have k1 := Row.cell (R15.out) 1; have k2 := Row.cell (R15.out) 2; have k3 := Row.cell (R15.out) 3; simp only [List.getElem?_cons_succ, List.getElem?_cons_zero] at k0 k1 k2 k3
                  clear t10
                  go_wp2_with (first
                      | (go_at_call 12; refine (lives15 _).mono ?_; rintro e wl ⟨rfl, hbl⟩)
                      | (go_at_call 7; (refine (LogM.opens (g + 1) S9 hasB snB s3 old3 (LB ++ [[109, 111, 114, 101]]) [] _ _ DP.out LM9.out hdd9 hl9 hlim9 (by omega) (by decide)).mono ?_; rintro e wz ⟨S10, ⟨qz, svz, rvz, rfl, hqz, hsz, hrz, hlqz⟩, hdz, huz, -⟩; obtain ⟨xz, cz, rfl, -⟩ := hsz.sh.open; obtain ⟨xy, cy, rfl, -⟩ := hrz.bss.open; obtain ⟨bz, offz, rfl, -, hatz⟩ := hrz.cells (by simp); obtain ⟨uz, huzc, houz⟩ := hatz LB.length (by simp); obtain ⟨xu, cu, rfl, -⟩ := houz.sh.open; have hgd : (LB ++ [[109, 111, 114, 101]] : List (List UInt8)).getD LB.length [] = [109, 111, 114, 101] := (by simp [List.getD]); rw [hgd] at houz huzc; have hcz := fun o => bcell (balloc (Below.refl wz.heap.size wz) o) huzc (blt huzc); have hcv : ∀ o, (convert 27 9 (.slice xu 4 cu)).run Try.prog (wz.alloc o) = .ok (.string ⟨#[109, 111, 114, 101]⟩) (wz.alloc o) := fun o => conv_run (houz.sh.at' (balloc (Below.refl wz.heap.size wz) o) (Nat.le_refl _)); have hwr : IntKind.i64.wrap ((LB.length : Int) + 1) = (LB.length : Int) + 1 := IntWalk.i64_in _ ⟨by omega, by omega⟩; have RZ := Lib.hid (huz.row RP.out (by omega)); have k0 := fun o => Row.cell (Row.alloc (RZ.out) o) 0; have k1 := fun o => Row.cell (Row.alloc (RZ.out) o) 1; have k2 := fun o => Row.cell (Row.alloc (RZ.out) o) 2; have k3 := fun o => Row.cell (Row.alloc (RZ.out) o) 3; simp only [List.getElem?_cons_succ, List.getElem?_cons_zero] at k0 k1 k2 k3; have BZ := Lib.hid (BP.out.trans (huz.below (by omega) hgp)); clear hqz hsz hrz hdz huz hatz houz huzc))
                      | (go_at_call 8; (obtain ⟨S9, hw9, hlm9, hdd9, hl9, hlim9⟩ := LogM.more OM.out hdd8 hl8 hlim8 (by omega) [109, 111, 114, 101] (by decide) (by omega); have hlt := balloc (Below.refl wi.heap.size wi) (.cells #[.int .u8 109, .int .u8 111, .int .u8 114, .int .u8 101] 5 (4, 5)); have hbl := bthen IBJ.out hlt (Nat.le_refl _); have hmsz := OM.out.size; have hmn := OM.out.n0; rw [List.append_nil] at hmn; have hmn := congrArg List.length hmn; refine (Append_any q8 (g + 1) (s3 + old3.length + LB.length) _ [109, 111, 114, 101] S8 _ (OQ.out.keep hbl) (OD.out.keepB hbl) (lit_sb (w1 := wi) (p := g) (4, 5) [109, 111, 114, 101] (by decide) (by have := IBJ.out.size; omega) _ (Upd.refl _ _)) (by omega) (by decide) (by omega) (by omega) (by omega) (by omega)).mono ?_; rw [hw9]; rintro e wp ⟨rfl, hdp, hqp, vp, hup, hxp⟩; have RP := Lib.hid (hxp.row (hup.row (R15J.out.keep hlt) (by omega)) (by omega)); have DP := Lib.hid hdp; have BP := Lib.hid (((OB.out.trans (hbl.mono hgo)).trans (hup.below (by omega) (by have := hbl.size; omega))).trans (hxp.below (by omega) (by have := hbl.size; have := hup.sizeLe; omega))); have hgp : g ≤ wp.heap.size := (by have h1 := BP.out.size; have h2 := HG.out; omega); have LM9 := Lib.hid hlm9; clear hdp hqp hup hxp hlm9 hlt hbl hw9))
                      | (go_at_call 11; (refine (is_yes hasB _ _ _ _ _ snB LB _ (OS10.out.at' (OB.out.trans (IB.out.mono hgo)) (Nat.le_of_eq HG.out)) (OSV.out.sh.below IB.out) ((OL10.out.below IB.out).bss (by rw [HG.out]; exact OB.out.trans (IB.out.mono hgo))) (ORV.out.below IB.out).bss).mono ?_; rintro e wi ⟨rfl, hbi⟩; have kcJ := HKC.out wi #[.int .u8 109, .int .u8 111, .int .u8 114, .int .u8 101] 4 4; simp at kcJ; have R15J := Lib.hid (R15.out.keep hbi); have IBJ := Lib.hid (bthen IB.out hbi (Nat.le_refl _)); clear hbi)))
                  go_ret
                  rw [HG.out]
                  have hzz := BZ.out.size
                  have hzg := HG.out
                  exact ⟨rfl, bthen (balloc2 BZ.out _ (by omega)) hbl (by omega)⟩
                · go_wp2_with (first
                      | (go_at_call 12; refine (lives15 _).mono ?_; rintro e wl ⟨rfl, hbl⟩)
                      | (go_at_call 7; (refine (LogM.opens (g + 1) S9 hasB snB s3 old3 (LB ++ [[109, 111, 114, 101]]) [] _ _ DP.out LM9.out hdd9 hl9 hlim9 (by omega) (by decide)).mono ?_; rintro e wz ⟨S10, ⟨qz, svz, rvz, rfl, hqz, hsz, hrz, hlqz⟩, hdz, huz, -⟩; obtain ⟨xz, cz, rfl, -⟩ := hsz.sh.open; obtain ⟨xy, cy, rfl, -⟩ := hrz.bss.open; obtain ⟨bz, offz, rfl, -, hatz⟩ := hrz.cells (by simp); obtain ⟨uz, huzc, houz⟩ := hatz LB.length (by simp); obtain ⟨xu, cu, rfl, -⟩ := houz.sh.open; have hgd : (LB ++ [[109, 111, 114, 101]] : List (List UInt8)).getD LB.length [] = [109, 111, 114, 101] := (by simp [List.getD]); rw [hgd] at houz huzc; have hcz := fun o => bcell (balloc (Below.refl wz.heap.size wz) o) huzc (blt huzc); have hcv : ∀ o, (convert 27 9 (.slice xu 4 cu)).run Try.prog (wz.alloc o) = .ok (.string ⟨#[109, 111, 114, 101]⟩) (wz.alloc o) := fun o => conv_run (houz.sh.at' (balloc (Below.refl wz.heap.size wz) o) (Nat.le_refl _)); have hwr : IntKind.i64.wrap ((LB.length : Int) + 1) = (LB.length : Int) + 1 := IntWalk.i64_in _ ⟨by omega, by omega⟩; have RZ := Lib.hid (huz.row RP.out (by omega)); have k0 := fun o => Row.cell (Row.alloc (RZ.out) o) 0; have k1 := fun o => Row.cell (Row.alloc (RZ.out) o) 1; have k2 := fun o => Row.cell (Row.alloc (RZ.out) o) 2; have k3 := fun o => Row.cell (Row.alloc (RZ.out) o) 3; simp only [List.getElem?_cons_succ, List.getElem?_cons_zero] at k0 k1 k2 k3; have BZ := Lib.hid (BP.out.trans (huz.below (by omega) hgp)); clear hqz hsz hrz hdz huz hatz houz huzc))
                      | (go_at_call 8; (obtain ⟨S9, hw9, hlm9, hdd9, hl9, hlim9⟩ := LogM.more OM.out hdd8 hl8 hlim8 (by omega) [109, 111, 114, 101] (by decide) (by omega); have hlt := balloc (Below.refl w9.heap.size w9) (.cells #[.int .u8 109, .int .u8 111, .int .u8 114, .int .u8 101] 5 (4, 5)); have hbl := bthen IB.out hlt (Nat.le_refl _); have hmsz := OM.out.size; have hmn := OM.out.n0; rw [List.append_nil] at hmn; have hmn := congrArg List.length hmn; refine (Append_any q8 (g + 1) (s3 + old3.length + LB.length) _ [109, 111, 114, 101] S8 _ (OQ.out.keep hbl) (OD.out.keepB hbl) (lit_sb (w1 := w9) (p := g) (4, 5) [109, 111, 114, 101] (by decide) (by have := IB.out.size; omega) _ (Upd.refl _ _)) (by omega) (by decide) (by omega) (by omega) (by omega) (by omega)).mono ?_; rw [hw9]; rintro e wp ⟨rfl, hdp, hqp, vp, hup, hxp⟩; have RP := Lib.hid (hxp.row (hup.row (R15.out.keep hlt) (by omega)) (by omega)); have DP := Lib.hid hdp; have BP := Lib.hid (((OB.out.trans (hbl.mono hgo)).trans (hup.below (by omega) (by have := hbl.size; omega))).trans (hxp.below (by omega) (by have := hbl.size; have := hup.sizeLe; omega))); have hgp : g ≤ wp.heap.size := (by have h1 := BP.out.size; have h2 := HG.out; omega); have LM9 := Lib.hid hlm9; clear hdp hqp hup hxp hlm9 hlt hbl hw9)))
                  go_ret
                  rw [HG.out]
                  have hzz := BZ.out.size
                  have hzg := HG.out
                  exact ⟨rfl, bthen (balloc2 BZ.out _ (by omega)) hbl (by omega)⟩
            exact AllReadyH.nil
          exact AllReadyH.nil
        exact AllReadyH.nil
      exact AllReadyH.nil

    · have hjI : (j : Int) < (As.length : Int) := by omega
      have hj6I : ¬ (j : Int) < 40 := by omega
      obtain ⟨xs, cs, xr, cr, r9, s9, l9⟩ := HM9.out
      obtain ⟨xs', cs', xr', cr', r10, s10, l10⟩ := HM10.out
      have m0 := Row.cell (r9) 0; have m1 := Row.cell (r9) 1; have m2 := Row.cell (r9) 2; simp only [List.getElem?_cons_succ, List.getElem?_cons_zero] at m0 m1 m2
      have n0 := Row.cell (r10) 0; have n1 := Row.cell (r10) 1; have n2 := Row.cell (r10) 2; simp only [List.getElem?_cons_succ, List.getElem?_cons_zero] at n0 n1 n2
      have nf0 := Row.frozen (r10) 0; have nf1 := Row.frozen (r10) 1; have nf2 := Row.frozen (r10) 2
      have HS9 := Lib.hid s9
      have HL9 := Lib.hid l9
      have HR9 := Lib.hid r9
      have HR10 := Lib.hid r10
      have hqh := HQH.out
      have hgq := HGQ.out
      clear r9 s9 l9 r10 s10 l10
      have hdd := HAL.out.dead
      have hlim' := HAL.out.lim
      have hsz' : S.f0.length + S.n0.length + S.f1.length + S.n1.length ≤ 10000000 := by
        have h1 := HLM.out.size
        have h2 := HLM.out.n0
        rw [List.append_nil] at h2
        rw [HAL.out.f0, HAL.out.f1, h2]; omega
      have HREC := Lib.hid (HAL.out.recov HLM.out (show _ ≤ 130000 by omega) (by omega) has sn L)
      have D8 := HD
      have M98 := HM9
      have M108 := HM10
      have E8 := HE
      have B8 := HB
      clear HM9 HM10 HD HQ HE HB
      go_upto_region 21 with (first
          | (go_at_call 20; (refine (Dead_dsk (g + 1) S _ D8.out).mono ?_; rw [hdd]; rintro e wd ⟨rfl, hwd⟩; have hwd' := hwd.symm; clear hwd; subst hwd')))
      have U9 := upd3 (h + 1) wr (.bool has) (.slice xs sn.length cs) (.slice xr L.length cr)
      have N9 : ModR w (((wr.setCell ⟨h + 1, 0, none⟩ (.bool has)).setCell ⟨h + 1, 1, none⟩ (.slice xs sn.length cs)).setCell ⟨h + 1, 2, none⟩ (.slice xr L.length cr)) (h + 1) has sn L := ModR.copy rfl rfl HS9.out HL9.out HR10.out
      have D9 := Lib.hid (D8.out.updO HR10.out (by decide) (by omega) U9)
      have M99 := Lib.hid (M98.out.upd U9 HR10.out (by decide) (by omega))
      have M109 := Lib.hid N9
      have E9 := Lib.hid (U9.row E8.out (by omega))
      have B9 := Lib.hid (B8.out.trans (U9.below (by omega) hps))
      clear D8 M98 M108 E8 B8 N9 U9 m0 m1 m2 n0 n1 n2 nf0 nf1 nf2 HR9 HS9 HL9 HR10
      generalize ((wr.setCell ⟨h + 1, 0, none⟩ (.bool has)).setCell ⟨h + 1, 1, none⟩ (.slice xs sn.length cs)).setCell ⟨h + 1, 2, none⟩ (.slice xr L.length cr) = wy at *
      have hg9 : g ≤ wy.heap.size := by have := B9.out.size; have := HG.out; omega
      have hcr := HREC.out KP (safeL KP t) (safeL_safe KP t)
      obtain ⟨Sc, hSc⟩ : ∃ Sc, S.crash KP (safeL KP t) = Sc := ⟨_, rfl⟩
      rw [hSc] at hcr
      have hscd : Sc.dead = false := by rw [← hSc]; rfl
      have hscl : Sc.left = -1 := by rw [← hSc]; rfl
      have hscm : Sc.lim = 1048576 := by rw [← hSc]; exact hlim'
      have htl2 := safeL_len KP t
      have HCR := Lib.hid hcr
      have D10 := Lib.hid (D9.out.keepB (Below.refl _ _).drew)
      have M910 := Lib.hid (M99.out.keep (Below.refl _ _).drew)
      have M1010 := Lib.hid (M109.out.keep (Below.refl _ _).drew)
      have B10 := Lib.hid (B9.out.trans ((Below.refl wy.heap.size wy).drew.mono hg9))
      have E10 := Lib.hid (Row.drew E9.out)
      clear D9 M99 M109 B9 hcr HREC
      refine wp_region_held_drew (S := fun w' => Row w' g 56 [.int .i64 C, .int .i64 KP, .slice xt t.length ct]) (by kernel_rfl) (by exact Row.drew E9.out) (fun hHeld => ?_)
      generalize World.drew wy = w10 at *
      have hg10 : g ≤ w10.heap.size := by have := B10.out.size; have := HG.out; omega
      refine wpAnyH_take (i := 0) (v := ?_) (by simp only [List.getElem?_toArray, List.getElem?_cons_zero, List.getElem?_cons_succ] <;> rfl) (by kernel_rfl) (by kernel_rfl) (by kernel_rfl) (by intro _ _ _ h; exact h) (Or.inl ⟨by rfl, ?_⟩) (by assumption) ?_
      rotate_left
      · intro w _; go_simp; try with_reducible rfl
      try simp only [Act.put, List.setIfInBounds_toArray, List.set_cons_zero, List.set_cons_succ, Array.replicate]
      refine wpAnyH_take (i := 1) (v := ?_) (by simp only [List.getElem?_toArray, List.getElem?_cons_zero, List.getElem?_cons_succ] <;> rfl) (by kernel_rfl) (by kernel_rfl) (by kernel_rfl) (by intro _ _ _ h; exact h) (Or.inl ⟨by rfl, ?_⟩) (by assumption) ?_
      rotate_left
      · intro w _; go_simp; try with_reducible rfl
      try simp only [Act.put, List.setIfInBounds_toArray, List.set_cons_zero, List.set_cons_succ, Array.replicate]
      refine wpAnyH_take (i := 2) (v := ?_) (by simp only [List.getElem?_toArray, List.getElem?_cons_zero, List.getElem?_cons_succ] <;> rfl) (by kernel_rfl) (by kernel_rfl) (by kernel_rfl) (by intro _ _ _ h; exact h) (Or.inl ⟨by rfl, ?_⟩) (by assumption) ?_
      rotate_left
      · intro w hSS; have q1 := Row.cell hSS 1; simp only [List.getElem?_cons_succ, List.getElem?_cons_zero] at q1; go_simp; try with_reducible rfl
      try simp only [Act.put, List.setIfInBounds_toArray, List.set_cons_zero, List.set_cons_succ, Array.replicate]
      refine wpAnyH_take (i := 4) (v := ?_) (by simp only [List.getElem?_toArray, List.getElem?_cons_zero, List.getElem?_cons_succ] <;> rfl) (by kernel_rfl) (by kernel_rfl) (by kernel_rfl) (by intro _ _ _ h; exact h) (Or.inl ⟨by rfl, ?_⟩) (by assumption) ?_
      rotate_left
      · intro w hSS; have q0 := Row.cell hSS 0; have q1 := Row.cell hSS 1; have q2 := Row.cell hSS 2; simp only [List.getElem?_cons_succ, List.getElem?_cons_zero] at q0 q1 q2; go_simp; try with_reducible rfl
      try simp only [Act.put, List.setIfInBounds_toArray, List.set_cons_zero, List.set_cons_succ, Array.replicate]
      refine wpAnyH_ready (rs := [3, 5]) (by kernel_rfl) (by simp) ?_
      refine AllReadyH.cons (by simp only [List.getElem?_toArray, List.getElem?_cons_zero, List.getElem?_cons_succ] <;> rfl) (fun K hK => ?_) ?_
      · go_simp
        refine hK.out _ _ (by exact Row.alloc hHeld _) (fun hHeld => ?_)
        clear hK K
        try simp only [Act.put, List.setIfInBounds_toArray, List.set_cons_zero, List.set_cons_succ, Array.replicate]
        refine wpAnyH_ready (rs := [5]) (by kernel_rfl) (by simp) ?_
        refine AllReadyH.cons (by simp only [List.getElem?_toArray, List.getElem?_cons_zero, List.getElem?_cons_succ] <;> rfl) (fun K hK => ?_) ?_
        · go_simp; go_at_call 22; (refine (Safe_any C KP _ t _ (HT0.out.at' (B10.out.trans ((balloc (Below.refl w10.heap.size w10) (.cells #[] 5)).mono hg10)) (Nat.le_of_eq HG.out)) (by omega)).mono ?_; rintro e wq ⟨vq, rfl, hsq, hbq⟩; have HSQ := Lib.hid hsq; have HBQ := Lib.hid (bthen (balloc (Below.refl w10.heap.size w10) (.cells #[] 5)) hbq (Nat.le_refl _)); have RE := Lib.hid ((Row.new w10 5 []).keep hbq); have HSH := HSQ; have HBS := HBQ)
          refine hK.out _ _ (by exact Row.keep hHeld hbq) (fun hHeld => ?_)
          clear hK K
          try simp only [Act.put, List.setIfInBounds_toArray, List.set_cons_zero, List.set_cons_succ, Array.replicate]
          refine wpAnyH_ready (rs := [6]) (by kernel_rfl) (by simp) ?_
          refine AllReadyH.cons (by simp only [List.getElem?_toArray, List.getElem?_cons_zero, List.getElem?_cons_succ] <;> rfl) (fun K hK => ?_) ?_
          · (refine step_app_own Try.underlying27 info_byte (by with_unfolding_all rfl) (.tmp 83) (.tmp 85) rfl rfl RE.out rfl HSH.out (by omega) ?_; intro va wa hoa hba; have OA := Lib.hid hoa; have BA := Lib.hid (bthen HBS.out hba (Nat.le_refl _)))
            refine hK.out _ _ (by exact Row.keep hHeld hba) (fun hHeld => ?_)
            clear hK K
            try simp only [Act.put, List.setIfInBounds_toArray, List.set_cons_zero, List.set_cons_succ, Array.replicate]
            refine wpAnyH_ready (rs := [7]) (by kernel_rfl) (by simp) ?_
            refine AllReadyH.cons (by simp only [List.getElem?_toArray, List.getElem?_cons_zero, List.getElem?_cons_succ] <;> rfl) (fun K hK => ?_) ?_
            · go_simp; go_at_call 21; (refine (Crash_of (g + 1) KP _ (safeL KP t) S Sc hSc _ (D10.out.keepB BA.out) (fun w' hu => (hu.own OA.out (D10.out.keepB BA.out).rowC.choose_spec (by decide)).sh) (by omega) (fun _ => by omega)).mono ?_; rintro e wc ⟨rfl, hdc, huc⟩; try go_simp)
              refine hK.out _ _ (by exact huc.row hHeld (by omega)) (fun hHeld => ?_)
              clear hK K
              try simp only [Act.put, List.setIfInBounds_toArray, List.set_cons_zero, List.set_cons_succ, Array.replicate]
              refine wpAnyH_done (by kernel_rfl) ?_ _
              have hdr := (D10.out.keepB BA.out).rowC.choose_spec
              have M9C := Lib.hid ((M910.out.keep BA.out).upd huc hdr (by decide) (by omega))
              have BC := Lib.hid ((B10.out.trans (BA.out.mono hg10)).trans (huc.below (by omega) (by have := BA.out.size; omega)))
              have HDC := Lib.hid hdc
              obtain ⟨hasB, snB, LB, HCR', M10C'⟩ : ∃ hasB snB LB, ((∃ s old junk, LogM Sc has sn s old L junk _ ∧ junk.length ≤ (safeL KP t).length + 4000 ∧ s + old.length + L.length ≤ 500) ∨ (∃ s old junk, LogM Sc hasB snB s old LB junk _ ∧ junk.length ≤ (safeL KP t).length + 4000 ∧ s + old.length + LB.length ≤ 500)) ∧ ModR w wc (h + 1) hasB snB LB := ⟨_, _, _, HCR.out, (M1010.out.keep BA.out).upd huc hdr (by decide) (by omega)⟩
              have M10C := Lib.hid M10C'
              have hgc : g ≤ wc.heap.size := by have := BC.out.size; have := HG.out; omega
              clear M10C' hdr huc hdc hba hoa hbq hsq D10 M910 M1010 B10 OA BA HBS HSH HSQ HBQ RE HCR E10 E9
              rcases HCR' with ⟨s3, old3, jk, hlm3, hj3, hc3⟩ | ⟨s3, old3, jk, hlm3, hj3, hc3⟩
              · have HLM3 := Lib.hid hlm3
                clear hlm3
                go_wp2_with (first
                    | (go_at_call 12; refine (lives15 _).mono ?_; rintro e wl ⟨rfl, hbl⟩)
                    | (go_at_call 7; (refine (LogM.opens (g + 1) S9 has sn s3 old3 (L ++ [[109, 111, 114, 101]]) [] _ _ DP.out LM9.out hdd9 hl9 hlim9 (by omega) (by decide)).mono ?_; rintro e wz ⟨S10, ⟨qz, svz, rvz, rfl, hqz, hsz, hrz, hlqz⟩, hdz, huz, -⟩; obtain ⟨xz, cz, rfl, -⟩ := hsz.sh.open; obtain ⟨xy, cy, rfl, -⟩ := hrz.bss.open; obtain ⟨bz, offz, rfl, -, hatz⟩ := hrz.cells (by simp); obtain ⟨uz, huzc, houz⟩ := hatz L.length (by simp); obtain ⟨xu, cu, rfl, -⟩ := houz.sh.open; have hgd : (L ++ [[109, 111, 114, 101]] : List (List UInt8)).getD L.length [] = [109, 111, 114, 101] := (by simp [List.getD]); rw [hgd] at houz huzc; have hcz := fun o => bcell (balloc (Below.refl wz.heap.size wz) o) huzc (blt huzc); have hcv : ∀ o, (convert 27 9 (.slice xu 4 cu)).run Try.prog (wz.alloc o) = .ok (.string ⟨#[109, 111, 114, 101]⟩) (wz.alloc o) := fun o => conv_run (houz.sh.at' (balloc (Below.refl wz.heap.size wz) o) (Nat.le_refl _)); have hwr : IntKind.i64.wrap ((L.length : Int) + 1) = (L.length : Int) + 1 := IntWalk.i64_in _ ⟨by omega, by omega⟩; have RZ := Lib.hid (huz.row RP.out (by omega)); have k0 := fun o => Row.cell (Row.alloc (RZ.out) o) 0; have k1 := fun o => Row.cell (Row.alloc (RZ.out) o) 1; have k2 := fun o => Row.cell (Row.alloc (RZ.out) o) 2; have k3 := fun o => Row.cell (Row.alloc (RZ.out) o) 3; simp only [List.getElem?_cons_succ, List.getElem?_cons_zero] at k0 k1 k2 k3; have BZ := Lib.hid (BP.out.trans (huz.below (by omega) hgp)); clear hqz hsz hrz hdz huz hatz houz huzc))
                    | (go_at_call 8; (obtain ⟨S9, hw9, hlm9, hdd9, hl9, hlim9⟩ := LogM.more OM.out hdd8 hl8 hlim8 (by omega) [109, 111, 114, 101] (by decide) (by omega); have hlt := balloc (Below.refl w9.heap.size w9) (.cells #[.int .u8 109, .int .u8 111, .int .u8 114, .int .u8 101] 5 (4, 5)); have hbl := bthen IB.out hlt (Nat.le_refl _); have hmsz := OM.out.size; have hmn := OM.out.n0; rw [List.append_nil] at hmn; have hmn := congrArg List.length hmn; refine (Append_any q8 (g + 1) (s3 + old3.length + L.length) _ [109, 111, 114, 101] S8 _ (OQ.out.keep hbl) (OD.out.keepB hbl) (lit_sb (w1 := w9) (p := g) (4, 5) [109, 111, 114, 101] (by decide) (by have := IB.out.size; omega) _ (Upd.refl _ _)) (by omega) (by decide) (by omega) (by omega) (by omega) (by omega)).mono ?_; rw [hw9]; rintro e wp ⟨rfl, hdp, hqp, vp, hup, hxp⟩; have RP := Lib.hid (hxp.row (hup.row (R15.out.keep hlt) (by omega)) (by omega)); have DP := Lib.hid hdp; have BP := Lib.hid (((OB.out.trans (hbl.mono hgo)).trans (hup.below (by omega) (by have := hbl.size; omega))).trans (hxp.below (by omega) (by have := hbl.size; have := hup.sizeLe; omega))); have hgp : g ≤ wp.heap.size := (by have h1 := BP.out.size; have h2 := HG.out; omega); have LM9 := Lib.hid hlm9; clear hdp hqp hup hxp hlm9 hlt hbl hw9))
                    | (go_at_call 11; (refine (is_yes has _ _ _ _ _ sn L _ (OS9.out.at' (OB.out.trans ((balloc (Below.refl wo.heap.size wo) _).mono hgo)) (Nat.le_of_eq HG.out)) (OSV.out.sh.below (balloc (Below.refl wo.heap.size wo) _)) ((OL9.out.below (balloc (Below.refl wo.heap.size wo) _)).bss (by rw [HG.out]; exact OB.out.trans ((balloc (Below.refl wo.heap.size wo) _).mono hgo))) (ORV.out.below (balloc (Below.refl wo.heap.size wo) _)).bss).mono ?_; rintro e w9 ⟨rfl, hb9⟩; have hbI := bthen (balloc (Below.refl wo.heap.size wo) (.cells #[.bool has, .slice xk sn.length ck, .slice xq L.length cq, .int .u64 ((s3 + old3.length + L.length : Nat) : Int)] 31)) hb9 (Nat.le_refl _); have kcI := HKC.out w9 #[.int .u8 109, .int .u8 111, .int .u8 114, .int .u8 101] 4 4; simp at kcI; have R15 := Lib.hid ((Row.new wo 31 [.bool has, .slice xk sn.length ck, .slice xq L.length cq, .int .u64 ((s3 + old3.length + L.length : Nat) : Int)]).keep hb9); have IB := Lib.hid hbI; clear hbI hb9))
                    | (go_at_call 7; (refine (LogM.opens (g + 1) Sc has sn s3 old3 L jk _ _ HDC.out HLM3.out hscd hscl hscm (by omega) (by omega)).mono ?_; rintro e wo ⟨S8, ⟨q8, sv8, rv8, rfl, hq8, hs8, hr8, hlq8⟩, hd8, hu8, hlm8, hdd8, hl8, hlim8, -⟩; obtain ⟨xk, ck, rfl, -⟩ := hs8.sh.open; obtain ⟨xq, cq, rfl, -⟩ := hr8.bss.open; have hdrC := HDC.out.rowC.choose_spec; obtain ⟨ms, mc, mr, md, r9, s9, l9⟩ := M9C.out.upd hu8 hdrC (by decide) (by omega); obtain ⟨ns, nc, nr, nd, r10, s10, l10⟩ := M10C.out.upd hu8 hdrC (by decide) (by omega); have m0 := fun o => Row.cell (Row.alloc (r9) o) 0; have m1 := fun o => Row.cell (Row.alloc (r9) o) 1; have m2 := fun o => Row.cell (Row.alloc (r9) o) 2; simp only [List.getElem?_cons_succ, List.getElem?_cons_zero] at m0 m1 m2; have OR10 := Lib.hid r10; have OS9 := Lib.hid s9; have OL9 := Lib.hid l9; have OS10 := Lib.hid s10; have OL10 := Lib.hid l10; have OB := Lib.hid (BC.out.trans (hu8.below (by omega) hgc)); have OQ := Lib.hid hq8; have OSV := Lib.hid hs8; have ORV := Lib.hid hr8; have OD := Lib.hid hd8; have hgo : g ≤ wo.heap.size := Nat.le_trans hgc hu8.sizeLe; have hqo := OQ.out.lt; have hgq8 : g + 1 < q8 := Nat.lt_trans HDC.out.lt hlq8; have OM := Lib.hid hlm8; clear hq8 hs8 hr8 hd8 hu8 hlm8 hdrC r9 s9 l9 r10 s10 l10)))
                go_ret
                rw [HG.out]
                have hzz := BZ.out.size
                have hzg := HG.out
                exact ⟨rfl, bthen (balloc2 BZ.out _ (by omega)) hbl (by omega)⟩
              · have HLM3 := Lib.hid hlm3
                clear hlm3
                go_wp2_with (first
                    | (go_at_call 7; (refine (LogM.opens (g + 1) Sc hasB snB s3 old3 LB jk _ _ HDC.out HLM3.out hscd hscl hscm (by omega) (by omega)).mono ?_; rintro e wo ⟨S8, ⟨q8, sv8, rv8, rfl, hq8, hs8, hr8, hlq8⟩, hd8, hu8, hlm8, hdd8, hl8, hlim8, -⟩; obtain ⟨xk, ck, rfl, -⟩ := hs8.sh.open; obtain ⟨xq, cq, rfl, -⟩ := hr8.bss.open; have hdrC := HDC.out.rowC.choose_spec; obtain ⟨ms, mc, mr, md, r9, s9, l9⟩ := M9C.out.upd hu8 hdrC (by decide) (by omega); obtain ⟨ns, nc, nr, nd, r10, s10, l10⟩ := M10C.out.upd hu8 hdrC (by decide) (by omega); have m0 := fun o => Row.cell (Row.alloc (r9) o) 0; have m1 := fun o => Row.cell (Row.alloc (r9) o) 1; have m2 := fun o => Row.cell (Row.alloc (r9) o) 2; simp only [List.getElem?_cons_succ, List.getElem?_cons_zero] at m0 m1 m2; have OR10 := Lib.hid r10; have OS9 := Lib.hid s9; have OL9 := Lib.hid l9; have OS10 := Lib.hid s10; have OL10 := Lib.hid l10; have OB := Lib.hid (BC.out.trans (hu8.below (by omega) hgc)); have OQ := Lib.hid hq8; have OSV := Lib.hid hs8; have ORV := Lib.hid hr8; have OD := Lib.hid hd8; have hgo : g ≤ wo.heap.size := Nat.le_trans hgc hu8.sizeLe; have hqo := OQ.out.lt; have hgq8 : g + 1 < q8 := Nat.lt_trans HDC.out.lt hlq8; have OM := Lib.hid hlm8; clear hq8 hs8 hr8 hd8 hu8 hlm8 hdrC r9 s9 l9 r10 s10 l10)))
                refine (is_any has hasB _ _ _ _ _ sn snB L LB _ (OS9.out.at' (OB.out.trans ((balloc (Below.refl wo.heap.size wo) _).mono hgo)) (Nat.le_of_eq HG.out)) (OSV.out.sh.below (balloc (Below.refl wo.heap.size wo) _)) ((OL9.out.below (balloc (Below.refl wo.heap.size wo) _)).bss (by rw [HG.out]; exact OB.out.trans ((balloc (Below.refl wo.heap.size wo) _).mono hgo))) (ORV.out.below (balloc (Below.refl wo.heap.size wo) _)).bss).mono ?_
                rintro e w9 ⟨bb, rfl, hb9⟩
                have hbI := bthen (balloc (Below.refl wo.heap.size wo) (.cells #[.bool hasB, .slice xk snB.length ck, .slice xq LB.length cq, .int .u64 ((s3 + old3.length + LB.length : Nat) : Int)] 31)) hb9 (Nat.le_refl _)
                have kcI := HKC.out w9 #[.int .u8 109, .int .u8 111, .int .u8 114, .int .u8 101] 4 4
                simp at kcI
                have R15 := Lib.hid ((Row.new wo 31 [.bool hasB, .slice xk snB.length ck, .slice xq LB.length cq, .int .u64 ((s3 + old3.length + LB.length : Nat) : Int)]).keep hb9)
                have IB := Lib.hid hbI
                clear hbI hb9
                cases bb
                · have t10 := OR10.out.keep IB.out
                  have t0 := Row.cell (t10) 0; have t1 := Row.cell (t10) 1; have t2 := Row.cell (t10) 2; simp only [List.getElem?_cons_succ, List.getElem?_cons_zero] at t0 t1 t2
                  have k0 := Row.cell (R15.out) 0; have k1 := Row.cell (R15.out) 1; have k2 := Row.cell (R15.out) 2; have k3 := Row.cell (R15.out) 3; simp only [List.getElem?_cons_succ, List.getElem?_cons_zero] at k0 k1 k2 k3
                  clear t10
                  go_wp2_with (first
                      | (go_at_call 12; refine (lives15 _).mono ?_; rintro e wl ⟨rfl, hbl⟩)
                      | (go_at_call 7; (refine (LogM.opens (g + 1) S9 hasB snB s3 old3 (LB ++ [[109, 111, 114, 101]]) [] _ _ DP.out LM9.out hdd9 hl9 hlim9 (by omega) (by decide)).mono ?_; rintro e wz ⟨S10, ⟨qz, svz, rvz, rfl, hqz, hsz, hrz, hlqz⟩, hdz, huz, -⟩; obtain ⟨xz, cz, rfl, -⟩ := hsz.sh.open; obtain ⟨xy, cy, rfl, -⟩ := hrz.bss.open; obtain ⟨bz, offz, rfl, -, hatz⟩ := hrz.cells (by simp); obtain ⟨uz, huzc, houz⟩ := hatz LB.length (by simp); obtain ⟨xu, cu, rfl, -⟩ := houz.sh.open; have hgd : (LB ++ [[109, 111, 114, 101]] : List (List UInt8)).getD LB.length [] = [109, 111, 114, 101] := (by simp [List.getD]); rw [hgd] at houz huzc; have hcz := fun o => bcell (balloc (Below.refl wz.heap.size wz) o) huzc (blt huzc); have hcv : ∀ o, (convert 27 9 (.slice xu 4 cu)).run Try.prog (wz.alloc o) = .ok (.string ⟨#[109, 111, 114, 101]⟩) (wz.alloc o) := fun o => conv_run (houz.sh.at' (balloc (Below.refl wz.heap.size wz) o) (Nat.le_refl _)); have hwr : IntKind.i64.wrap ((LB.length : Int) + 1) = (LB.length : Int) + 1 := IntWalk.i64_in _ ⟨by omega, by omega⟩; have RZ := Lib.hid (huz.row RP.out (by omega)); have k0 := fun o => Row.cell (Row.alloc (RZ.out) o) 0; have k1 := fun o => Row.cell (Row.alloc (RZ.out) o) 1; have k2 := fun o => Row.cell (Row.alloc (RZ.out) o) 2; have k3 := fun o => Row.cell (Row.alloc (RZ.out) o) 3; simp only [List.getElem?_cons_succ, List.getElem?_cons_zero] at k0 k1 k2 k3; have BZ := Lib.hid (BP.out.trans (huz.below (by omega) hgp)); clear hqz hsz hrz hdz huz hatz houz huzc))
                      | (go_at_call 8; (obtain ⟨S9, hw9, hlm9, hdd9, hl9, hlim9⟩ := LogM.more OM.out hdd8 hl8 hlim8 (by omega) [109, 111, 114, 101] (by decide) (by omega); have hlt := balloc (Below.refl wi.heap.size wi) (.cells #[.int .u8 109, .int .u8 111, .int .u8 114, .int .u8 101] 5 (4, 5)); have hbl := bthen IBJ.out hlt (Nat.le_refl _); have hmsz := OM.out.size; have hmn := OM.out.n0; rw [List.append_nil] at hmn; have hmn := congrArg List.length hmn; refine (Append_any q8 (g + 1) (s3 + old3.length + LB.length) _ [109, 111, 114, 101] S8 _ (OQ.out.keep hbl) (OD.out.keepB hbl) (lit_sb (w1 := wi) (p := g) (4, 5) [109, 111, 114, 101] (by decide) (by have := IBJ.out.size; omega) _ (Upd.refl _ _)) (by omega) (by decide) (by omega) (by omega) (by omega) (by omega)).mono ?_; rw [hw9]; rintro e wp ⟨rfl, hdp, hqp, vp, hup, hxp⟩; have RP := Lib.hid (hxp.row (hup.row (R15J.out.keep hlt) (by omega)) (by omega)); have DP := Lib.hid hdp; have BP := Lib.hid (((OB.out.trans (hbl.mono hgo)).trans (hup.below (by omega) (by have := hbl.size; omega))).trans (hxp.below (by omega) (by have := hbl.size; have := hup.sizeLe; omega))); have hgp : g ≤ wp.heap.size := (by have h1 := BP.out.size; have h2 := HG.out; omega); have LM9 := Lib.hid hlm9; clear hdp hqp hup hxp hlm9 hlt hbl hw9))
                      | (go_at_call 11; (refine (is_yes hasB _ _ _ _ _ snB LB _ (OS10.out.at' (OB.out.trans (IB.out.mono hgo)) (Nat.le_of_eq HG.out)) (OSV.out.sh.below IB.out) ((OL10.out.below IB.out).bss (by rw [HG.out]; exact OB.out.trans (IB.out.mono hgo))) (ORV.out.below IB.out).bss).mono ?_; rintro e wi ⟨rfl, hbi⟩; have kcJ := HKC.out wi #[.int .u8 109, .int .u8 111, .int .u8 114, .int .u8 101] 4 4; simp at kcJ; have R15J := Lib.hid (R15.out.keep hbi); have IBJ := Lib.hid (bthen IB.out hbi (Nat.le_refl _)); clear hbi)))
                  go_ret
                  rw [HG.out]
                  have hzz := BZ.out.size
                  have hzg := HG.out
                  exact ⟨rfl, bthen (balloc2 BZ.out _ (by omega)) hbl (by omega)⟩
                · go_wp2_with (first
                      | (go_at_call 12; refine (lives15 _).mono ?_; rintro e wl ⟨rfl, hbl⟩)
                      | (go_at_call 7; (refine (LogM.opens (g + 1) S9 hasB snB s3 old3 (LB ++ [[109, 111, 114, 101]]) [] _ _ DP.out LM9.out hdd9 hl9 hlim9 (by omega) (by decide)).mono ?_; rintro e wz ⟨S10, ⟨qz, svz, rvz, rfl, hqz, hsz, hrz, hlqz⟩, hdz, huz, -⟩; obtain ⟨xz, cz, rfl, -⟩ := hsz.sh.open; obtain ⟨xy, cy, rfl, -⟩ := hrz.bss.open; obtain ⟨bz, offz, rfl, -, hatz⟩ := hrz.cells (by simp); obtain ⟨uz, huzc, houz⟩ := hatz LB.length (by simp); obtain ⟨xu, cu, rfl, -⟩ := houz.sh.open; have hgd : (LB ++ [[109, 111, 114, 101]] : List (List UInt8)).getD LB.length [] = [109, 111, 114, 101] := (by simp [List.getD]); rw [hgd] at houz huzc; have hcz := fun o => bcell (balloc (Below.refl wz.heap.size wz) o) huzc (blt huzc); have hcv : ∀ o, (convert 27 9 (.slice xu 4 cu)).run Try.prog (wz.alloc o) = .ok (.string ⟨#[109, 111, 114, 101]⟩) (wz.alloc o) := fun o => conv_run (houz.sh.at' (balloc (Below.refl wz.heap.size wz) o) (Nat.le_refl _)); have hwr : IntKind.i64.wrap ((LB.length : Int) + 1) = (LB.length : Int) + 1 := IntWalk.i64_in _ ⟨by omega, by omega⟩; have RZ := Lib.hid (huz.row RP.out (by omega)); have k0 := fun o => Row.cell (Row.alloc (RZ.out) o) 0; have k1 := fun o => Row.cell (Row.alloc (RZ.out) o) 1; have k2 := fun o => Row.cell (Row.alloc (RZ.out) o) 2; have k3 := fun o => Row.cell (Row.alloc (RZ.out) o) 3; simp only [List.getElem?_cons_succ, List.getElem?_cons_zero] at k0 k1 k2 k3; have BZ := Lib.hid (BP.out.trans (huz.below (by omega) hgp)); clear hqz hsz hrz hdz huz hatz houz huzc))
                      | (go_at_call 8; (obtain ⟨S9, hw9, hlm9, hdd9, hl9, hlim9⟩ := LogM.more OM.out hdd8 hl8 hlim8 (by omega) [109, 111, 114, 101] (by decide) (by omega); have hlt := balloc (Below.refl w9.heap.size w9) (.cells #[.int .u8 109, .int .u8 111, .int .u8 114, .int .u8 101] 5 (4, 5)); have hbl := bthen IB.out hlt (Nat.le_refl _); have hmsz := OM.out.size; have hmn := OM.out.n0; rw [List.append_nil] at hmn; have hmn := congrArg List.length hmn; refine (Append_any q8 (g + 1) (s3 + old3.length + LB.length) _ [109, 111, 114, 101] S8 _ (OQ.out.keep hbl) (OD.out.keepB hbl) (lit_sb (w1 := w9) (p := g) (4, 5) [109, 111, 114, 101] (by decide) (by have := IB.out.size; omega) _ (Upd.refl _ _)) (by omega) (by decide) (by omega) (by omega) (by omega) (by omega)).mono ?_; rw [hw9]; rintro e wp ⟨rfl, hdp, hqp, vp, hup, hxp⟩; have RP := Lib.hid (hxp.row (hup.row (R15.out.keep hlt) (by omega)) (by omega)); have DP := Lib.hid hdp; have BP := Lib.hid (((OB.out.trans (hbl.mono hgo)).trans (hup.below (by omega) (by have := hbl.size; omega))).trans (hxp.below (by omega) (by have := hbl.size; have := hup.sizeLe; omega))); have hgp : g ≤ wp.heap.size := (by have h1 := BP.out.size; have h2 := HG.out; omega); have LM9 := Lib.hid hlm9; clear hdp hqp hup hxp hlm9 hlt hbl hw9)))
                  go_ret
                  rw [HG.out]
                  have hzz := BZ.out.size
                  have hzg := HG.out
                  exact ⟨rfl, bthen (balloc2 BZ.out _ (by omega)) hbl (by omega)⟩
            exact AllReadyH.nil
          exact AllReadyH.nil
        exact AllReadyH.nil
      refine AllReadyH.cons (by simp only [List.getElem?_toArray, List.getElem?_cons_zero, List.getElem?_cons_succ] <;> rfl) (fun K hK => ?_) ?_
      · go_simp; go_at_call 22; (refine (Safe_any C KP _ t _ (HT0.out.at' (B10.out.trans ((Below.refl w10.heap.size w10).mono hg10)) (Nat.le_of_eq HG.out)) (by omega)).mono ?_; rintro e wq ⟨vq, rfl, hsq, hbq⟩; have HSQ := Lib.hid hsq; have HBQ := Lib.hid (bthen (Below.refl w10.heap.size w10) hbq (Nat.le_refl _)); have RE := Lib.hid (Row.new wq 5 []); have HSH := Lib.hid (HSQ.out.below (balloc (Below.refl _ _) (.cells #[] 5))); have HBS := Lib.hid (bthen HBQ.out (balloc (Below.refl wq.heap.size wq) (.cells #[] 5)) (Nat.le_refl _)))
        refine hK.out _ _ (by exact Row.keep hHeld hbq) (fun hHeld => ?_)
        clear hK K
        try simp only [Act.put, List.setIfInBounds_toArray, List.set_cons_zero, List.set_cons_succ, Array.replicate]
        refine wpAnyH_ready (rs := [3]) (by kernel_rfl) (by simp) ?_
        refine AllReadyH.cons (by simp only [List.getElem?_toArray, List.getElem?_cons_zero, List.getElem?_cons_succ] <;> rfl) (fun K hK => ?_) ?_
        · go_simp
          refine hK.out _ _ (by exact Row.alloc hHeld _) (fun hHeld => ?_)
          clear hK K
          try simp only [Act.put, List.setIfInBounds_toArray, List.set_cons_zero, List.set_cons_succ, Array.replicate]
          refine wpAnyH_ready (rs := [6]) (by kernel_rfl) (by simp) ?_
          refine AllReadyH.cons (by simp only [List.getElem?_toArray, List.getElem?_cons_zero, List.getElem?_cons_succ] <;> rfl) (fun K hK => ?_) ?_
          · (refine step_app_own Try.underlying27 info_byte (by with_unfolding_all rfl) (.tmp 83) (.tmp 85) rfl rfl RE.out rfl HSH.out (by omega) ?_; intro va wa hoa hba; have OA := Lib.hid hoa; have BA := Lib.hid (bthen HBS.out hba (Nat.le_refl _)))
            refine hK.out _ _ (by exact Row.keep hHeld hba) (fun hHeld => ?_)
            clear hK K
            try simp only [Act.put, List.setIfInBounds_toArray, List.set_cons_zero, List.set_cons_succ, Array.replicate]
            refine wpAnyH_ready (rs := [7]) (by kernel_rfl) (by simp) ?_
            refine AllReadyH.cons (by simp only [List.getElem?_toArray, List.getElem?_cons_zero, List.getElem?_cons_succ] <;> rfl) (fun K hK => ?_) ?_
            · go_simp; go_at_call 21; (refine (Crash_of (g + 1) KP _ (safeL KP t) S Sc hSc _ (D10.out.keepB BA.out) (fun w' hu => (hu.own OA.out (D10.out.keepB BA.out).rowC.choose_spec (by decide)).sh) (by omega) (fun _ => by omega)).mono ?_; rintro e wc ⟨rfl, hdc, huc⟩; try go_simp)
              refine hK.out _ _ (by exact huc.row hHeld (by omega)) (fun hHeld => ?_)
              clear hK K
              try simp only [Act.put, List.setIfInBounds_toArray, List.set_cons_zero, List.set_cons_succ, Array.replicate]
              refine wpAnyH_done (by kernel_rfl) ?_ _
              have hdr := (D10.out.keepB BA.out).rowC.choose_spec
              have M9C := Lib.hid ((M910.out.keep BA.out).upd huc hdr (by decide) (by omega))
              have BC := Lib.hid ((B10.out.trans (BA.out.mono hg10)).trans (huc.below (by omega) (by have := BA.out.size; omega)))
              have HDC := Lib.hid hdc
              obtain ⟨hasB, snB, LB, HCR', M10C'⟩ : ∃ hasB snB LB, ((∃ s old junk, LogM Sc has sn s old L junk _ ∧ junk.length ≤ (safeL KP t).length + 4000 ∧ s + old.length + L.length ≤ 500) ∨ (∃ s old junk, LogM Sc hasB snB s old LB junk _ ∧ junk.length ≤ (safeL KP t).length + 4000 ∧ s + old.length + LB.length ≤ 500)) ∧ ModR w wc (h + 1) hasB snB LB := ⟨_, _, _, HCR.out, (M1010.out.keep BA.out).upd huc hdr (by decide) (by omega)⟩
              have M10C := Lib.hid M10C'
              have hgc : g ≤ wc.heap.size := by have := BC.out.size; have := HG.out; omega
              clear M10C' hdr huc hdc hba hoa hbq hsq D10 M910 M1010 B10 OA BA HBS HSH HSQ HBQ RE HCR E10 E9
              rcases HCR' with ⟨s3, old3, jk, hlm3, hj3, hc3⟩ | ⟨s3, old3, jk, hlm3, hj3, hc3⟩
              · have HLM3 := Lib.hid hlm3
                clear hlm3
                go_wp2_with (first
                    | (go_at_call 12; refine (lives15 _).mono ?_; rintro e wl ⟨rfl, hbl⟩)
                    | (go_at_call 7; (refine (LogM.opens (g + 1) S9 has sn s3 old3 (L ++ [[109, 111, 114, 101]]) [] _ _ DP.out LM9.out hdd9 hl9 hlim9 (by omega) (by decide)).mono ?_; rintro e wz ⟨S10, ⟨qz, svz, rvz, rfl, hqz, hsz, hrz, hlqz⟩, hdz, huz, -⟩; obtain ⟨xz, cz, rfl, -⟩ := hsz.sh.open; obtain ⟨xy, cy, rfl, -⟩ := hrz.bss.open; obtain ⟨bz, offz, rfl, -, hatz⟩ := hrz.cells (by simp); obtain ⟨uz, huzc, houz⟩ := hatz L.length (by simp); obtain ⟨xu, cu, rfl, -⟩ := houz.sh.open; have hgd : (L ++ [[109, 111, 114, 101]] : List (List UInt8)).getD L.length [] = [109, 111, 114, 101] := (by simp [List.getD]); rw [hgd] at houz huzc; have hcz := fun o => bcell (balloc (Below.refl wz.heap.size wz) o) huzc (blt huzc); have hcv : ∀ o, (convert 27 9 (.slice xu 4 cu)).run Try.prog (wz.alloc o) = .ok (.string ⟨#[109, 111, 114, 101]⟩) (wz.alloc o) := fun o => conv_run (houz.sh.at' (balloc (Below.refl wz.heap.size wz) o) (Nat.le_refl _)); have hwr : IntKind.i64.wrap ((L.length : Int) + 1) = (L.length : Int) + 1 := IntWalk.i64_in _ ⟨by omega, by omega⟩; have RZ := Lib.hid (huz.row RP.out (by omega)); have k0 := fun o => Row.cell (Row.alloc (RZ.out) o) 0; have k1 := fun o => Row.cell (Row.alloc (RZ.out) o) 1; have k2 := fun o => Row.cell (Row.alloc (RZ.out) o) 2; have k3 := fun o => Row.cell (Row.alloc (RZ.out) o) 3; simp only [List.getElem?_cons_succ, List.getElem?_cons_zero] at k0 k1 k2 k3; have BZ := Lib.hid (BP.out.trans (huz.below (by omega) hgp)); clear hqz hsz hrz hdz huz hatz houz huzc))
                    | (go_at_call 8; (obtain ⟨S9, hw9, hlm9, hdd9, hl9, hlim9⟩ := LogM.more OM.out hdd8 hl8 hlim8 (by omega) [109, 111, 114, 101] (by decide) (by omega); have hlt := balloc (Below.refl w9.heap.size w9) (.cells #[.int .u8 109, .int .u8 111, .int .u8 114, .int .u8 101] 5 (4, 5)); have hbl := bthen IB.out hlt (Nat.le_refl _); have hmsz := OM.out.size; have hmn := OM.out.n0; rw [List.append_nil] at hmn; have hmn := congrArg List.length hmn; refine (Append_any q8 (g + 1) (s3 + old3.length + L.length) _ [109, 111, 114, 101] S8 _ (OQ.out.keep hbl) (OD.out.keepB hbl) (lit_sb (w1 := w9) (p := g) (4, 5) [109, 111, 114, 101] (by decide) (by have := IB.out.size; omega) _ (Upd.refl _ _)) (by omega) (by decide) (by omega) (by omega) (by omega) (by omega)).mono ?_; rw [hw9]; rintro e wp ⟨rfl, hdp, hqp, vp, hup, hxp⟩; have RP := Lib.hid (hxp.row (hup.row (R15.out.keep hlt) (by omega)) (by omega)); have DP := Lib.hid hdp; have BP := Lib.hid (((OB.out.trans (hbl.mono hgo)).trans (hup.below (by omega) (by have := hbl.size; omega))).trans (hxp.below (by omega) (by have := hbl.size; have := hup.sizeLe; omega))); have hgp : g ≤ wp.heap.size := (by have h1 := BP.out.size; have h2 := HG.out; omega); have LM9 := Lib.hid hlm9; clear hdp hqp hup hxp hlm9 hlt hbl hw9))
                    | (go_at_call 11; (refine (is_yes has _ _ _ _ _ sn L _ (OS9.out.at' (OB.out.trans ((balloc (Below.refl wo.heap.size wo) _).mono hgo)) (Nat.le_of_eq HG.out)) (OSV.out.sh.below (balloc (Below.refl wo.heap.size wo) _)) ((OL9.out.below (balloc (Below.refl wo.heap.size wo) _)).bss (by rw [HG.out]; exact OB.out.trans ((balloc (Below.refl wo.heap.size wo) _).mono hgo))) (ORV.out.below (balloc (Below.refl wo.heap.size wo) _)).bss).mono ?_; rintro e w9 ⟨rfl, hb9⟩; have hbI := bthen (balloc (Below.refl wo.heap.size wo) (.cells #[.bool has, .slice xk sn.length ck, .slice xq L.length cq, .int .u64 ((s3 + old3.length + L.length : Nat) : Int)] 31)) hb9 (Nat.le_refl _); have kcI := HKC.out w9 #[.int .u8 109, .int .u8 111, .int .u8 114, .int .u8 101] 4 4; simp at kcI; have R15 := Lib.hid ((Row.new wo 31 [.bool has, .slice xk sn.length ck, .slice xq L.length cq, .int .u64 ((s3 + old3.length + L.length : Nat) : Int)]).keep hb9); have IB := Lib.hid hbI; clear hbI hb9))
                    | (go_at_call 7; (refine (LogM.opens (g + 1) Sc has sn s3 old3 L jk _ _ HDC.out HLM3.out hscd hscl hscm (by omega) (by omega)).mono ?_; rintro e wo ⟨S8, ⟨q8, sv8, rv8, rfl, hq8, hs8, hr8, hlq8⟩, hd8, hu8, hlm8, hdd8, hl8, hlim8, -⟩; obtain ⟨xk, ck, rfl, -⟩ := hs8.sh.open; obtain ⟨xq, cq, rfl, -⟩ := hr8.bss.open; have hdrC := HDC.out.rowC.choose_spec; obtain ⟨ms, mc, mr, md, r9, s9, l9⟩ := M9C.out.upd hu8 hdrC (by decide) (by omega); obtain ⟨ns, nc, nr, nd, r10, s10, l10⟩ := M10C.out.upd hu8 hdrC (by decide) (by omega); have m0 := fun o => Row.cell (Row.alloc (r9) o) 0; have m1 := fun o => Row.cell (Row.alloc (r9) o) 1; have m2 := fun o => Row.cell (Row.alloc (r9) o) 2; simp only [List.getElem?_cons_succ, List.getElem?_cons_zero] at m0 m1 m2; have OR10 := Lib.hid r10; have OS9 := Lib.hid s9; have OL9 := Lib.hid l9; have OS10 := Lib.hid s10; have OL10 := Lib.hid l10; have OB := Lib.hid (BC.out.trans (hu8.below (by omega) hgc)); have OQ := Lib.hid hq8; have OSV := Lib.hid hs8; have ORV := Lib.hid hr8; have OD := Lib.hid hd8; have hgo : g ≤ wo.heap.size := Nat.le_trans hgc hu8.sizeLe; have hqo := OQ.out.lt; have hgq8 : g + 1 < q8 := Nat.lt_trans HDC.out.lt hlq8; have OM := Lib.hid hlm8; clear hq8 hs8 hr8 hd8 hu8 hlm8 hdrC r9 s9 l9 r10 s10 l10)))
                go_ret
                rw [HG.out]
                have hzz := BZ.out.size
                have hzg := HG.out
                exact ⟨rfl, bthen (balloc2 BZ.out _ (by omega)) hbl (by omega)⟩
              · have HLM3 := Lib.hid hlm3
                clear hlm3
                go_wp2_with (first
                    | (go_at_call 7; (refine (LogM.opens (g + 1) Sc hasB snB s3 old3 LB jk _ _ HDC.out HLM3.out hscd hscl hscm (by omega) (by omega)).mono ?_; rintro e wo ⟨S8, ⟨q8, sv8, rv8, rfl, hq8, hs8, hr8, hlq8⟩, hd8, hu8, hlm8, hdd8, hl8, hlim8, -⟩; obtain ⟨xk, ck, rfl, -⟩ := hs8.sh.open; obtain ⟨xq, cq, rfl, -⟩ := hr8.bss.open; have hdrC := HDC.out.rowC.choose_spec; obtain ⟨ms, mc, mr, md, r9, s9, l9⟩ := M9C.out.upd hu8 hdrC (by decide) (by omega); obtain ⟨ns, nc, nr, nd, r10, s10, l10⟩ := M10C.out.upd hu8 hdrC (by decide) (by omega); have m0 := fun o => Row.cell (Row.alloc (r9) o) 0; have m1 := fun o => Row.cell (Row.alloc (r9) o) 1; have m2 := fun o => Row.cell (Row.alloc (r9) o) 2; simp only [List.getElem?_cons_succ, List.getElem?_cons_zero] at m0 m1 m2; have OR10 := Lib.hid r10; have OS9 := Lib.hid s9; have OL9 := Lib.hid l9; have OS10 := Lib.hid s10; have OL10 := Lib.hid l10; have OB := Lib.hid (BC.out.trans (hu8.below (by omega) hgc)); have OQ := Lib.hid hq8; have OSV := Lib.hid hs8; have ORV := Lib.hid hr8; have OD := Lib.hid hd8; have hgo : g ≤ wo.heap.size := Nat.le_trans hgc hu8.sizeLe; have hqo := OQ.out.lt; have hgq8 : g + 1 < q8 := Nat.lt_trans HDC.out.lt hlq8; have OM := Lib.hid hlm8; clear hq8 hs8 hr8 hd8 hu8 hlm8 hdrC r9 s9 l9 r10 s10 l10)))
                refine (is_any has hasB _ _ _ _ _ sn snB L LB _ (OS9.out.at' (OB.out.trans ((balloc (Below.refl wo.heap.size wo) _).mono hgo)) (Nat.le_of_eq HG.out)) (OSV.out.sh.below (balloc (Below.refl wo.heap.size wo) _)) ((OL9.out.below (balloc (Below.refl wo.heap.size wo) _)).bss (by rw [HG.out]; exact OB.out.trans ((balloc (Below.refl wo.heap.size wo) _).mono hgo))) (ORV.out.below (balloc (Below.refl wo.heap.size wo) _)).bss).mono ?_
                rintro e w9 ⟨bb, rfl, hb9⟩
                have hbI := bthen (balloc (Below.refl wo.heap.size wo) (.cells #[.bool hasB, .slice xk snB.length ck, .slice xq LB.length cq, .int .u64 ((s3 + old3.length + LB.length : Nat) : Int)] 31)) hb9 (Nat.le_refl _)
                have kcI := HKC.out w9 #[.int .u8 109, .int .u8 111, .int .u8 114, .int .u8 101] 4 4
                simp at kcI
                have R15 := Lib.hid ((Row.new wo 31 [.bool hasB, .slice xk snB.length ck, .slice xq LB.length cq, .int .u64 ((s3 + old3.length + LB.length : Nat) : Int)]).keep hb9)
                have IB := Lib.hid hbI
                clear hbI hb9
                cases bb
                · have t10 := OR10.out.keep IB.out
                  have t0 := Row.cell (t10) 0; have t1 := Row.cell (t10) 1; have t2 := Row.cell (t10) 2; simp only [List.getElem?_cons_succ, List.getElem?_cons_zero] at t0 t1 t2
                  have k0 := Row.cell (R15.out) 0; have k1 := Row.cell (R15.out) 1; have k2 := Row.cell (R15.out) 2; have k3 := Row.cell (R15.out) 3; simp only [List.getElem?_cons_succ, List.getElem?_cons_zero] at k0 k1 k2 k3
                  clear t10
                  go_wp2_with (first
                      | (go_at_call 12; refine (lives15 _).mono ?_; rintro e wl ⟨rfl, hbl⟩)
                      | (go_at_call 7; (refine (LogM.opens (g + 1) S9 hasB snB s3 old3 (LB ++ [[109, 111, 114, 101]]) [] _ _ DP.out LM9.out hdd9 hl9 hlim9 (by omega) (by decide)).mono ?_; rintro e wz ⟨S10, ⟨qz, svz, rvz, rfl, hqz, hsz, hrz, hlqz⟩, hdz, huz, -⟩; obtain ⟨xz, cz, rfl, -⟩ := hsz.sh.open; obtain ⟨xy, cy, rfl, -⟩ := hrz.bss.open; obtain ⟨bz, offz, rfl, -, hatz⟩ := hrz.cells (by simp); obtain ⟨uz, huzc, houz⟩ := hatz LB.length (by simp); obtain ⟨xu, cu, rfl, -⟩ := houz.sh.open; have hgd : (LB ++ [[109, 111, 114, 101]] : List (List UInt8)).getD LB.length [] = [109, 111, 114, 101] := (by simp [List.getD]); rw [hgd] at houz huzc; have hcz := fun o => bcell (balloc (Below.refl wz.heap.size wz) o) huzc (blt huzc); have hcv : ∀ o, (convert 27 9 (.slice xu 4 cu)).run Try.prog (wz.alloc o) = .ok (.string ⟨#[109, 111, 114, 101]⟩) (wz.alloc o) := fun o => conv_run (houz.sh.at' (balloc (Below.refl wz.heap.size wz) o) (Nat.le_refl _)); have hwr : IntKind.i64.wrap ((LB.length : Int) + 1) = (LB.length : Int) + 1 := IntWalk.i64_in _ ⟨by omega, by omega⟩; have RZ := Lib.hid (huz.row RP.out (by omega)); have k0 := fun o => Row.cell (Row.alloc (RZ.out) o) 0; have k1 := fun o => Row.cell (Row.alloc (RZ.out) o) 1; have k2 := fun o => Row.cell (Row.alloc (RZ.out) o) 2; have k3 := fun o => Row.cell (Row.alloc (RZ.out) o) 3; simp only [List.getElem?_cons_succ, List.getElem?_cons_zero] at k0 k1 k2 k3; have BZ := Lib.hid (BP.out.trans (huz.below (by omega) hgp)); clear hqz hsz hrz hdz huz hatz houz huzc))
                      | (go_at_call 8; (obtain ⟨S9, hw9, hlm9, hdd9, hl9, hlim9⟩ := LogM.more OM.out hdd8 hl8 hlim8 (by omega) [109, 111, 114, 101] (by decide) (by omega); have hlt := balloc (Below.refl wi.heap.size wi) (.cells #[.int .u8 109, .int .u8 111, .int .u8 114, .int .u8 101] 5 (4, 5)); have hbl := bthen IBJ.out hlt (Nat.le_refl _); have hmsz := OM.out.size; have hmn := OM.out.n0; rw [List.append_nil] at hmn; have hmn := congrArg List.length hmn; refine (Append_any q8 (g + 1) (s3 + old3.length + LB.length) _ [109, 111, 114, 101] S8 _ (OQ.out.keep hbl) (OD.out.keepB hbl) (lit_sb (w1 := wi) (p := g) (4, 5) [109, 111, 114, 101] (by decide) (by have := IBJ.out.size; omega) _ (Upd.refl _ _)) (by omega) (by decide) (by omega) (by omega) (by omega) (by omega)).mono ?_; rw [hw9]; rintro e wp ⟨rfl, hdp, hqp, vp, hup, hxp⟩; have RP := Lib.hid (hxp.row (hup.row (R15J.out.keep hlt) (by omega)) (by omega)); have DP := Lib.hid hdp; have BP := Lib.hid (((OB.out.trans (hbl.mono hgo)).trans (hup.below (by omega) (by have := hbl.size; omega))).trans (hxp.below (by omega) (by have := hbl.size; have := hup.sizeLe; omega))); have hgp : g ≤ wp.heap.size := (by have h1 := BP.out.size; have h2 := HG.out; omega); have LM9 := Lib.hid hlm9; clear hdp hqp hup hxp hlm9 hlt hbl hw9))
                      | (go_at_call 11; (refine (is_yes hasB _ _ _ _ _ snB LB _ (OS10.out.at' (OB.out.trans (IB.out.mono hgo)) (Nat.le_of_eq HG.out)) (OSV.out.sh.below IB.out) ((OL10.out.below IB.out).bss (by rw [HG.out]; exact OB.out.trans (IB.out.mono hgo))) (ORV.out.below IB.out).bss).mono ?_; rintro e wi ⟨rfl, hbi⟩; have kcJ := HKC.out wi #[.int .u8 109, .int .u8 111, .int .u8 114, .int .u8 101] 4 4; simp at kcJ; have R15J := Lib.hid (R15.out.keep hbi); have IBJ := Lib.hid (bthen IB.out hbi (Nat.le_refl _)); clear hbi)))
                  go_ret
                  rw [HG.out]
                  have hzz := BZ.out.size
                  have hzg := HG.out
                  exact ⟨rfl, bthen (balloc2 BZ.out _ (by omega)) hbl (by omega)⟩
                · go_wp2_with (first
                      | (go_at_call 12; refine (lives15 _).mono ?_; rintro e wl ⟨rfl, hbl⟩)
                      | (go_at_call 7; (refine (LogM.opens (g + 1) S9 hasB snB s3 old3 (LB ++ [[109, 111, 114, 101]]) [] _ _ DP.out LM9.out hdd9 hl9 hlim9 (by omega) (by decide)).mono ?_; rintro e wz ⟨S10, ⟨qz, svz, rvz, rfl, hqz, hsz, hrz, hlqz⟩, hdz, huz, -⟩; obtain ⟨xz, cz, rfl, -⟩ := hsz.sh.open; obtain ⟨xy, cy, rfl, -⟩ := hrz.bss.open; obtain ⟨bz, offz, rfl, -, hatz⟩ := hrz.cells (by simp); obtain ⟨uz, huzc, houz⟩ := hatz LB.length (by simp); obtain ⟨xu, cu, rfl, -⟩ := houz.sh.open; have hgd : (LB ++ [[109, 111, 114, 101]] : List (List UInt8)).getD LB.length [] = [109, 111, 114, 101] := (by simp [List.getD]); rw [hgd] at houz huzc; have hcz := fun o => bcell (balloc (Below.refl wz.heap.size wz) o) huzc (blt huzc); have hcv : ∀ o, (convert 27 9 (.slice xu 4 cu)).run Try.prog (wz.alloc o) = .ok (.string ⟨#[109, 111, 114, 101]⟩) (wz.alloc o) := fun o => conv_run (houz.sh.at' (balloc (Below.refl wz.heap.size wz) o) (Nat.le_refl _)); have hwr : IntKind.i64.wrap ((LB.length : Int) + 1) = (LB.length : Int) + 1 := IntWalk.i64_in _ ⟨by omega, by omega⟩; have RZ := Lib.hid (huz.row RP.out (by omega)); have k0 := fun o => Row.cell (Row.alloc (RZ.out) o) 0; have k1 := fun o => Row.cell (Row.alloc (RZ.out) o) 1; have k2 := fun o => Row.cell (Row.alloc (RZ.out) o) 2; have k3 := fun o => Row.cell (Row.alloc (RZ.out) o) 3; simp only [List.getElem?_cons_succ, List.getElem?_cons_zero] at k0 k1 k2 k3; have BZ := Lib.hid (BP.out.trans (huz.below (by omega) hgp)); clear hqz hsz hrz hdz huz hatz houz huzc))
                      | (go_at_call 8; (obtain ⟨S9, hw9, hlm9, hdd9, hl9, hlim9⟩ := LogM.more OM.out hdd8 hl8 hlim8 (by omega) [109, 111, 114, 101] (by decide) (by omega); have hlt := balloc (Below.refl w9.heap.size w9) (.cells #[.int .u8 109, .int .u8 111, .int .u8 114, .int .u8 101] 5 (4, 5)); have hbl := bthen IB.out hlt (Nat.le_refl _); have hmsz := OM.out.size; have hmn := OM.out.n0; rw [List.append_nil] at hmn; have hmn := congrArg List.length hmn; refine (Append_any q8 (g + 1) (s3 + old3.length + LB.length) _ [109, 111, 114, 101] S8 _ (OQ.out.keep hbl) (OD.out.keepB hbl) (lit_sb (w1 := w9) (p := g) (4, 5) [109, 111, 114, 101] (by decide) (by have := IB.out.size; omega) _ (Upd.refl _ _)) (by omega) (by decide) (by omega) (by omega) (by omega) (by omega)).mono ?_; rw [hw9]; rintro e wp ⟨rfl, hdp, hqp, vp, hup, hxp⟩; have RP := Lib.hid (hxp.row (hup.row (R15.out.keep hlt) (by omega)) (by omega)); have DP := Lib.hid hdp; have BP := Lib.hid (((OB.out.trans (hbl.mono hgo)).trans (hup.below (by omega) (by have := hbl.size; omega))).trans (hxp.below (by omega) (by have := hbl.size; have := hup.sizeLe; omega))); have hgp : g ≤ wp.heap.size := (by have h1 := BP.out.size; have h2 := HG.out; omega); have LM9 := Lib.hid hlm9; clear hdp hqp hup hxp hlm9 hlt hbl hw9)))
                  go_ret
                  rw [HG.out]
                  have hzz := BZ.out.size
                  have hzg := HG.out
                  exact ⟨rfl, bthen (balloc2 BZ.out _ (by omega)) hbl (by omega)⟩
            exact AllReadyH.nil
          exact AllReadyH.nil
        exact AllReadyH.nil
      exact AllReadyH.nil

end Go.Proofs.Ytkghkpkiodghiaa
