/- The document's Open, of a snapshot. (printed by gen/wal15.py) -/
import Derived.Test.YtkghkpkiodghiaaTk
import Derived.Test.YtkghkpkiodghiaaWal15
namespace Go.Proofs.Ytkghkpkiodghiaa
set_option linter.unusedVariables false
set_option linter.unusedSimpArgs false
set_option linter.unnecessarySimpa false
open Go.RowKit
set_option maxRecDepth 100000
set_option maxHeartbeats 8000000

theorem rOpen_goB (p : Nat) (S S' : RD) (err : Nat) (w : World) (has : Bool) (sb : List UInt8) (n1 at_ nx : Nat) (R : List (List UInt8)) (T0 : Nat) (x : Int) (hS : Rdk w p S) (hd : S.dead = false) (hT : snF (S.all 1) = (has, sb, n1, 0)) (hwi : Wi S T0 x) (hT0 : T0 ≤ 40000000) (hx : x ≤ 100000000000) (U : List (List UInt8) × Nat × Nat) (hU : scF ((S.all 0).length + 1) (S.all 0) = U) (hV : recF n1 U.1 0 [] n1 = (at_, R, nx))
  (h10 : ¬ (S.all 1).length = 0) (hout : (at_ = (S.all 0).length ∧ S' = S ∧ err = 0) ∨ (at_ < (S.all 0).length ∧ ∃ S1 e1, S.replace 0 ((S.all 0).take at_) = (S1, e1) ∧ ((e1 ≠ 0 ∧ S' = S1 ∧ err = e1) ∨ (e1 = 0 ∧ S1.sync 0 = (S', err))))) :
  Calls Try.prog 31 #[.pointer (some ⟨p, 0, none⟩)] w fun e w' => ROut w w' p e has sb R nx err ∧ Rdk w' p S' ∧ Upd p w w' := by
 have hr1 : S.read 1 = (S.all 1, 0) := by unfold RD.read; rw [if_neg (by simp [hd]), if_neg (by omega)]; rfl
 have hr0 : S.read 0 = (S.all 0, 0) := by unfold RD.read; rw [if_neg (by simp [hd]), if_neg (by omega)]; rfl
 have hl0 := hwi.bd.a0
 have HR1 := Lib.hid hr1
 have HR0 := Lib.hid hr0
 have HS := Lib.hid hS
 have HP := Lib.hid hS.lt
 have HK := Lib.hid (hwi.k (by omega) (by omega))
 have HSZ := Lib.hid (show S.sz ≤ 140737488355328 by have := HK.out.s; omega)
 have HSN := Lib.hid hT
 have hn1 := snF_num (S.all 1)
 rw [hT] at hn1
 dsimp only at hn1
 have HREP := Lib.hid hout
 have HWI := Lib.hid hwi
 rw [← hU] at hV
 clear hr1 hr0 hS hd hT hwi hU hout
 generalize hl1e : S.all 1 = l1 at *
 clear hl1e
 have HV := Lib.hid hV
 clear hV
 generalize hl0e : S.all 0 = l0 at *
 have HL0 := Lib.hid hl0e
 clear hl0e
 ·have hst := snF_tk l1 h10
  rw [HSN.out] at hst
  have h10I : (0 : Int) < (l1.length : Int) := by omega
  rcases htf : tkF l1 with ⟨d, k, E⟩
  have hkf := fun h => tkF_facts l1 h
  rw [htf] at hst hkf
  dsimp only at hst hkf
  have hE : E = 0 ∧ k = l1.length := by
   by_cases h : E ≠ 0 ∨ k ≠ l1.length
   ·rw [if_pos h] at hst
    simp only [Prod.mk.injEq] at hst
    omega
   ·omega
  obtain ⟨rfl, rfl⟩ := hE
  rw [if_neg (by omega)] at hst
  rcases htk : tk d with ⟨n, kk, E2⟩
  rw [htk] at hst
  dsimp only at hst
  have hE2 : E2 = 0 := by
   by_cases h : E2 = 0
   ·exact h
   ·rw [if_pos h] at hst
    simp only [Prod.mk.injEq] at hst
    omega
  subst hE2
  rw [if_neg (by omega)] at hst
  simp only [Prod.mk.injEq, and_true] at hst
  obtain ⟨rfl, hsb, rfl⟩ := hst
  obtain ⟨-, -, hdl⟩ := hkf rfl
  have hkkl : kk ≤ d.length := tk_le htk
  have hsbl : sb.length ≤ 1048576 := by rw [hsb, List.length_drop]; omega
  have HTF := Lib.hid htf
  have HTK := Lib.hid htk
  have HSB := Lib.hid hsb
  clear htf htk hkf hsb
  go_enter Try.func31, Try.ntmps31
  go_wp2_with fail
  refine (refRead_of p 1 S _ _ HR1.out _ (HS.out.keepB (balloc (balloc (Below.refl _ _) _) _)) HSZ.out).mono ?_
  rintro e w1 ⟨v1, rfl, ho1, hb1⟩
  obtain ⟨x1, c1, rfl, -⟩ := ho1.sh.open
  have hB1 : Below w.heap.size w w1 := bstep (balloc (balloc (Below.refl _ _) _) _) hb1
  have K1 : Row w1 w.heap.size 31 (KepC false (.slice none 0 0) (.slice none 0 0) 0) := ((Row.new w 31 (KepC false (.slice none 0 0) (.slice none 0 0) 0)).alloc _).keep hb1
  have K1' : Row w1 (w.heap.size + 1) 31 (KepC false (.slice none 0 0) (.slice none 0 0) 0) := by
   have := (Row.new (w.alloc (.cells (KepC false (.slice none 0 0) (.slice none 0 0) 0).toArray 31)) 31 (KepC false (.slice none 0 0) (.slice none 0 0) 0)).keep hb1
   simpa using this
  have HB1 := Lib.hid hB1
  have HK1 := Lib.hid K1
  have HK1' := Lib.hid K1'
  have HO1 := Lib.hid ho1
  clear ho1 hb1 hB1 K1 K1'
  go_upto_region 13 with (first
    | (at_builtin; have HDR := Lib.hid ((O2.out.sh.drop kk hkkl).below (balloc (Below.refl w2b.heap.size w2b) (.cells #[] 5))); rw [← HSB.out, hz2] at HDR; refine app_own_w Try.underlying27 info_byte (by with_unfolding_all rfl) (.tmp 64) (.tmp 67) rfl rfl (Row.new w2b 5 []) rfl HDR.out (by omega) ?_; intro va wa hoa hba; obtain ⟨xs, cs, rfl, -⟩ := hoa.sh.open; have hb2a := bstep (balloc (Below.refl w2b.heap.size w2b) (.cells #[] 5)) hba; have Ka := Lib.hid (K2.out.keep hb2a); have RKa := Lib.hid (RK2.out.keep hb2a); have Da := Lib.hid (D2.out.keepB hb2a); have Ua := Lib.hid (U2.out.then hb2a); have SVa := Lib.hid hoa; have Za := Lib.hid (Nat.le_trans Z2.out hb2a.size); have y0 := Row.cell (RKa.out) 0; have y1 := Row.cell (RKa.out) 1; have y2 := Row.cell (RKa.out) 2; have y3 := Row.cell (RKa.out) 3; simp only [KepC, List.getElem?_cons_succ, List.getElem?_cons_zero] at y0 y1 y2 y3; have yf0 := Row.frozen (RKa.out) 0; have yf1 := Row.frozen (RKa.out) 1; have yf2 := Row.frozen (RKa.out) 2; have yf3 := Row.frozen (RKa.out) 3; clear hoa hba hb2a)
    | (go_at_call 48; refine (refTake_of _ d _ _ O2.out.sh HTK.out).mono ?_; rintro e w2b ⟨rfl, hwb⟩; have hwb' := hwb.symm; clear hwb; subst hwb')
    | (go_at_call 47; refine (refTakef_any _ l1 _ HO1.out.sh).mono ?_; rw [HTF.out]; rintro e w2 ⟨v2, rfl, ho2, hb2⟩; obtain ⟨x2, c2, rfl, y1, y2, y3, -⟩ := ho2.sh.open; have K2 := Lib.hid (HK1.out.keep hb2); have RK2 := Lib.hid (HK1'.out.keep hb2); have O2 := Lib.hid ho2; have D2 := Lib.hid ((HS.out.keepB HB1.out).keepB hb2); have U2 := Lib.hid (((Upd.refl p w).then HB1.out).then hb2); have Z2 := Lib.hid (Nat.le_trans HB1.out.size hb2.size); obtain ⟨z2, hz2⟩ : ∃ z2, (if c2 = kk then x2 else Option.map (fun x => x.add kk) x2) = z2 := ⟨_, rfl⟩; clear ho2 hb2))
  have Uz : Upd (w.heap.size + 1) wa (((wa.setCell ⟨w.heap.size + 1, 0, none⟩ (.bool true)).setCell ⟨w.heap.size + 1, 1, none⟩ (.slice xs sb.length cs)).setCell ⟨w.heap.size + 1, 3, none⟩ (.int .u64 (n1 : Int))) := ((Upd.set (w.heap.size + 1) 0 wa _).trans (Upd.set (w.heap.size + 1) 1 _ _)).trans (Upd.set (w.heap.size + 1) 3 _ _)
  have RK : Hid (Row (((wa.setCell ⟨w.heap.size + 1, 0, none⟩ (.bool true)).setCell ⟨w.heap.size + 1, 1, none⟩ (.slice xs sb.length cs)).setCell ⟨w.heap.size + 1, 3, none⟩ (.int .u64 (n1 : Int))) (w.heap.size + 1) 31 (KepC true (.slice xs sb.length cs) (.slice none 0 0) n1)) := Lib.hid (Row.set (Row.set (Row.set RKa.out 0 _) 1 _) 3 _)
  have KK := Lib.hid (Uz.row Ka.out (by omega))
  have SV := Lib.hid (Uz.own (SVa.out.mono (Nat.zero_le _)) RKa.out (by decide))
  have DS := Lib.hid (Da.out.updO RKa.out (by decide) (by have := HP.out; omega) Uz)
  have US := Lib.hid (Ua.out.fresh Uz (by omega))
  have ZS := Lib.hid (Nat.le_trans Za.out Uz.sizeLe)
  generalize ((wa.setCell ⟨w.heap.size + 1, 0, none⟩ (.bool true)).setCell ⟨w.heap.size + 1, 1, none⟩ (.slice xs sb.length cs)).setCell ⟨w.heap.size + 1, 3, none⟩ (.int .u64 (n1 : Int)) = ws at *
  clear Uz y0 y1 y2 y3 yf0 yf1 yf2 yf3 RKa Ka Da Ua SVa Za O2 K2 RK2 D2 U2 Z2 HO1 HK1 HK1' HB1
  go_wp2_with (go_at_call 17; (refine (refRead_of p 0 S _ _ HR0.out _ DS.out HSZ.out).mono ?_; rintro e w3 ⟨v3, rfl, ho3, hb3⟩; obtain ⟨x3, c3, rfl, g1, g2, g3, -⟩ := ho3.sh.open; have RK3 := Lib.hid (RK.out.keep hb3); have KK3 := Lib.hid (KK.out.keep hb3); have SV3 := Lib.hid (SV.out.below hb3); have D3 := Lib.hid (DS.out.keepB hb3); have U3 := Lib.hid (US.out.then hb3); have LG3 := Lib.hid ho3; have Z3 := Lib.hid (Nat.le_trans ZS.out hb3.size); have h3 := Row.cell RK3.out 3; simp only [KepC, List.getElem?_cons_succ, List.getElem?_cons_zero] at h3; clear ho3 hb3))
  clear RK KK SV DS US ZS
  refine wp_region_held_drew (S := (fun w' => w'.cell? ⟨w.heap.size + 1, 3, none⟩ = some (.int .u64 (n1 : Int)))) (by kernel_rfl) h3 (fun hHeld => ?_)
  refine tH (i := 0) (v := ?_) (y := (Or.inl ⟨by rfl, ?_⟩)) (h := ?_)
  rotate_left
  ·intro w _; go_simp; try with_reducible rfl
  try simp only [Act.put, List.setIfInBounds_toArray, List.set_cons_zero, List.set_cons_succ, Array.replicate]
  refine tH (i := 1) (v := ?_) (y := (Or.inl ⟨by rfl, ?_⟩)) (h := ?_)
  rotate_left
  ·intro w hSS; have h3' := hSS; go_simp; try with_reducible rfl
  try simp only [Act.put, List.setIfInBounds_toArray, List.set_cons_zero, List.set_cons_succ, Array.replicate]
  refine tH (i := 2) (v := ?_) (y := (Or.inl ⟨by rfl, ?_⟩)) (h := ?_)
  rotate_left
  ·intro w _; go_simp; try with_reducible rfl
  try simp only [Act.put, List.setIfInBounds_toArray, List.set_cons_zero, List.set_cons_succ, Array.replicate]
  refine tH (i := 3) (v := ?_) (y := (Or.inl ⟨by rfl, ?_⟩)) (h := ?_)
  rotate_left
  ·intro w _; go_simp; try with_reducible rfl
  try simp only [Act.put, List.setIfInBounds_toArray, List.set_cons_zero, List.set_cons_succ, Array.replicate]
  refine tH (i := 4) (v := ?_) (y := (Or.inl ⟨by rfl, ?_⟩)) (h := ?_)
  rotate_left
  ·intro w _; go_simp; try with_reducible rfl
  try simp only [Act.put, List.setIfInBounds_toArray, List.set_cons_zero, List.set_cons_succ, Array.replicate]
  refine wpAnyH_done (by kernel_rfl) ?_ _
  clear hHeld h3
  have RK4 := Lib.hid (Row.drew RK3.out)
  have KK4 := Lib.hid (Row.drew KK3.out)
  have SV4 := Lib.hid (SV3.out.below (Below.refl _ _).drew)
  have D4 := Lib.hid (D3.out.keepB (Below.refl _ _).drew)
  have U4 := Lib.hid (U3.out.then (Below.refl _ _).drew)
  have LG4 := Lib.hid (LG3.out.below (Below.refl _ _).drew)
  have Z4 := Lib.hid (show w.heap.size ≤ w3.drew.heap.size from Z3.out)
  have HH4 := Lib.hid (show w.heap.size + 1 < w3.drew.heap.size from RK4.out.lt)
  generalize w3.drew = w4 at *
  clear RK3 KK3 SV3 D3 U3 LG3 Z3
  go_wp2_with fail
  go_loopw [16, 18] (fun at' gv wr => ∃ (a : Nat) (go : Bool) (f : Nat) (R' : List (List UInt8)) (nx' : Nat) (rv : Value), a ≤ l0.length ∧ at' = .int .i64 (a : Int) ∧ gv = .bool go ∧ Row wr (w.heap.size + 1) 31 (KepC true (.slice xs sb.length cs) rv nx') ∧ BOs wr w4.heap.size rv R' ∧ Upd (w.heap.size + 1) w4 wr ∧ ((go = true ∧ l0.length - a < f ∧ recF n1 (scF f (l0.drop a)).1 a R' nx' = (at_, R, nx)) ∨ (go = false ∧ (a, R', nx') = (at_, R, nx))) ∧ nx' ≤ n1 + a ∧ R'.length ≤ a) (fun at' gv _ => 2 * (l0.length - (intOf at').toNat) + goN gv)
  case atStart => exact ⟨0, true, l0.length + 1, [], n1, _, by omega, rfl, rfl, RK4.out, BOs.nil _ _, Upd.refl _ _, .inl ⟨rfl, by omega, by rw [List.drop_zero]; exact HV.out⟩, by omega, by simp⟩
  case round =>
   obtain ⟨a, go, f, R', nx', rv, ha, rfl, rfl, hr, ho, hu, hgo, hnx, hRl⟩ := hrel
   have RC := Lib.hid hr
   have OR := Lib.hid ho
   have HU := Lib.hid hu
   have HRL := Lib.hid hRl
   obtain ⟨xr, cr, rfl, -⟩ := ho.bss.open
   clear hr ho hu
   rcases hgo with ⟨rfl, hfu, hrec⟩ | ⟨rfl, hfin⟩
   ·by_cases hlt : a < l0.length
    ·have hltI : (a : Int) < (l0.length : Int) := by omega
     obtain ⟨f', rfl⟩ : ∃ f', f = f' + 1 := ⟨f - 1, by omega⟩
     have hml : (l0.drop a).length = l0.length - a := by rw [List.length_drop]
     rw [recF_step n1 f' (l0.drop a) a R' nx' (by omega)] at hrec
     have hsl := (HU.out.own LG4.out RK4.out (by decide)).sh.drop a ha
     have hck : c3 ≠ a := by omega
     rw [if_neg hck] at hsl
     have LGm := Lib.hid hsl
     have hkC : (a : Int) ≤ (c3 : Int) := by omega
     clear hsl
     have hdd : ∀ k, (l0.drop a).drop k = l0.drop (a + k) := fun k => by rw [List.drop_drop]
     have HDD := Lib.hid hdd
     clear hdd
     generalize hmm : l0.drop a = m at *
     clear hmm
     rcases htf : tkF m with ⟨d, k, E⟩
     have hkf := fun h => tkF_facts m h
     rw [htf] at hrec hkf
     dsimp only at hrec hkf
     rcases htk : tk d with ⟨n, kk, E2⟩
     rw [htk] at hrec
     dsimp only at hrec
     have HTF := Lib.hid htf
     have HTK := Lib.hid htk
     clear htf htk
     by_cases hE : E = 0
     ·subst hE
      obtain ⟨hk1, hk2, hk3⟩ := hkf rfl
      by_cases hE2 : E2 = 0
      ·subst hE2
       rw [if_neg (by omega)] at hrec
       have hkkl : kk ≤ d.length := tk_le HTK.out
       by_cases hlf : n < n1 ∧ R'.length = 0
       ·rw [if_pos hlf] at hrec
        have HT := Lib.hid hrec
        obtain ⟨hlf, hR0⟩ := hlf
        obtain rfl : R' = [] := List.eq_nil_of_length_eq_zero hR0
        have hnI : (n : Int) < (n1 : Int) := by omega
        have hwa : IntKind.i64.wrap ((a : Int) + (k : Int)) = ((a + k : Nat) : Int) := by rw [IntWalk.i64_in _ ⟨by omega, by omega⟩]; omega
        clear hlf hR0 hrec
        go_wp2_with (first
          | (go_at_call 48; refine (refTake_of _ d _ _ OT.out.sh HTK.out).mono ?_; rintro e wu ⟨rfl, hwb⟩; have hwb' := hwb.symm; clear hwb; subst hwb')
          | (go_at_call 47; refine (refTakef_any _ m _ LGm.out).mono ?_; rw [HTF.out]; rintro e wt ⟨vt, rfl, hot, hbt⟩; obtain ⟨xb, cb, rfl, y1, y2, y3, -⟩ := hot.sh.open; have RC := Lib.hid (RC.out.keep hbt); have OR := Lib.hid (OR.out.below hbt); have HU := Lib.hid (HU.out.then hbt); have OT := Lib.hid hot; have h2 := Row.cell RC.out 2; have h3 := Row.cell RC.out 3; simp only [KepC, List.getElem?_cons_succ, List.getElem?_cons_zero] at h2 h3; clear hot hbt))
        exact ⟨⟨a + k, true, f', [], nx', _, by omega, by go_num, rfl, RC.out, OR.out, HU.out, .inl ⟨rfl, by omega, by rw [← HDD.out]; exact HT.out⟩, by omega, by simp⟩, by simp [intOf, goN]; omega⟩
       ·rw [if_neg hlf] at hrec
        by_cases hne : n = nx'
        ·rw [if_pos hne] at hrec
         have HT := Lib.hid hrec
         subst hne
         clear hrec
         have hwa : IntKind.i64.wrap ((a : Int) + (k : Int)) = ((a + k : Nat) : Int) := by rw [IntWalk.i64_in _ ⟨by omega, by omega⟩]; omega
         have hwn : IntKind.u64.wrap ((n : Int) + 1) = ((n + 1 : Nat) : Int) := by rw [IntWalk.u64_in _ ⟨by omega, by omega⟩]; omega
         have hql : (d.drop kk).length ≤ 140737488355328 := by rw [List.length_drop]; omega
         by_cases hlf2 : n < n1
         ·have hnI : (n : Int) < (n1 : Int) := by omega
          have hR0I : ¬ (R'.length : Int) = 0 := by omega
          clear hlf
          go_upto_region 23 with (first
            | (go_at_call 48; refine (refTake_of _ d _ _ OT.out.sh HTK.out).mono ?_; rintro e wu ⟨rfl, hwb⟩; have hwb' := hwb.symm; clear hwb; subst hwb')
            | (go_at_call 47; refine (refTakef_any _ m _ LGm.out).mono ?_; rw [HTF.out]; rintro e wt ⟨vt, rfl, hot, hbt⟩; obtain ⟨xb, cb, rfl, y1, y2, y3, -⟩ := hot.sh.open; have RC := Lib.hid (RC.out.keep hbt); have OR := Lib.hid (OR.out.below hbt); have HU := Lib.hid (HU.out.then hbt); have OT := Lib.hid hot; have h2 := Row.cell RC.out 2; have h3 := Row.cell RC.out 3; simp only [KepC, List.getElem?_cons_succ, List.getElem?_cons_zero] at h2 h3; clear hot hbt))
          have XB := Lib.hid ((OT.out.sh.drop kk hkkl).below (Below.refl _ _).drew)
          have RC := Lib.hid (Row.drew RC.out)
          have OR := Lib.hid (OR.out.below (Below.refl _ _).drew)
          have UU := Lib.hid (HU.out.then (Below.refl _ _).drew)
          clear OT HU h2 h3
          generalize hqe : d.drop kk = q at *
          refine wp_region_L (S := Held2 18 (fun w' => w'.cell? ⟨w.heap.size + 1, 3, none⟩ = some (.int .u64 (n : Int))) 16 (fun w' => w'.cell? ⟨w.heap.size + 1, 2, none⟩ = some (.slice xr R'.length cr))) (by kernel_rfl) ⟨fun _ => (by have h := Row.cell RC.out 3; simpa only [KepC, List.getElem?_cons_succ, List.getElem?_cons_zero] using h), fun _ => (by have h := Row.cell RC.out 2; simpa only [KepC, List.getElem?_cons_succ, List.getElem?_cons_zero] using h)⟩ (fun hHeld => ?_)
          generalize World.drew wu = w5 at *
          have g2 := Row.cell RC.out 2; have g3 := Row.cell RC.out 3; simp only [KepC, List.getElem?_cons_succ, List.getElem?_cons_zero] at g2 g3
          refine wpAnyL_take (i := 0) (ms := []) (Si := fun _ => True) (v := ?_) (by simp only [List.getElem?_toArray, List.getElem?_cons_zero, List.getElem?_cons_succ] <;> rfl) (by kernel_rfl) (by kernel_rfl) (by kernel_rfl) (by intro _ _ _ h; exact h) trivial (by intro m hm; cases hm) (Held2.set (by decide) (by decide)) (fun _ _ _ _ => trivial) (by intro m hm; cases hm) (Or.inl ⟨by rfl, ?_⟩) (by assumption) ?_
          rotate_left
          ·intro w _; go_simp; try with_reducible rfl
          try simp only [Act.put, List.setIfInBounds_toArray, List.set_cons_zero, List.set_cons_succ, Array.replicate]
          refine wpAnyL_take (i := 3) (ms := []) (Si := fun _ => True) (v := ?_) (by simp only [List.getElem?_toArray, List.getElem?_cons_zero, List.getElem?_cons_succ] <;> rfl) (by kernel_rfl) (by kernel_rfl) (by kernel_rfl) (by intro _ _ _ h; exact h) trivial (by intro m hm; cases hm) (Held2.set (by decide) (by decide)) (fun _ _ _ _ => trivial) (by intro m hm; cases hm) (Or.inl ⟨by rfl, ?_⟩) (by assumption) ?_
          rotate_left
          ·intro w _; go_simp; try with_reducible rfl
          try simp only [Act.put, List.setIfInBounds_toArray, List.set_cons_zero, List.set_cons_succ, Array.replicate]
          refine wpAnyL_take (i := 4) (ms := []) (Si := fun _ => True) (v := ?_) (by simp only [List.getElem?_toArray, List.getElem?_cons_zero, List.getElem?_cons_succ] <;> rfl) (by kernel_rfl) (by kernel_rfl) (by kernel_rfl) (by intro _ _ _ h; exact h) trivial (by intro m hm; cases hm) (Held2.set (by decide) (by decide)) (fun _ _ _ _ => trivial) (by intro m hm; cases hm) (Or.inl ⟨by rfl, ?_⟩) (by assumption) ?_
          rotate_left
          ·intro w _; go_simp; try with_reducible rfl
          try simp only [Act.put, List.setIfInBounds_toArray, List.set_cons_zero, List.set_cons_succ, Array.replicate]
          refine wpAnyL_take (i := 5) (ms := []) (Si := fun _ => True) (v := ?_) (by simp only [List.getElem?_toArray, List.getElem?_cons_zero, List.getElem?_cons_succ] <;> rfl) (by kernel_rfl) (by kernel_rfl) (by kernel_rfl) (by intro _ _ _ h; exact h) trivial (by intro m hm; cases hm) (Held2.set (by decide) (by decide)) (fun _ _ _ _ => trivial) (by intro m hm; cases hm) (Or.inl ⟨by rfl, ?_⟩) (by assumption) ?_
          rotate_left
          ·intro w _; go_simp; try with_reducible rfl
          try simp only [Act.put, List.setIfInBounds_toArray, List.set_cons_zero, List.set_cons_succ, Array.replicate]
          refine wpAnyL_take (i := 9) (ms := []) (Si := fun _ => True) (v := ?_) (by simp only [List.getElem?_toArray, List.getElem?_cons_zero, List.getElem?_cons_succ] <;> rfl) (by kernel_rfl) (by kernel_rfl) (by kernel_rfl) (by intro _ _ _ h; exact h) trivial (by intro m hm; cases hm) (Held2.set (by decide) (by decide)) (fun _ _ _ _ => trivial) (by intro m hm; cases hm) (Or.inl ⟨by rfl, ?_⟩) (by assumption) ?_
          rotate_left
          ·intro w _; go_simp; try with_reducible rfl
          try simp only [Act.put, List.setIfInBounds_toArray, List.set_cons_zero, List.set_cons_succ, Array.replicate]
          refine wpAnyL_take (i := 12) (ms := []) (Si := fun _ => True) (v := ?_) (by simp only [List.getElem?_toArray, List.getElem?_cons_zero, List.getElem?_cons_succ] <;> rfl) (by kernel_rfl) (by kernel_rfl) (by kernel_rfl) (by intro _ _ _ h; exact h) trivial (by intro m hm; cases hm) (Held2.set (by decide) (by decide)) (fun _ _ _ _ => trivial) (by intro m hm; cases hm) (Or.inl ⟨by rfl, ?_⟩) (by assumption) ?_
          rotate_left
          ·intro w _; go_simp; try with_reducible rfl
          try simp only [Act.put, List.setIfInBounds_toArray, List.set_cons_zero, List.set_cons_succ, Array.replicate]
          refine wpAnyL_take (i := 13) (ms := []) (Si := fun _ => True) (v := ?_) (by simp only [List.getElem?_toArray, List.getElem?_cons_zero, List.getElem?_cons_succ] <;> rfl) (by kernel_rfl) (by kernel_rfl) (by kernel_rfl) (by intro _ _ _ h; exact h) trivial (by intro m hm; cases hm) (Held2.set (by decide) (by decide)) (fun _ _ _ _ => trivial) (by intro m hm; cases hm) (Or.inl ⟨by rfl, ?_⟩) (by assumption) ?_
          rotate_left
          ·intro w _; go_simp; try with_reducible rfl
          try simp only [Act.put, List.setIfInBounds_toArray, List.set_cons_zero, List.set_cons_succ, Array.replicate]
          refine wpAnyL_take (i := 14) (ms := []) (Si := fun _ => True) (v := ?_) (by simp only [List.getElem?_toArray, List.getElem?_cons_zero, List.getElem?_cons_succ] <;> rfl) (by kernel_rfl) (by kernel_rfl) (by kernel_rfl) (by intro _ _ _ h; exact h) trivial (by intro m hm; cases hm) (Held2.set (by decide) (by decide)) (fun _ _ _ _ => trivial) (by intro m hm; cases hm) (Or.inl ⟨by rfl, ?_⟩) (by assumption) ?_
          rotate_left
          ·intro w _; go_simp; try with_reducible rfl
          try simp only [Act.put, List.setIfInBounds_toArray, List.set_cons_zero, List.set_cons_succ, Array.replicate]
          refine wpAnyL_take (i := 1) (ms := [8, 16]) (Si := (fun w' => w'.cell? ⟨w.heap.size + 1, 2, none⟩ = some (.slice xr R'.length cr))) (v := ?_) (by simp only [List.getElem?_toArray, List.getElem?_cons_zero, List.getElem?_cons_succ] <;> rfl) (by kernel_rfl) (by kernel_rfl) (by kernel_rfl) (by intro _ _ _ h; exact h) (Chain.of (by kernel_rfl)) (by decide) (Held2.set (by decide) (by decide)) (fun l w hu hS => hS.2 (hu 16 (by simp))) (Un.of (by kernel_rfl)) (Or.inl ⟨by rfl, ?_⟩) (by assumption) ?_
          rotate_left
          ·intro w hSS; have h2 := hSS; go_simp; try with_reducible rfl
          try simp only [Act.put, List.setIfInBounds_toArray, List.set_cons_zero, List.set_cons_succ, Array.replicate]
          refine wpAnyL_take (i := 10) (ms := [11, 18]) (Si := (fun w' => w'.cell? ⟨w.heap.size + 1, 3, none⟩ = some (.int .u64 (n : Int)))) (v := ?_) (by simp only [List.getElem?_toArray, List.getElem?_cons_zero, List.getElem?_cons_succ] <;> rfl) (by kernel_rfl) (by kernel_rfl) (by kernel_rfl) (by intro _ _ _ h; exact h) (Chain.of (by kernel_rfl)) (by decide) (Held2.set (by decide) (by decide)) (fun l w hu hS => hS.1 (hu 18 (by simp))) (Un.of (by kernel_rfl)) (Or.inl ⟨by rfl, ?_⟩) (by assumption) ?_
          rotate_left
          ·intro w hSS; have h3 := hSS; go_simp; try with_reducible rfl
          try simp only [Act.put, List.setIfInBounds_toArray, List.set_cons_zero, List.set_cons_succ, Array.replicate]
          refine wpAnyL_take (i := 11) (ms := []) (Si := fun _ => True) (v := ?_) (by simp only [List.getElem?_toArray, List.getElem?_cons_zero, List.getElem?_cons_succ] <;> rfl) (by kernel_rfl) (by kernel_rfl) (by kernel_rfl) (by intro _ _ _ h; exact h) trivial (by intro m hm; cases hm) (Held2.set (by decide) (by decide)) (fun _ _ _ _ => trivial) (by intro m hm; cases hm) (Or.inl ⟨by rfl, ?_⟩) (by assumption) ?_
          rotate_left
          ·intro w _; go_simp; try with_reducible rfl
          try simp only [Act.put, List.setIfInBounds_toArray, List.set_cons_zero, List.set_cons_succ, Array.replicate]
          refine wpAnyL_ready (rs := [2]) (by kernel_rfl) (by simp) ?_
          refine AllReadyL.cons (by simp only [List.getElem?_toArray, List.getElem?_cons_zero, List.getElem?_cons_succ] <;> rfl) (fun K hK => ?_) ?_
          ·go_simp
           refine hK.out _ _ ⟨(fun _ => (by have h := Row.cell (Row.alloc RC.out (.cells #[] 5)) 3; simpa only [KepC, List.getElem?_cons_succ, List.getElem?_cons_zero] using h)), (fun _ => (by have h := Row.cell (Row.alloc RC.out (.cells #[] 5)) 2; simpa only [KepC, List.getElem?_cons_succ, List.getElem?_cons_zero] using h))⟩ (fun hHeld => ?_)
           clear hK K
           try simp only [Act.put, List.setIfInBounds_toArray, List.set_cons_zero, List.set_cons_succ, Array.replicate]
           have RE := Lib.hid (Row.new w5 5 []); have RC := Lib.hid (Row.alloc RC.out (.cells #[] 5)); have OR := Lib.hid (OR.out.below (balloc (Below.refl w5.heap.size w5) (.cells #[] 5))); have XB := Lib.hid (XB.out.below (balloc (Below.refl w5.heap.size w5) (.cells #[] 5))); have UU := Lib.hid (UU.out.then (balloc (Below.refl w5.heap.size w5) (.cells #[] 5)))
           refine wpAnyL_ready (rs := [6]) (by kernel_rfl) (by simp) ?_
           refine AllReadyL.cons (by simp only [List.getElem?_toArray, List.getElem?_cons_zero, List.getElem?_cons_succ] <;> rfl) (fun K hK => ?_) ?_
           ·refine step_app_own Try.underlying27 info_byte (by with_unfolding_all rfl) (.tmp 125) (.tmp 128) rfl rfl RE.out rfl XB.out (by omega) ?_; intro va wa hoa hba; obtain ⟨xa, ca, rfl, -⟩ := hoa.sh.open; have RC := Lib.hid (RC.out.keep hba); have OR := Lib.hid (OR.out.below hba); have OA := Lib.hid hoa; have UU := Lib.hid (UU.out.then hba); clear hoa hba
            refine hK.out _ _ ⟨(fun _ => (by have h := Row.cell RC.out 3; simpa only [KepC, List.getElem?_cons_succ, List.getElem?_cons_zero] using h)), (fun _ => (by have h := Row.cell RC.out 2; simpa only [KepC, List.getElem?_cons_succ, List.getElem?_cons_zero] using h))⟩ (fun hHeld => ?_)
            clear hK K
            try simp only [Act.put, List.setIfInBounds_toArray, List.set_cons_zero, List.set_cons_succ, Array.replicate]
            refine wpAnyL_ready (rs := [7]) (by kernel_rfl) (by simp) ?_
            refine AllReadyL.cons (by simp only [List.getElem?_toArray, List.getElem?_cons_zero, List.getElem?_cons_succ] <;> rfl) (fun K hK => ?_) ?_
            ·go_simp
             refine hK.out _ _ ⟨(fun _ => (by have h := Row.cell (Row.alloc RC.out (.cells #[.slice xa q.length ca] 27)) 3; simpa only [KepC, List.getElem?_cons_succ, List.getElem?_cons_zero] using h)), (fun _ => (by have h := Row.cell (Row.alloc RC.out (.cells #[.slice xa q.length ca] 27)) 2; simpa only [KepC, List.getElem?_cons_succ, List.getElem?_cons_zero] using h))⟩ (fun hHeld => ?_)
             clear hK K
             try simp only [Act.put, List.setIfInBounds_toArray, List.set_cons_zero, List.set_cons_succ, Array.replicate]
             have RC := Lib.hid (Row.alloc RC.out (.cells #[.slice xa q.length ca] 27)); have OR := Lib.hid (OR.out.below (balloc (Below.refl wa.heap.size wa) (.cells #[.slice xa q.length ca] 27))); have UU := Lib.hid (UU.out.then (balloc (Below.refl wa.heap.size wa) (.cells #[.slice xa q.length ca] 27)))
             refine wpAnyL_ready (rs := [8]) (by kernel_rfl) (by simp) ?_
             refine AllReadyL.cons (by simp only [List.getElem?_toArray, List.getElem?_cons_zero, List.getElem?_cons_succ] <;> rfl) (fun K hK => ?_) ?_
             ·refine step_app_bss rfl (.tmp 124) (.tmp 130) rfl rfl OR.out rfl (Own1.lit _ 27 [_]).shows ((OA.out.mono (Nat.zero_le _)).alloc _) rfl (by have := HRL.out; omega) UU.out.sizeLe ?_; intro v6 w6 ho6 hb6; generalize hrq : R' ++ [q] = RQ at *; have HRQ := Lib.hid hrq; clear hrq; obtain ⟨x6, c6, rfl, -⟩ := ho6.bss.open; have RC := Lib.hid (Row.below RC.out hb6 HH4.out); have O6 := Lib.hid ho6; have UU := Lib.hid (UU.out.thenBelow hb6); have hf6 := Row.frozen RC.out 2; have hc6 := Row.cell RC.out 2; simp only [KepC, List.getElem?_cons_succ, List.getElem?_cons_zero] at hc6; clear ho6 hb6
              refine hK.out _ _ ⟨(fun _ => (by have h := Row.cell RC.out 3; simpa only [KepC, List.getElem?_cons_succ, List.getElem?_cons_zero] using h)), (fun _ => (by have h := Row.cell RC.out 2; simpa only [KepC, List.getElem?_cons_succ, List.getElem?_cons_zero] using h))⟩ (fun hHeld => ?_)
              clear hK K
              try simp only [Act.put, List.setIfInBounds_toArray, List.set_cons_zero, List.set_cons_succ, Array.replicate]
              refine wpAnyL_take (i := 15) (ms := []) (Si := fun _ => True) (v := ?_) (by simp only [List.getElem?_toArray, List.getElem?_cons_zero, List.getElem?_cons_succ] <;> rfl) (by kernel_rfl) (by kernel_rfl) (by kernel_rfl) (by intro _ _ _ h; exact h) trivial (by intro m hm; cases hm) (Held2.set (by decide) (by decide)) (fun _ _ _ _ => trivial) (by intro m hm; cases hm) (Or.inl ⟨by rfl, ?_⟩) (by assumption) ?_
              rotate_left
              ·intro w _; go_simp; try with_reducible rfl
              try simp only [Act.put, List.setIfInBounds_toArray, List.set_cons_zero, List.set_cons_succ, Array.replicate]
              refine wpAnyL_ready (rs := [16]) (by kernel_rfl) (by simp) ?_
              refine AllReadyL.cons (by simp only [List.getElem?_toArray, List.getElem?_cons_zero, List.getElem?_cons_succ] <;> rfl) (fun K hK => ?_) ?_
              ·go_simp
               refine hK.out _ _ ⟨(fun _ => (by have h := Row.cell (Row.set RC.out 2 (.slice x6 RQ.length c6)) 3; simpa only [KepC, List.getElem?_cons_succ, List.getElem?_cons_zero, List.set_cons_succ, List.set_cons_zero] using h)), (fun h => by cases (show true = false from h))⟩ (fun hHeld => ?_)
               clear hK K
               try simp only [Act.put, List.setIfInBounds_toArray, List.set_cons_zero, List.set_cons_succ, Array.replicate]
               have R7 : Row (w6.setCell ⟨w.heap.size + 1, 2, none⟩ (.slice x6 RQ.length c6)) (w.heap.size + 1) 31 (KepC true (.slice xs sb.length cs) (.slice x6 RQ.length c6) n) := Row.set RC.out 2 _; have U7 : Upd (w.heap.size + 1) w6 (w6.setCell ⟨w.heap.size + 1, 2, none⟩ (.slice x6 RQ.length c6)) := Upd.set (w.heap.size + 1) 2 w6 _; have O7 := Lib.hid (U7.bos O6.out RC.out (by decide) (by decide)); have UU := Lib.hid (UU.out.trans U7); generalize w6.setCell ⟨w.heap.size + 1, 2, none⟩ (.slice x6 RQ.length c6) = w7 at *; have RC := Lib.hid R7; have hf7 := Row.frozen RC.out 3; have hc7 := Row.cell RC.out 3; simp only [KepC, List.getElem?_cons_succ, List.getElem?_cons_zero] at hc7; clear R7 U7 hc6 hf6
               refine wpAnyL_take (i := 17) (ms := []) (Si := fun _ => True) (v := ?_) (by simp only [List.getElem?_toArray, List.getElem?_cons_zero, List.getElem?_cons_succ] <;> rfl) (by kernel_rfl) (by kernel_rfl) (by kernel_rfl) (by intro _ _ _ h; exact h) trivial (by intro m hm; cases hm) (Held2.set (by decide) (by decide)) (fun _ _ _ _ => trivial) (by intro m hm; cases hm) (Or.inl ⟨by rfl, ?_⟩) (by assumption) ?_
               rotate_left
               ·intro w _; go_simp; try with_reducible rfl
               try simp only [Act.put, List.setIfInBounds_toArray, List.set_cons_zero, List.set_cons_succ, Array.replicate]
               refine wpAnyL_ready (rs := [18]) (by kernel_rfl) (by simp) ?_
               refine AllReadyL.cons (by simp only [List.getElem?_toArray, List.getElem?_cons_zero, List.getElem?_cons_succ] <;> rfl) (fun K hK => ?_) ?_
               ·go_simp
                refine hK.out _ _ ⟨(fun h => by cases (show true = false from h)), (fun h => by cases (show true = false from h))⟩ (fun hHeld => ?_)
                clear hK K
                try simp only [Act.put, List.setIfInBounds_toArray, List.set_cons_zero, List.set_cons_succ, Array.replicate]
                refine wpAnyL_take (i := 19) (ms := []) (Si := fun _ => True) (v := ?_) (by simp only [List.getElem?_toArray, List.getElem?_cons_zero, List.getElem?_cons_succ] <;> rfl) (by kernel_rfl) (by kernel_rfl) (by kernel_rfl) (by intro _ _ _ h; exact h) trivial (by intro m hm; cases hm) (Held2.set (by decide) (by decide)) (fun _ _ _ _ => trivial) (by intro m hm; cases hm) (Or.inl ⟨by rfl, ?_⟩) (by assumption) ?_
                rotate_left
                ·intro w _; go_simp; try with_reducible rfl
                try simp only [Act.put, List.setIfInBounds_toArray, List.set_cons_zero, List.set_cons_succ, Array.replicate]
                refine wpAnyL_done (by kernel_rfl) ?_ _
                go_wp2_with fail
                exact ⟨⟨a + k, true, f', RQ, n + 1, _, by omega, by go_num, rfl, Row.set RC.out 3 _, (Upd.set (w.heap.size + 1) 3 w7 _).bos O7.out RC.out (by decide) (by decide), UU.out.trans (Upd.set (w.heap.size + 1) 3 w7 _), .inl ⟨rfl, by omega, by rw [← HDD.out]; exact HT.out⟩, by omega, by rw [← HRQ.out, List.length_append]; simp only [List.length_cons, List.length_nil]; omega⟩, by simp [intOf, goN]; omega⟩
               exact AllReadyL.nil
              exact AllReadyL.nil
             exact AllReadyL.nil
            exact AllReadyL.nil
           exact AllReadyL.nil
          exact AllReadyL.nil
         ·have hnI : ¬ (n : Int) < (n1 : Int) := by omega
          clear hlf
          go_upto_region 23 with (first
            | (go_at_call 48; refine (refTake_of _ d _ _ OT.out.sh HTK.out).mono ?_; rintro e wu ⟨rfl, hwb⟩; have hwb' := hwb.symm; clear hwb; subst hwb')
            | (go_at_call 47; refine (refTakef_any _ m _ LGm.out).mono ?_; rw [HTF.out]; rintro e wt ⟨vt, rfl, hot, hbt⟩; obtain ⟨xb, cb, rfl, y1, y2, y3, -⟩ := hot.sh.open; have RC := Lib.hid (RC.out.keep hbt); have OR := Lib.hid (OR.out.below hbt); have HU := Lib.hid (HU.out.then hbt); have OT := Lib.hid hot; have h2 := Row.cell RC.out 2; have h3 := Row.cell RC.out 3; simp only [KepC, List.getElem?_cons_succ, List.getElem?_cons_zero] at h2 h3; clear hot hbt))
          have XB := Lib.hid ((OT.out.sh.drop kk hkkl).below (Below.refl _ _).drew)
          have RC := Lib.hid (Row.drew RC.out)
          have OR := Lib.hid (OR.out.below (Below.refl _ _).drew)
          have UU := Lib.hid (HU.out.then (Below.refl _ _).drew)
          clear OT HU h2 h3
          generalize hqe : d.drop kk = q at *
          refine wp_region_L (S := Held2 18 (fun w' => w'.cell? ⟨w.heap.size + 1, 3, none⟩ = some (.int .u64 (n : Int))) 16 (fun w' => w'.cell? ⟨w.heap.size + 1, 2, none⟩ = some (.slice xr R'.length cr))) (by kernel_rfl) ⟨fun _ => (by have h := Row.cell RC.out 3; simpa only [KepC, List.getElem?_cons_succ, List.getElem?_cons_zero] using h), fun _ => (by have h := Row.cell RC.out 2; simpa only [KepC, List.getElem?_cons_succ, List.getElem?_cons_zero] using h)⟩ (fun hHeld => ?_)
          generalize World.drew wu = w5 at *
          have g2 := Row.cell RC.out 2; have g3 := Row.cell RC.out 3; simp only [KepC, List.getElem?_cons_succ, List.getElem?_cons_zero] at g2 g3
          refine wpAnyL_take (i := 0) (ms := []) (Si := fun _ => True) (v := ?_) (by simp only [List.getElem?_toArray, List.getElem?_cons_zero, List.getElem?_cons_succ] <;> rfl) (by kernel_rfl) (by kernel_rfl) (by kernel_rfl) (by intro _ _ _ h; exact h) trivial (by intro m hm; cases hm) (Held2.set (by decide) (by decide)) (fun _ _ _ _ => trivial) (by intro m hm; cases hm) (Or.inl ⟨by rfl, ?_⟩) (by assumption) ?_
          rotate_left
          ·intro w _; go_simp; try with_reducible rfl
          try simp only [Act.put, List.setIfInBounds_toArray, List.set_cons_zero, List.set_cons_succ, Array.replicate]
          refine wpAnyL_take (i := 3) (ms := []) (Si := fun _ => True) (v := ?_) (by simp only [List.getElem?_toArray, List.getElem?_cons_zero, List.getElem?_cons_succ] <;> rfl) (by kernel_rfl) (by kernel_rfl) (by kernel_rfl) (by intro _ _ _ h; exact h) trivial (by intro m hm; cases hm) (Held2.set (by decide) (by decide)) (fun _ _ _ _ => trivial) (by intro m hm; cases hm) (Or.inl ⟨by rfl, ?_⟩) (by assumption) ?_
          rotate_left
          ·intro w _; go_simp; try with_reducible rfl
          try simp only [Act.put, List.setIfInBounds_toArray, List.set_cons_zero, List.set_cons_succ, Array.replicate]
          refine wpAnyL_take (i := 4) (ms := []) (Si := fun _ => True) (v := ?_) (by simp only [List.getElem?_toArray, List.getElem?_cons_zero, List.getElem?_cons_succ] <;> rfl) (by kernel_rfl) (by kernel_rfl) (by kernel_rfl) (by intro _ _ _ h; exact h) trivial (by intro m hm; cases hm) (Held2.set (by decide) (by decide)) (fun _ _ _ _ => trivial) (by intro m hm; cases hm) (Or.inl ⟨by rfl, ?_⟩) (by assumption) ?_
          rotate_left
          ·intro w _; go_simp; try with_reducible rfl
          try simp only [Act.put, List.setIfInBounds_toArray, List.set_cons_zero, List.set_cons_succ, Array.replicate]
          refine wpAnyL_take (i := 5) (ms := []) (Si := fun _ => True) (v := ?_) (by simp only [List.getElem?_toArray, List.getElem?_cons_zero, List.getElem?_cons_succ] <;> rfl) (by kernel_rfl) (by kernel_rfl) (by kernel_rfl) (by intro _ _ _ h; exact h) trivial (by intro m hm; cases hm) (Held2.set (by decide) (by decide)) (fun _ _ _ _ => trivial) (by intro m hm; cases hm) (Or.inl ⟨by rfl, ?_⟩) (by assumption) ?_
          rotate_left
          ·intro w _; go_simp; try with_reducible rfl
          try simp only [Act.put, List.setIfInBounds_toArray, List.set_cons_zero, List.set_cons_succ, Array.replicate]
          refine wpAnyL_take (i := 9) (ms := []) (Si := fun _ => True) (v := ?_) (by simp only [List.getElem?_toArray, List.getElem?_cons_zero, List.getElem?_cons_succ] <;> rfl) (by kernel_rfl) (by kernel_rfl) (by kernel_rfl) (by intro _ _ _ h; exact h) trivial (by intro m hm; cases hm) (Held2.set (by decide) (by decide)) (fun _ _ _ _ => trivial) (by intro m hm; cases hm) (Or.inl ⟨by rfl, ?_⟩) (by assumption) ?_
          rotate_left
          ·intro w _; go_simp; try with_reducible rfl
          try simp only [Act.put, List.setIfInBounds_toArray, List.set_cons_zero, List.set_cons_succ, Array.replicate]
          refine wpAnyL_take (i := 12) (ms := []) (Si := fun _ => True) (v := ?_) (by simp only [List.getElem?_toArray, List.getElem?_cons_zero, List.getElem?_cons_succ] <;> rfl) (by kernel_rfl) (by kernel_rfl) (by kernel_rfl) (by intro _ _ _ h; exact h) trivial (by intro m hm; cases hm) (Held2.set (by decide) (by decide)) (fun _ _ _ _ => trivial) (by intro m hm; cases hm) (Or.inl ⟨by rfl, ?_⟩) (by assumption) ?_
          rotate_left
          ·intro w _; go_simp; try with_reducible rfl
          try simp only [Act.put, List.setIfInBounds_toArray, List.set_cons_zero, List.set_cons_succ, Array.replicate]
          refine wpAnyL_take (i := 13) (ms := []) (Si := fun _ => True) (v := ?_) (by simp only [List.getElem?_toArray, List.getElem?_cons_zero, List.getElem?_cons_succ] <;> rfl) (by kernel_rfl) (by kernel_rfl) (by kernel_rfl) (by intro _ _ _ h; exact h) trivial (by intro m hm; cases hm) (Held2.set (by decide) (by decide)) (fun _ _ _ _ => trivial) (by intro m hm; cases hm) (Or.inl ⟨by rfl, ?_⟩) (by assumption) ?_
          rotate_left
          ·intro w _; go_simp; try with_reducible rfl
          try simp only [Act.put, List.setIfInBounds_toArray, List.set_cons_zero, List.set_cons_succ, Array.replicate]
          refine wpAnyL_take (i := 14) (ms := []) (Si := fun _ => True) (v := ?_) (by simp only [List.getElem?_toArray, List.getElem?_cons_zero, List.getElem?_cons_succ] <;> rfl) (by kernel_rfl) (by kernel_rfl) (by kernel_rfl) (by intro _ _ _ h; exact h) trivial (by intro m hm; cases hm) (Held2.set (by decide) (by decide)) (fun _ _ _ _ => trivial) (by intro m hm; cases hm) (Or.inl ⟨by rfl, ?_⟩) (by assumption) ?_
          rotate_left
          ·intro w _; go_simp; try with_reducible rfl
          try simp only [Act.put, List.setIfInBounds_toArray, List.set_cons_zero, List.set_cons_succ, Array.replicate]
          refine wpAnyL_take (i := 1) (ms := [8, 16]) (Si := (fun w' => w'.cell? ⟨w.heap.size + 1, 2, none⟩ = some (.slice xr R'.length cr))) (v := ?_) (by simp only [List.getElem?_toArray, List.getElem?_cons_zero, List.getElem?_cons_succ] <;> rfl) (by kernel_rfl) (by kernel_rfl) (by kernel_rfl) (by intro _ _ _ h; exact h) (Chain.of (by kernel_rfl)) (by decide) (Held2.set (by decide) (by decide)) (fun l w hu hS => hS.2 (hu 16 (by simp))) (Un.of (by kernel_rfl)) (Or.inl ⟨by rfl, ?_⟩) (by assumption) ?_
          rotate_left
          ·intro w hSS; have h2 := hSS; go_simp; try with_reducible rfl
          try simp only [Act.put, List.setIfInBounds_toArray, List.set_cons_zero, List.set_cons_succ, Array.replicate]
          refine wpAnyL_take (i := 10) (ms := [11, 18]) (Si := (fun w' => w'.cell? ⟨w.heap.size + 1, 3, none⟩ = some (.int .u64 (n : Int)))) (v := ?_) (by simp only [List.getElem?_toArray, List.getElem?_cons_zero, List.getElem?_cons_succ] <;> rfl) (by kernel_rfl) (by kernel_rfl) (by kernel_rfl) (by intro _ _ _ h; exact h) (Chain.of (by kernel_rfl)) (by decide) (Held2.set (by decide) (by decide)) (fun l w hu hS => hS.1 (hu 18 (by simp))) (Un.of (by kernel_rfl)) (Or.inl ⟨by rfl, ?_⟩) (by assumption) ?_
          rotate_left
          ·intro w hSS; have h3 := hSS; go_simp; try with_reducible rfl
          try simp only [Act.put, List.setIfInBounds_toArray, List.set_cons_zero, List.set_cons_succ, Array.replicate]
          refine wpAnyL_take (i := 11) (ms := []) (Si := fun _ => True) (v := ?_) (by simp only [List.getElem?_toArray, List.getElem?_cons_zero, List.getElem?_cons_succ] <;> rfl) (by kernel_rfl) (by kernel_rfl) (by kernel_rfl) (by intro _ _ _ h; exact h) trivial (by intro m hm; cases hm) (Held2.set (by decide) (by decide)) (fun _ _ _ _ => trivial) (by intro m hm; cases hm) (Or.inl ⟨by rfl, ?_⟩) (by assumption) ?_
          rotate_left
          ·intro w _; go_simp; try with_reducible rfl
          try simp only [Act.put, List.setIfInBounds_toArray, List.set_cons_zero, List.set_cons_succ, Array.replicate]
          refine wpAnyL_ready (rs := [2]) (by kernel_rfl) (by simp) ?_
          refine AllReadyL.cons (by simp only [List.getElem?_toArray, List.getElem?_cons_zero, List.getElem?_cons_succ] <;> rfl) (fun K hK => ?_) ?_
          ·go_simp
           refine hK.out _ _ ⟨(fun _ => (by have h := Row.cell (Row.alloc RC.out (.cells #[] 5)) 3; simpa only [KepC, List.getElem?_cons_succ, List.getElem?_cons_zero] using h)), (fun _ => (by have h := Row.cell (Row.alloc RC.out (.cells #[] 5)) 2; simpa only [KepC, List.getElem?_cons_succ, List.getElem?_cons_zero] using h))⟩ (fun hHeld => ?_)
           clear hK K
           try simp only [Act.put, List.setIfInBounds_toArray, List.set_cons_zero, List.set_cons_succ, Array.replicate]
           have RE := Lib.hid (Row.new w5 5 []); have RC := Lib.hid (Row.alloc RC.out (.cells #[] 5)); have OR := Lib.hid (OR.out.below (balloc (Below.refl w5.heap.size w5) (.cells #[] 5))); have XB := Lib.hid (XB.out.below (balloc (Below.refl w5.heap.size w5) (.cells #[] 5))); have UU := Lib.hid (UU.out.then (balloc (Below.refl w5.heap.size w5) (.cells #[] 5)))
           refine wpAnyL_ready (rs := [6]) (by kernel_rfl) (by simp) ?_
           refine AllReadyL.cons (by simp only [List.getElem?_toArray, List.getElem?_cons_zero, List.getElem?_cons_succ] <;> rfl) (fun K hK => ?_) ?_
           ·refine step_app_own Try.underlying27 info_byte (by with_unfolding_all rfl) (.tmp 125) (.tmp 128) rfl rfl RE.out rfl XB.out (by omega) ?_; intro va wa hoa hba; obtain ⟨xa, ca, rfl, -⟩ := hoa.sh.open; have RC := Lib.hid (RC.out.keep hba); have OR := Lib.hid (OR.out.below hba); have OA := Lib.hid hoa; have UU := Lib.hid (UU.out.then hba); clear hoa hba
            refine hK.out _ _ ⟨(fun _ => (by have h := Row.cell RC.out 3; simpa only [KepC, List.getElem?_cons_succ, List.getElem?_cons_zero] using h)), (fun _ => (by have h := Row.cell RC.out 2; simpa only [KepC, List.getElem?_cons_succ, List.getElem?_cons_zero] using h))⟩ (fun hHeld => ?_)
            clear hK K
            try simp only [Act.put, List.setIfInBounds_toArray, List.set_cons_zero, List.set_cons_succ, Array.replicate]
            refine wpAnyL_ready (rs := [7]) (by kernel_rfl) (by simp) ?_
            refine AllReadyL.cons (by simp only [List.getElem?_toArray, List.getElem?_cons_zero, List.getElem?_cons_succ] <;> rfl) (fun K hK => ?_) ?_
            ·go_simp
             refine hK.out _ _ ⟨(fun _ => (by have h := Row.cell (Row.alloc RC.out (.cells #[.slice xa q.length ca] 27)) 3; simpa only [KepC, List.getElem?_cons_succ, List.getElem?_cons_zero] using h)), (fun _ => (by have h := Row.cell (Row.alloc RC.out (.cells #[.slice xa q.length ca] 27)) 2; simpa only [KepC, List.getElem?_cons_succ, List.getElem?_cons_zero] using h))⟩ (fun hHeld => ?_)
             clear hK K
             try simp only [Act.put, List.setIfInBounds_toArray, List.set_cons_zero, List.set_cons_succ, Array.replicate]
             have RC := Lib.hid (Row.alloc RC.out (.cells #[.slice xa q.length ca] 27)); have OR := Lib.hid (OR.out.below (balloc (Below.refl wa.heap.size wa) (.cells #[.slice xa q.length ca] 27))); have UU := Lib.hid (UU.out.then (balloc (Below.refl wa.heap.size wa) (.cells #[.slice xa q.length ca] 27)))
             refine wpAnyL_ready (rs := [8]) (by kernel_rfl) (by simp) ?_
             refine AllReadyL.cons (by simp only [List.getElem?_toArray, List.getElem?_cons_zero, List.getElem?_cons_succ] <;> rfl) (fun K hK => ?_) ?_
             ·refine step_app_bss rfl (.tmp 124) (.tmp 130) rfl rfl OR.out rfl (Own1.lit _ 27 [_]).shows ((OA.out.mono (Nat.zero_le _)).alloc _) rfl (by have := HRL.out; omega) UU.out.sizeLe ?_; intro v6 w6 ho6 hb6; generalize hrq : R' ++ [q] = RQ at *; have HRQ := Lib.hid hrq; clear hrq; obtain ⟨x6, c6, rfl, -⟩ := ho6.bss.open; have RC := Lib.hid (Row.below RC.out hb6 HH4.out); have O6 := Lib.hid ho6; have UU := Lib.hid (UU.out.thenBelow hb6); have hf6 := Row.frozen RC.out 2; have hc6 := Row.cell RC.out 2; simp only [KepC, List.getElem?_cons_succ, List.getElem?_cons_zero] at hc6; clear ho6 hb6
              refine hK.out _ _ ⟨(fun _ => (by have h := Row.cell RC.out 3; simpa only [KepC, List.getElem?_cons_succ, List.getElem?_cons_zero] using h)), (fun _ => (by have h := Row.cell RC.out 2; simpa only [KepC, List.getElem?_cons_succ, List.getElem?_cons_zero] using h))⟩ (fun hHeld => ?_)
              clear hK K
              try simp only [Act.put, List.setIfInBounds_toArray, List.set_cons_zero, List.set_cons_succ, Array.replicate]
              refine wpAnyL_take (i := 15) (ms := []) (Si := fun _ => True) (v := ?_) (by simp only [List.getElem?_toArray, List.getElem?_cons_zero, List.getElem?_cons_succ] <;> rfl) (by kernel_rfl) (by kernel_rfl) (by kernel_rfl) (by intro _ _ _ h; exact h) trivial (by intro m hm; cases hm) (Held2.set (by decide) (by decide)) (fun _ _ _ _ => trivial) (by intro m hm; cases hm) (Or.inl ⟨by rfl, ?_⟩) (by assumption) ?_
              rotate_left
              ·intro w _; go_simp; try with_reducible rfl
              try simp only [Act.put, List.setIfInBounds_toArray, List.set_cons_zero, List.set_cons_succ, Array.replicate]
              refine wpAnyL_ready (rs := [16]) (by kernel_rfl) (by simp) ?_
              refine AllReadyL.cons (by simp only [List.getElem?_toArray, List.getElem?_cons_zero, List.getElem?_cons_succ] <;> rfl) (fun K hK => ?_) ?_
              ·go_simp
               refine hK.out _ _ ⟨(fun _ => (by have h := Row.cell (Row.set RC.out 2 (.slice x6 RQ.length c6)) 3; simpa only [KepC, List.getElem?_cons_succ, List.getElem?_cons_zero, List.set_cons_succ, List.set_cons_zero] using h)), (fun h => by cases (show true = false from h))⟩ (fun hHeld => ?_)
               clear hK K
               try simp only [Act.put, List.setIfInBounds_toArray, List.set_cons_zero, List.set_cons_succ, Array.replicate]
               have R7 : Row (w6.setCell ⟨w.heap.size + 1, 2, none⟩ (.slice x6 RQ.length c6)) (w.heap.size + 1) 31 (KepC true (.slice xs sb.length cs) (.slice x6 RQ.length c6) n) := Row.set RC.out 2 _; have U7 : Upd (w.heap.size + 1) w6 (w6.setCell ⟨w.heap.size + 1, 2, none⟩ (.slice x6 RQ.length c6)) := Upd.set (w.heap.size + 1) 2 w6 _; have O7 := Lib.hid (U7.bos O6.out RC.out (by decide) (by decide)); have UU := Lib.hid (UU.out.trans U7); generalize w6.setCell ⟨w.heap.size + 1, 2, none⟩ (.slice x6 RQ.length c6) = w7 at *; have RC := Lib.hid R7; have hf7 := Row.frozen RC.out 3; have hc7 := Row.cell RC.out 3; simp only [KepC, List.getElem?_cons_succ, List.getElem?_cons_zero] at hc7; clear R7 U7 hc6 hf6
               refine wpAnyL_take (i := 17) (ms := []) (Si := fun _ => True) (v := ?_) (by simp only [List.getElem?_toArray, List.getElem?_cons_zero, List.getElem?_cons_succ] <;> rfl) (by kernel_rfl) (by kernel_rfl) (by kernel_rfl) (by intro _ _ _ h; exact h) trivial (by intro m hm; cases hm) (Held2.set (by decide) (by decide)) (fun _ _ _ _ => trivial) (by intro m hm; cases hm) (Or.inl ⟨by rfl, ?_⟩) (by assumption) ?_
               rotate_left
               ·intro w _; go_simp; try with_reducible rfl
               try simp only [Act.put, List.setIfInBounds_toArray, List.set_cons_zero, List.set_cons_succ, Array.replicate]
               refine wpAnyL_ready (rs := [18]) (by kernel_rfl) (by simp) ?_
               refine AllReadyL.cons (by simp only [List.getElem?_toArray, List.getElem?_cons_zero, List.getElem?_cons_succ] <;> rfl) (fun K hK => ?_) ?_
               ·go_simp
                refine hK.out _ _ ⟨(fun h => by cases (show true = false from h)), (fun h => by cases (show true = false from h))⟩ (fun hHeld => ?_)
                clear hK K
                try simp only [Act.put, List.setIfInBounds_toArray, List.set_cons_zero, List.set_cons_succ, Array.replicate]
                refine wpAnyL_take (i := 19) (ms := []) (Si := fun _ => True) (v := ?_) (by simp only [List.getElem?_toArray, List.getElem?_cons_zero, List.getElem?_cons_succ] <;> rfl) (by kernel_rfl) (by kernel_rfl) (by kernel_rfl) (by intro _ _ _ h; exact h) trivial (by intro m hm; cases hm) (Held2.set (by decide) (by decide)) (fun _ _ _ _ => trivial) (by intro m hm; cases hm) (Or.inl ⟨by rfl, ?_⟩) (by assumption) ?_
                rotate_left
                ·intro w _; go_simp; try with_reducible rfl
                try simp only [Act.put, List.setIfInBounds_toArray, List.set_cons_zero, List.set_cons_succ, Array.replicate]
                refine wpAnyL_done (by kernel_rfl) ?_ _
                go_wp2_with fail
                exact ⟨⟨a + k, true, f', RQ, n + 1, _, by omega, by go_num, rfl, Row.set RC.out 3 _, (Upd.set (w.heap.size + 1) 3 w7 _).bos O7.out RC.out (by decide) (by decide), UU.out.trans (Upd.set (w.heap.size + 1) 3 w7 _), .inl ⟨rfl, by omega, by rw [← HDD.out]; exact HT.out⟩, by omega, by rw [← HRQ.out, List.length_append]; simp only [List.length_cons, List.length_nil]; omega⟩, by simp [intOf, goN]; omega⟩
               exact AllReadyL.nil
              exact AllReadyL.nil
             exact AllReadyL.nil
            exact AllReadyL.nil
           exact AllReadyL.nil
          exact AllReadyL.nil
        ·rw [if_neg hne] at hrec
         have HT := Lib.hid hrec
         have hneI : ¬ (n : Int) = (nx' : Int) := by omega
         clear hrec hne
         by_cases hlf2 : n < n1
         ·have hnI : (n : Int) < (n1 : Int) := by omega
          have hR0I : ¬ (R'.length : Int) = 0 := by omega
          clear hlf
          go_wp2_with (first
            | (go_at_call 48; refine (refTake_of _ d _ _ OT.out.sh HTK.out).mono ?_; rintro e wu ⟨rfl, hwb⟩; have hwb' := hwb.symm; clear hwb; subst hwb')
            | (go_at_call 47; refine (refTakef_any _ m _ LGm.out).mono ?_; rw [HTF.out]; rintro e wt ⟨vt, rfl, hot, hbt⟩; obtain ⟨xb, cb, rfl, y1, y2, y3, -⟩ := hot.sh.open; have RC := Lib.hid (RC.out.keep hbt); have OR := Lib.hid (OR.out.below hbt); have HU := Lib.hid (HU.out.then hbt); have OT := Lib.hid hot; have h2 := Row.cell RC.out 2; have h3 := Row.cell RC.out 3; simp only [KepC, List.getElem?_cons_succ, List.getElem?_cons_zero] at h2 h3; clear hot hbt))
          exact ⟨⟨a, false, 0, R', nx', _, ha, rfl, rfl, RC.out, OR.out, HU.out, .inr ⟨rfl, HT.out⟩, hnx, hRl⟩, by simp [intOf, goN]⟩
         ·have hnI : ¬ (n : Int) < (n1 : Int) := by omega
          clear hlf
          go_wp2_with (first
            | (go_at_call 48; refine (refTake_of _ d _ _ OT.out.sh HTK.out).mono ?_; rintro e wu ⟨rfl, hwb⟩; have hwb' := hwb.symm; clear hwb; subst hwb')
            | (go_at_call 47; refine (refTakef_any _ m _ LGm.out).mono ?_; rw [HTF.out]; rintro e wt ⟨vt, rfl, hot, hbt⟩; obtain ⟨xb, cb, rfl, y1, y2, y3, -⟩ := hot.sh.open; have RC := Lib.hid (RC.out.keep hbt); have OR := Lib.hid (OR.out.below hbt); have HU := Lib.hid (HU.out.then hbt); have OT := Lib.hid hot; have h2 := Row.cell RC.out 2; have h3 := Row.cell RC.out 3; simp only [KepC, List.getElem?_cons_succ, List.getElem?_cons_zero] at h2 h3; clear hot hbt))
          exact ⟨⟨a, false, 0, R', nx', _, ha, rfl, rfl, RC.out, OR.out, HU.out, .inr ⟨rfl, HT.out⟩, hnx, hRl⟩, by simp [intOf, goN]⟩
      ·rw [if_pos (.inr hE2)] at hrec
       have HT := Lib.hid hrec
       have hE2I : ¬ (E2 : Int) = 0 := by omega
       clear hrec hE2
       go_wp2_with (first
         | (go_at_call 48; refine (refTake_of _ d _ _ OT.out.sh HTK.out).mono ?_; rintro e wu ⟨rfl, hwb⟩; have hwb' := hwb.symm; clear hwb; subst hwb')
         | (go_at_call 47; refine (refTakef_any _ m _ LGm.out).mono ?_; rw [HTF.out]; rintro e wt ⟨vt, rfl, hot, hbt⟩; obtain ⟨xb, cb, rfl, y1, y2, y3, -⟩ := hot.sh.open; have RC := Lib.hid (RC.out.keep hbt); have OR := Lib.hid (OR.out.below hbt); have HU := Lib.hid (HU.out.then hbt); have OT := Lib.hid hot; have h2 := Row.cell RC.out 2; have h3 := Row.cell RC.out 3; simp only [KepC, List.getElem?_cons_succ, List.getElem?_cons_zero] at h2 h3; clear hot hbt))
       exact ⟨⟨a, false, 0, R', nx', _, ha, rfl, rfl, RC.out, OR.out, HU.out, .inr ⟨rfl, HT.out⟩, hnx, hRl⟩, by simp [intOf, goN]⟩
     ·rw [if_pos (.inl hE)] at hrec
      have HT := Lib.hid hrec
      have hEI : ¬ (E : Int) = 0 := by omega
      clear hrec hE
      go_wp2_with (first
        | (go_at_call 48; refine (refTake_of _ d _ _ OT.out.sh HTK.out).mono ?_; rintro e wu ⟨rfl, hwb⟩; have hwb' := hwb.symm; clear hwb; subst hwb')
        | (go_at_call 47; refine (refTakef_any _ m _ LGm.out).mono ?_; rw [HTF.out]; rintro e wt ⟨vt, rfl, hot, hbt⟩; obtain ⟨xb, cb, rfl, y1, y2, y3, -⟩ := hot.sh.open; have RC := Lib.hid (RC.out.keep hbt); have OR := Lib.hid (OR.out.below hbt); have HU := Lib.hid (HU.out.then hbt); have OT := Lib.hid hot; have h2 := Row.cell RC.out 2; have h3 := Row.cell RC.out 3; simp only [KepC, List.getElem?_cons_succ, List.getElem?_cons_zero] at h2 h3; clear hot hbt))
      exact ⟨⟨a, false, 0, R', nx', _, ha, rfl, rfl, RC.out, OR.out, HU.out, .inr ⟨rfl, HT.out⟩, hnx, hRl⟩, by simp [intOf, goN]⟩
    ·obtain rfl : a = l0.length := by omega
     have hltI : ¬ (l0.length : Int) < (l0.length : Int) := by omega
     rw [recF_end _ _ _ _ _ _ (by rw [List.drop_length]; rfl)] at hrec
     simp only [Prod.mk.injEq] at hrec
     obtain ⟨rfl, rfl, rfl⟩ := hrec
     have KX := Lib.hid (HU.out.row KK4.out (by omega))
     have SX := Lib.hid (HU.out.own SV4.out RK4.out (by decide))
     have DX := Lib.hid (D4.out.updO RK4.out (by decide) (by have := HP.out; omega) HU.out)
     have UX := Lib.hid (U4.out.fresh HU.out (by omega))
     have LG := Lib.hid (HU.out.own LG4.out RK4.out (by decide))
     have RX := RC
     have LX := OR
     clear RC OR HU KK4 SV4 RK4 D4 U4 LG4
     rcases HREP.out with ⟨hk, rfl, rfl⟩ | ⟨hk, S1, e1, hrep, ⟨he1, rfl, rfl⟩ | ⟨rfl, hsyn⟩⟩
     ·have hkI : ¬ (l0.length : Int) < (l0.length : Int) := by omega
      clear HREP hk
      go_upto_region 32 with fail
      have R9 := Lib.hid (Row.drew RX.out)
      have K9 := Lib.hid (Row.drew KX.out)
      have L9 := Lib.hid (LX.out.below (Below.refl _ _).drew)
      have SV9 := Lib.hid (SX.out.below (Below.refl _ _).drew)
      have D9 := Lib.hid (DX.out.keepB (Below.refl _ _).drew)
      have U9 := Lib.hid (UX.out.then (Below.refl _ _).drew)
      have S9 := Lib.hid (show w.heap.size + 1 < wr.drew.heap.size from R9.out.lt)
      refine wp_region_held_drew (S := (fun w' => Row w' (w.heap.size + 1) 31 (KepC true (.slice xs sb.length cs) (.slice xr R'.length cr) nx'))) (by kernel_rfl) (by exact Row.drew RX.out) (fun hHeld => ?_)
      generalize World.drew wr = w9 at *
      refine tH (i := 0) (v := ?_) (y := (Or.inl ⟨by rfl, ?_⟩)) (h := ?_)
      rotate_left
      ·intro w _; go_simp; try with_reducible rfl
      try simp only [Act.put, List.setIfInBounds_toArray, List.set_cons_zero, List.set_cons_succ, Array.replicate]
      refine tH (i := 1) (v := ?_) (y := (Or.inl ⟨by rfl, ?_⟩)) (h := ?_)
      rotate_left
      ·intro w _; go_simp; try with_reducible rfl
      try simp only [Act.put, List.setIfInBounds_toArray, List.set_cons_zero, List.set_cons_succ, Array.replicate]
      refine tH (i := 2) (v := ?_) (y := (Or.inl ⟨by rfl, ?_⟩)) (h := ?_)
      rotate_left
      ·intro w hSS; have k0 := Row.cell hSS 0; have k1 := Row.cell hSS 1; have k2 := Row.cell hSS 2; have k3 := Row.cell hSS 3; simp only [KepC, List.getElem?_cons_succ, List.getElem?_cons_zero] at k0 k1 k2 k3; go_simp; try with_reducible rfl
      try simp only [Act.put, List.setIfInBounds_toArray, List.set_cons_zero, List.set_cons_succ, Array.replicate]
      refine tH (i := 3) (v := ?_) (y := (Or.inl ⟨by rfl, ?_⟩)) (h := ?_)
      rotate_left
      ·intro w _; go_simp; try with_reducible rfl
      try simp only [Act.put, List.setIfInBounds_toArray, List.set_cons_zero, List.set_cons_succ, Array.replicate]
      refine tH (i := 5) (v := ?_) (y := (Or.inl ⟨by rfl, ?_⟩)) (h := ?_)
      rotate_left
      ·intro w hSS; have k0 := Row.cell hSS 0; have k1 := Row.cell hSS 1; have k2 := Row.cell hSS 2; have k3 := Row.cell hSS 3; simp only [KepC, List.getElem?_cons_succ, List.getElem?_cons_zero] at k0 k1 k2 k3; go_simp; try with_reducible rfl
      try simp only [Act.put, List.setIfInBounds_toArray, List.set_cons_zero, List.set_cons_succ, Array.replicate]
      refine rH [4] (h := ?_)
      refine cH (h := fun K hK => ?_) (hs := ?_)
      ·go_simp
       refine hK.out _ _ (by exact Row.alloc hHeld _) (fun hHeld => ?_)
       clear hK K
       try simp only [Act.put, List.setIfInBounds_toArray, List.set_cons_zero, List.set_cons_succ, Array.replicate]
       refine tH (i := 6) (v := ?_) (y := (Or.inl ⟨by rfl, ?_⟩)) (h := ?_)
       rotate_left
       ·intro w _; go_simp; try with_reducible rfl
       try simp only [Act.put, List.setIfInBounds_toArray, List.set_cons_zero, List.set_cons_succ, Array.replicate]
       have s0 := Row.cell (Row.alloc K9.out (.cells #[.pointer (some ⟨p, 0, none⟩), .int .u64 (nx' : Int)] 83)) 0; have s1 := Row.cell (Row.alloc K9.out (.cells #[.pointer (some ⟨p, 0, none⟩), .int .u64 (nx' : Int)] 83)) 1; have s2 := Row.cell (Row.alloc K9.out (.cells #[.pointer (some ⟨p, 0, none⟩), .int .u64 (nx' : Int)] 83)) 2; have s3 := Row.cell (Row.alloc K9.out (.cells #[.pointer (some ⟨p, 0, none⟩), .int .u64 (nx' : Int)] 83)) 3; simp only [KepC, List.getElem?_cons_succ, List.getElem?_cons_zero] at s0 s1 s2 s3; have sf0 := Row.frozen (Row.alloc K9.out (.cells #[.pointer (some ⟨p, 0, none⟩), .int .u64 (nx' : Int)] 83)) 0; have sf1 := Row.frozen (Row.alloc K9.out (.cells #[.pointer (some ⟨p, 0, none⟩), .int .u64 (nx' : Int)] 83)) 1; have sf2 := Row.frozen (Row.alloc K9.out (.cells #[.pointer (some ⟨p, 0, none⟩), .int .u64 (nx' : Int)] 83)) 2; have sf3 := Row.frozen (Row.alloc K9.out (.cells #[.pointer (some ⟨p, 0, none⟩), .int .u64 (nx' : Int)] 83)) 3
       refine rH [7] (h := ?_)
       refine cH (h := fun K hK => ?_) (hs := ?_)
       ·go_simp
        refine hK.out _ _ (by exact (sets4 _ _ _ _ _ _).row hHeld (by omega)) (fun hHeld => ?_)
        clear hK K
        try simp only [Act.put, List.setIfInBounds_toArray, List.set_cons_zero, List.set_cons_succ, Array.replicate]
        refine tH (i := 8) (v := ?_) (y := (Or.inl ⟨by rfl, ?_⟩)) (h := ?_)
        rotate_left
        ·intro w _; go_simp; try with_reducible rfl
        try simp only [Act.put, List.setIfInBounds_toArray, List.set_cons_zero, List.set_cons_succ, Array.replicate]
        refine wpAnyH_done (by kernel_rfl) ?_ _
        go_wp2_with fail
        refine rOpen_retG _ _ (.pointer (some ⟨w9.heap.size, 0, none⟩)) (.int .i64 0) w.heap.size rfl rfl rfl rfl (rows4 (Row.alloc K9.out _) _ _ _ _) ?_
        refine rok ?_
        exact ROpenYes.fin p w.heap.size nx' S' true sb R' w w4 w9 (.slice xs sb.length cs) _ rfl D9.out HP.out S9.out K9.out L9.out SV9.out U9.out Z4.out _ (sets4 _ _ _ _ _ _)
       exact AllReadyH.nil
      exact AllReadyH.nil
     ·exact absurd hk (by omega)
     ·exact absurd hk (by omega)
   ·simp only [Prod.mk.injEq] at hfin
    obtain ⟨rfl, rfl, rfl⟩ := hfin
    have KX := Lib.hid (HU.out.row KK4.out (by omega))
    have SX := Lib.hid (HU.out.own SV4.out RK4.out (by decide))
    have DX := Lib.hid (D4.out.updO RK4.out (by decide) (by have := HP.out; omega) HU.out)
    have UX := Lib.hid (U4.out.fresh HU.out (by omega))
    have LG := Lib.hid (HU.out.own LG4.out RK4.out (by decide))
    have RX := RC
    have LX := OR
    clear RC OR HU KK4 SV4 RK4 D4 U4 LG4
    rcases HREP.out with ⟨hk, rfl, rfl⟩ | ⟨hk, S1, e1, hrep, ⟨he1, rfl, rfl⟩ | ⟨rfl, hsyn⟩⟩
    ·have hkI : ¬ (a : Int) < (l0.length : Int) := by omega
     clear HREP hk
     go_upto_region 32 with fail
     have R9 := Lib.hid (Row.drew RX.out)
     have K9 := Lib.hid (Row.drew KX.out)
     have L9 := Lib.hid (LX.out.below (Below.refl _ _).drew)
     have SV9 := Lib.hid (SX.out.below (Below.refl _ _).drew)
     have D9 := Lib.hid (DX.out.keepB (Below.refl _ _).drew)
     have U9 := Lib.hid (UX.out.then (Below.refl _ _).drew)
     have S9 := Lib.hid (show w.heap.size + 1 < wr.drew.heap.size from R9.out.lt)
     refine wp_region_held_drew (S := (fun w' => Row w' (w.heap.size + 1) 31 (KepC true (.slice xs sb.length cs) (.slice xr R'.length cr) nx'))) (by kernel_rfl) (by exact Row.drew RX.out) (fun hHeld => ?_)
     generalize World.drew wr = w9 at *
     refine tH (i := 0) (v := ?_) (y := (Or.inl ⟨by rfl, ?_⟩)) (h := ?_)
     rotate_left
     ·intro w _; go_simp; try with_reducible rfl
     try simp only [Act.put, List.setIfInBounds_toArray, List.set_cons_zero, List.set_cons_succ, Array.replicate]
     refine tH (i := 1) (v := ?_) (y := (Or.inl ⟨by rfl, ?_⟩)) (h := ?_)
     rotate_left
     ·intro w _; go_simp; try with_reducible rfl
     try simp only [Act.put, List.setIfInBounds_toArray, List.set_cons_zero, List.set_cons_succ, Array.replicate]
     refine tH (i := 2) (v := ?_) (y := (Or.inl ⟨by rfl, ?_⟩)) (h := ?_)
     rotate_left
     ·intro w hSS; have k0 := Row.cell hSS 0; have k1 := Row.cell hSS 1; have k2 := Row.cell hSS 2; have k3 := Row.cell hSS 3; simp only [KepC, List.getElem?_cons_succ, List.getElem?_cons_zero] at k0 k1 k2 k3; go_simp; try with_reducible rfl
     try simp only [Act.put, List.setIfInBounds_toArray, List.set_cons_zero, List.set_cons_succ, Array.replicate]
     refine tH (i := 3) (v := ?_) (y := (Or.inl ⟨by rfl, ?_⟩)) (h := ?_)
     rotate_left
     ·intro w _; go_simp; try with_reducible rfl
     try simp only [Act.put, List.setIfInBounds_toArray, List.set_cons_zero, List.set_cons_succ, Array.replicate]
     refine tH (i := 5) (v := ?_) (y := (Or.inl ⟨by rfl, ?_⟩)) (h := ?_)
     rotate_left
     ·intro w hSS; have k0 := Row.cell hSS 0; have k1 := Row.cell hSS 1; have k2 := Row.cell hSS 2; have k3 := Row.cell hSS 3; simp only [KepC, List.getElem?_cons_succ, List.getElem?_cons_zero] at k0 k1 k2 k3; go_simp; try with_reducible rfl
     try simp only [Act.put, List.setIfInBounds_toArray, List.set_cons_zero, List.set_cons_succ, Array.replicate]
     refine rH [4] (h := ?_)
     refine cH (h := fun K hK => ?_) (hs := ?_)
     ·go_simp
      refine hK.out _ _ (by exact Row.alloc hHeld _) (fun hHeld => ?_)
      clear hK K
      try simp only [Act.put, List.setIfInBounds_toArray, List.set_cons_zero, List.set_cons_succ, Array.replicate]
      refine tH (i := 6) (v := ?_) (y := (Or.inl ⟨by rfl, ?_⟩)) (h := ?_)
      rotate_left
      ·intro w _; go_simp; try with_reducible rfl
      try simp only [Act.put, List.setIfInBounds_toArray, List.set_cons_zero, List.set_cons_succ, Array.replicate]
      have s0 := Row.cell (Row.alloc K9.out (.cells #[.pointer (some ⟨p, 0, none⟩), .int .u64 (nx' : Int)] 83)) 0; have s1 := Row.cell (Row.alloc K9.out (.cells #[.pointer (some ⟨p, 0, none⟩), .int .u64 (nx' : Int)] 83)) 1; have s2 := Row.cell (Row.alloc K9.out (.cells #[.pointer (some ⟨p, 0, none⟩), .int .u64 (nx' : Int)] 83)) 2; have s3 := Row.cell (Row.alloc K9.out (.cells #[.pointer (some ⟨p, 0, none⟩), .int .u64 (nx' : Int)] 83)) 3; simp only [KepC, List.getElem?_cons_succ, List.getElem?_cons_zero] at s0 s1 s2 s3; have sf0 := Row.frozen (Row.alloc K9.out (.cells #[.pointer (some ⟨p, 0, none⟩), .int .u64 (nx' : Int)] 83)) 0; have sf1 := Row.frozen (Row.alloc K9.out (.cells #[.pointer (some ⟨p, 0, none⟩), .int .u64 (nx' : Int)] 83)) 1; have sf2 := Row.frozen (Row.alloc K9.out (.cells #[.pointer (some ⟨p, 0, none⟩), .int .u64 (nx' : Int)] 83)) 2; have sf3 := Row.frozen (Row.alloc K9.out (.cells #[.pointer (some ⟨p, 0, none⟩), .int .u64 (nx' : Int)] 83)) 3
      refine rH [7] (h := ?_)
      refine cH (h := fun K hK => ?_) (hs := ?_)
      ·go_simp
       refine hK.out _ _ (by exact (sets4 _ _ _ _ _ _).row hHeld (by omega)) (fun hHeld => ?_)
       clear hK K
       try simp only [Act.put, List.setIfInBounds_toArray, List.set_cons_zero, List.set_cons_succ, Array.replicate]
       refine tH (i := 8) (v := ?_) (y := (Or.inl ⟨by rfl, ?_⟩)) (h := ?_)
       rotate_left
       ·intro w _; go_simp; try with_reducible rfl
       try simp only [Act.put, List.setIfInBounds_toArray, List.set_cons_zero, List.set_cons_succ, Array.replicate]
       refine wpAnyH_done (by kernel_rfl) ?_ _
       go_wp2_with fail
       refine rOpen_retG _ _ (.pointer (some ⟨w9.heap.size, 0, none⟩)) (.int .i64 0) w.heap.size rfl rfl rfl rfl (rows4 (Row.alloc K9.out _) _ _ _ _) ?_
       refine rok ?_
       exact ROpenYes.fin p w.heap.size nx' S' true sb R' w w4 w9 (.slice xs sb.length cs) _ rfl D9.out HP.out S9.out K9.out L9.out SV9.out U9.out Z4.out _ (sets4 _ _ _ _ _ _)
      exact AllReadyH.nil
     exact AllReadyH.nil
    ·have hkI : (a : Int) < (l0.length : Int) := by omega
     have he1I : ¬ (err : Int) = 0 := by omega
     have HRP := Lib.hid hrep
     clear HREP hrep
     go_wp2_with (first
       | (go_at_call 49; refine (refReplace_of p 0 _ (l0.take a) S S' err HRP.out _ DX.out (fun w' hu => DX.out.sb (LG.out.sh.take a ha) hu) (by rw [List.length_take]; omega) HK.out.l HK.out.s HK.out.m).mono ?_; rintro e w5 ⟨rfl, hd5, hu5⟩; have hrX := DX.out.rowC.choose_spec.1; have K5 := Lib.hid (hu5.row KX.out (by have := HP.out; omega)); have R5 := Lib.hid (hu5.row RX.out (by have := HP.out; omega)); have S5 := Lib.hid (hu5.own SX.out hrX (by decide)); have L5 := Lib.hid (hu5.bos LX.out hrX (by decide) (by decide)); have D5 := Lib.hid hd5; have U5 := Lib.hid (UX.out.trans hu5); have z0 := Row.cell (K5.out) 0; have z1 := Row.cell (K5.out) 1; have z2 := Row.cell (K5.out) 2; have z3 := Row.cell (K5.out) 3; simp only [KepC, List.getElem?_cons_succ, List.getElem?_cons_zero] at z0 z1 z2 z3; have zf0 := Row.frozen (K5.out) 0; have zf1 := Row.frozen (K5.out) 1; have zf2 := Row.frozen (K5.out) 2; have zf3 := Row.frozen (K5.out) 3; clear hd5 hu5 hrX))
     refine rOpen_retG _ _ (.pointer none) (.int .i64 (err : Int)) w.heap.size rfl rfl rfl rfl (rows4 K5.out _ _ _ _) ?_
     exact ⟨.inr ⟨he1, rfl⟩, D5.out.updO K5.out (by decide) (by have := HP.out; omega) (sets4 _ _ _ _ _ _), U5.out.fresh (sets4 _ _ _ _ _ _) (Nat.le_refl _)⟩
    ·have hkI : (a : Int) < (l0.length : Int) := by omega
     have i1 := HWI.out.replace 0 (l0.take a)
     rw [hrep] at i1
     have HK1 := Lib.hid (i1.k (by omega) (by omega))
     have HRP := Lib.hid hrep
     have HSY := Lib.hid hsyn
     clear HREP hrep hsyn i1
     by_cases he2 : err = 0
     ·subst he2
      go_upto_region 32 with (first
        | (go_at_call 50; refine (refSync_of p 0 S1 S' 0 HSY.out _ D5.out HK1.out.l HK1.out.s HK1.out.m).mono ?_; rintro e w6 ⟨rfl, hd6, hu6⟩; have hrX := D5.out.rowC.choose_spec.1; have KX := Lib.hid (hu6.row K5.out (by have := HP.out; omega)); have RX := Lib.hid (hu6.row R5.out (by have := HP.out; omega)); have SX := Lib.hid (hu6.own S5.out hrX (by decide)); have LX := Lib.hid (hu6.bos L5.out hrX (by decide) (by decide)); have DX := Lib.hid hd6; have UX := Lib.hid (U5.out.trans hu6); clear hd6 hu6 hrX)
        | (go_at_call 49; refine (refReplace_of p 0 _ (l0.take a) S S1 0 HRP.out _ DX.out (fun w' hu => DX.out.sb (LG.out.sh.take a ha) hu) (by rw [List.length_take]; omega) HK.out.l HK.out.s HK.out.m).mono ?_; rintro e w5 ⟨rfl, hd5, hu5⟩; have hrX := DX.out.rowC.choose_spec.1; have K5 := Lib.hid (hu5.row KX.out (by have := HP.out; omega)); have R5 := Lib.hid (hu5.row RX.out (by have := HP.out; omega)); have S5 := Lib.hid (hu5.own SX.out hrX (by decide)); have L5 := Lib.hid (hu5.bos LX.out hrX (by decide) (by decide)); have D5 := Lib.hid hd5; have U5 := Lib.hid (UX.out.trans hu5); clear hd5 hu5 hrX))
      have R9 := Lib.hid (Row.drew RX.out)
      have K9 := Lib.hid (Row.drew KX.out)
      have L9 := Lib.hid (LX.out.below (Below.refl _ _).drew)
      have SV9 := Lib.hid (SX.out.below (Below.refl _ _).drew)
      have D9 := Lib.hid (DX.out.keepB (Below.refl _ _).drew)
      have U9 := Lib.hid (UX.out.then (Below.refl _ _).drew)
      have S9 := Lib.hid (show w.heap.size + 1 < w6.drew.heap.size from R9.out.lt)
      refine wp_region_held_drew (S := (fun w' => Row w' (w.heap.size + 1) 31 (KepC true (.slice xs sb.length cs) (.slice xr R'.length cr) nx'))) (by kernel_rfl) (by exact Row.drew RX.out) (fun hHeld => ?_)
      generalize World.drew w6 = w9 at *
      refine tH (i := 0) (v := ?_) (y := (Or.inl ⟨by rfl, ?_⟩)) (h := ?_)
      rotate_left
      ·intro w _; go_simp; try with_reducible rfl
      try simp only [Act.put, List.setIfInBounds_toArray, List.set_cons_zero, List.set_cons_succ, Array.replicate]
      refine tH (i := 1) (v := ?_) (y := (Or.inl ⟨by rfl, ?_⟩)) (h := ?_)
      rotate_left
      ·intro w _; go_simp; try with_reducible rfl
      try simp only [Act.put, List.setIfInBounds_toArray, List.set_cons_zero, List.set_cons_succ, Array.replicate]
      refine tH (i := 2) (v := ?_) (y := (Or.inl ⟨by rfl, ?_⟩)) (h := ?_)
      rotate_left
      ·intro w hSS; have k0 := Row.cell hSS 0; have k1 := Row.cell hSS 1; have k2 := Row.cell hSS 2; have k3 := Row.cell hSS 3; simp only [KepC, List.getElem?_cons_succ, List.getElem?_cons_zero] at k0 k1 k2 k3; go_simp; try with_reducible rfl
      try simp only [Act.put, List.setIfInBounds_toArray, List.set_cons_zero, List.set_cons_succ, Array.replicate]
      refine tH (i := 3) (v := ?_) (y := (Or.inl ⟨by rfl, ?_⟩)) (h := ?_)
      rotate_left
      ·intro w _; go_simp; try with_reducible rfl
      try simp only [Act.put, List.setIfInBounds_toArray, List.set_cons_zero, List.set_cons_succ, Array.replicate]
      refine tH (i := 5) (v := ?_) (y := (Or.inl ⟨by rfl, ?_⟩)) (h := ?_)
      rotate_left
      ·intro w hSS; have k0 := Row.cell hSS 0; have k1 := Row.cell hSS 1; have k2 := Row.cell hSS 2; have k3 := Row.cell hSS 3; simp only [KepC, List.getElem?_cons_succ, List.getElem?_cons_zero] at k0 k1 k2 k3; go_simp; try with_reducible rfl
      try simp only [Act.put, List.setIfInBounds_toArray, List.set_cons_zero, List.set_cons_succ, Array.replicate]
      refine rH [4] (h := ?_)
      refine cH (h := fun K hK => ?_) (hs := ?_)
      ·go_simp
       refine hK.out _ _ (by exact Row.alloc hHeld _) (fun hHeld => ?_)
       clear hK K
       try simp only [Act.put, List.setIfInBounds_toArray, List.set_cons_zero, List.set_cons_succ, Array.replicate]
       refine tH (i := 6) (v := ?_) (y := (Or.inl ⟨by rfl, ?_⟩)) (h := ?_)
       rotate_left
       ·intro w _; go_simp; try with_reducible rfl
       try simp only [Act.put, List.setIfInBounds_toArray, List.set_cons_zero, List.set_cons_succ, Array.replicate]
       have s0 := Row.cell (Row.alloc K9.out (.cells #[.pointer (some ⟨p, 0, none⟩), .int .u64 (nx' : Int)] 83)) 0; have s1 := Row.cell (Row.alloc K9.out (.cells #[.pointer (some ⟨p, 0, none⟩), .int .u64 (nx' : Int)] 83)) 1; have s2 := Row.cell (Row.alloc K9.out (.cells #[.pointer (some ⟨p, 0, none⟩), .int .u64 (nx' : Int)] 83)) 2; have s3 := Row.cell (Row.alloc K9.out (.cells #[.pointer (some ⟨p, 0, none⟩), .int .u64 (nx' : Int)] 83)) 3; simp only [KepC, List.getElem?_cons_succ, List.getElem?_cons_zero] at s0 s1 s2 s3; have sf0 := Row.frozen (Row.alloc K9.out (.cells #[.pointer (some ⟨p, 0, none⟩), .int .u64 (nx' : Int)] 83)) 0; have sf1 := Row.frozen (Row.alloc K9.out (.cells #[.pointer (some ⟨p, 0, none⟩), .int .u64 (nx' : Int)] 83)) 1; have sf2 := Row.frozen (Row.alloc K9.out (.cells #[.pointer (some ⟨p, 0, none⟩), .int .u64 (nx' : Int)] 83)) 2; have sf3 := Row.frozen (Row.alloc K9.out (.cells #[.pointer (some ⟨p, 0, none⟩), .int .u64 (nx' : Int)] 83)) 3
       refine rH [7] (h := ?_)
       refine cH (h := fun K hK => ?_) (hs := ?_)
       ·go_simp
        refine hK.out _ _ (by exact (sets4 _ _ _ _ _ _).row hHeld (by omega)) (fun hHeld => ?_)
        clear hK K
        try simp only [Act.put, List.setIfInBounds_toArray, List.set_cons_zero, List.set_cons_succ, Array.replicate]
        refine tH (i := 8) (v := ?_) (y := (Or.inl ⟨by rfl, ?_⟩)) (h := ?_)
        rotate_left
        ·intro w _; go_simp; try with_reducible rfl
        try simp only [Act.put, List.setIfInBounds_toArray, List.set_cons_zero, List.set_cons_succ, Array.replicate]
        refine wpAnyH_done (by kernel_rfl) ?_ _
        go_wp2_with fail
        refine rOpen_retG _ _ (.pointer (some ⟨w9.heap.size, 0, none⟩)) (.int .i64 0) w.heap.size rfl rfl rfl rfl (rows4 (Row.alloc K9.out _) _ _ _ _) ?_
        refine rok ?_
        exact ROpenYes.fin p w.heap.size nx' S' true sb R' w w4 w9 (.slice xs sb.length cs) _ rfl D9.out HP.out S9.out K9.out L9.out SV9.out U9.out Z4.out _ (sets4 _ _ _ _ _ _)
       exact AllReadyH.nil
      exact AllReadyH.nil
     ·have he2I : ¬ (err : Int) = 0 := by omega
      go_wp2_with (first
        | (go_at_call 50; refine (refSync_of p 0 S1 S' err HSY.out _ D5.out HK1.out.l HK1.out.s HK1.out.m).mono ?_; rintro e w6 ⟨rfl, hd6, hu6⟩; have hrX := D5.out.rowC.choose_spec.1; have KX := Lib.hid (hu6.row K5.out (by have := HP.out; omega)); have RX := Lib.hid (hu6.row R5.out (by have := HP.out; omega)); have SX := Lib.hid (hu6.own S5.out hrX (by decide)); have LX := Lib.hid (hu6.bos L5.out hrX (by decide) (by decide)); have DX := Lib.hid hd6; have UX := Lib.hid (U5.out.trans hu6); have z0 := Row.cell (KX.out) 0; have z1 := Row.cell (KX.out) 1; have z2 := Row.cell (KX.out) 2; have z3 := Row.cell (KX.out) 3; simp only [KepC, List.getElem?_cons_succ, List.getElem?_cons_zero] at z0 z1 z2 z3; have zf0 := Row.frozen (KX.out) 0; have zf1 := Row.frozen (KX.out) 1; have zf2 := Row.frozen (KX.out) 2; have zf3 := Row.frozen (KX.out) 3; clear hd6 hu6 hrX)
        | (go_at_call 49; refine (refReplace_of p 0 _ (l0.take a) S S1 0 HRP.out _ DX.out (fun w' hu => DX.out.sb (LG.out.sh.take a ha) hu) (by rw [List.length_take]; omega) HK.out.l HK.out.s HK.out.m).mono ?_; rintro e w5 ⟨rfl, hd5, hu5⟩; have hrX := DX.out.rowC.choose_spec.1; have K5 := Lib.hid (hu5.row KX.out (by have := HP.out; omega)); have R5 := Lib.hid (hu5.row RX.out (by have := HP.out; omega)); have S5 := Lib.hid (hu5.own SX.out hrX (by decide)); have L5 := Lib.hid (hu5.bos LX.out hrX (by decide) (by decide)); have D5 := Lib.hid hd5; have U5 := Lib.hid (UX.out.trans hu5); clear hd5 hu5 hrX))
      refine rOpen_retG _ _ (.pointer none) (.int .i64 (err : Int)) w.heap.size rfl rfl rfl rfl (rows4 KX.out _ _ _ _) ?_
      exact ⟨.inr ⟨he2, rfl⟩, DX.out.updO KX.out (by decide) (by have := HP.out; omega) (sets4 _ _ _ _ _ _), UX.out.fresh (sets4 _ _ _ _ _ _) (Nat.le_refl _)⟩
end Go.Proofs.Ytkghkpkiodghiaa
