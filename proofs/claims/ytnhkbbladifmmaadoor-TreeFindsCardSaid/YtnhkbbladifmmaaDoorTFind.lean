/- The law TreeFinds, its walk. (printed by gen/tfind.py) -/
import Derived.Test.YtnhkbbladifmmaaDoorTAny
import Derived.Test.YtnhkbbladifmmaaDoorTre8
import Derived.Test.YtnhkbbladifmmaaDoorOn21
import Derived.OrdersHeld
namespace Go.Proofs.YtnhkbbladifmmaaDoor
set_option linter.unusedVariables false
set_option linter.unusedSimpArgs false
set_option linter.unnecessarySimpa false
open Go.RowKit
open Tre (It)
set_option maxRecDepth 100000
set_option maxHeartbeats 8000000

theorem exec_eql_item {ρ : Operand → Value} {o : Oper} (x y : Operand) (ho : o.op = .binOp .eql 32 x y 32) (A B : It) (hx : ρ x = .agg (itC A).toArray) (hy : ρ y = .agg (itC B).toArray) (hA : ItOk A) (hB : ItOk B) (w : World) :
    (execOp ρ o).run Tryd.prog w = .ok (.value (.bool (itEq A B))) w := by
  have h1 := run_eqGuard_agg w .eql 32 x y (itC A).toArray (itC B).toArray eqG_item
  have h2 := run_eql_struct (P := Tryd.prog) w 32 (itC A).toArray (itC B).toArray
  have h3 := eq_item_d 9997 A B hA hB w
  rw [h3] at h2
  unfold execOp
  rw [ho]
  simp only [hx, hy, Sem.run_bind, h1, h2, Result.andThen_ok, Sem.run_pure]
  rfl
theorem eql_item_g {w : World} {ops : Array Oper} {rest : List Oper} {o : Oper} {a : Act} {Q : Exit → Act → World → Prop} (hw : Region.wanted o (yielded ops a.tmps) = true) (x y : Operand) (ho : o.op = .binOp .eql 32 x y 32) (A B : It) (hx : a.eval x = .agg (itC A).toArray) (hy : a.eval y = .agg (itC B).toArray) (hA : ItOk A) (hB : ItOk B) (b : Bool) (hb : itEq A B = b)
    (h : wpList Tryd.prog ops Q rest (a.put o.dst (.bool b)) w) : wpList Tryd.prog ops Q (o :: rest) a w :=
  BigFrame.wpList_want hw fun K hK => by
    unfold Oper.wp
    rw [exec_eql_item x y ho A B hx hy hA hB w, hb]
    exact hK _ _ h
theorem last_its {l : List It} {n : List UInt8} (h : ∀ y ∈ l, ItS y) : ItOk (optIt (Tre.last l n)) := by
  have : ∀ (l : List It) (o : Option It), (∀ y ∈ l, ItS y) → ItOk (optIt o) → ItOk (optIt (l.foldl (fun o x => if x.nm = n then some x else o) o)) := by
    intro l
    induction l with
    | nil => intro o _ h; exact h
    | cons y r ih =>
      intro o hr ho
      refine ih _ (fun z hz => hr z (List.mem_cons_of_mem _ hz)) ?_
      show ItOk (optIt (if y.nm = n then some y else o))
      split
      · exact (hr y (List.mem_cons_self ..)).1
      · exact ho
  exact this l none h dit_ok
theorem TreeFinds_walk (v : Value) (l : List It) (n : ByteArray) (w : World) (hg : Glob w) (hs : Its w v l) (hok : Oks l) (hsz : l.length ≤ 140737488355328) (hn : n.size ≤ 9223372036854775807) :
    Calls Tryd.prog 5 #[v, .string n] w fun e w' => e = .returned (.bool true) ∧ Below w.heap.size w w' := by
  have hz3 := hg.1
  have HG := Lib.hid hg
  have HS := Lib.hid hs
  have HOK := Lib.hid hok
  have HF1 : Hid (∀ y ∈ fewL l, ItS y) := fewL_its hok
  have HF2 : Hid ((fewL l).length ≤ 8) := fewL_length l
  have hfa : Hid (Tre.find (Tre.all (fewL l)) n.data.toList = Tre.last (fewL l) n.data.toList) := Tre.find_all _ _
  have hlo : Hid (ItOk (optIt (Tre.last (fewL l) n.data.toList))) := last_its (fewL_its hok)
  clear hg hs hok
  go_enter Tryd.func5, Tryd.ntmps5
  have hnI : (n.size : Int) ≤ 9223372036854775807 := by omega
  go_upto_region 2 with (go_at_call 9; refine (few_any v l _ HS.out HOK.out hsz).mono ?_; rintro e w1 ⟨v1, rfl, ho1, hb1⟩; have O1 := Lib.hid ho1.its; have B1 := Lib.hid hb1; have G1 := Lib.hid (Glob.below HG.out hb1 (by omega)); clear ho1 hb1)
  have hw1 := B1.out.size
  by_cases hbig : 200 < n.size
  · have hbI : (n.size : Int) > 200 := by omega
    go_wp2_with (go_at_call 14; refine (lives_any _ G1.out).mono ?_; rintro e wl ⟨rfl, hbl⟩; have BL := Lib.hid (B1.out.trans (hbl.mono hw1)); clear hbl)
    go_ret
    exact ⟨rfl, BL.out⟩
  have hbI : ¬ (n.size : Int) > 200 := by omega
  have hn6 : n.size ≤ 1000000 := by omega
  go_upto_region 5 with (first
    | (at_builtin; refine app_items (base := w1.heap.size) rfl (.tmp 17) (.tmp 18) rfl (L := []) rfl (OwnI.lit0 w1) rfl (O1.out.below (balloc (Below.refl _ w1) _)) (by have := HF2.out; simp only [List.length_nil]; omega) (by simp) ?_; rw [List.nil_append]; intro v3 w3 ho3' hb3; have hb30 : Below w1.heap.size w1 w3 := ((balloc (Below.refl _ w1) _).trans hb3); have O3 := Lib.hid ho3'.its; have O13 := Lib.hid (O1.out.below hb30); have B3 := Lib.hid (B1.out.trans (hb30.mono hw1)); have hw3 := B3.out.size; have G3 := Lib.hid (Glob.below G1.out hb30 (by omega)); clear ho3' hb3 hb30)
    | (go_at_call 10; refine (Build_any v3 (fewL l) _ G3.out O3.out HF1.out (by have := HF2.out; omega)).mono ?_; rintro e w4 ⟨TA, rfl, ht4, hi4, hn4, hb4⟩; have TA4 := Lib.hid ht4; have IA := Lib.hid hi4; have B4 := Lib.hid (B3.out.trans (hb4.mono hw3)); have hw4 := B4.out.size; have O14 := Lib.hid (O13.out.below hb4); have G4 := Lib.hid (Glob.below G3.out hb4 (by omega)); clear ht4 hi4 hn4 hb4))
  obtain ⟨E, hE⟩ : ∃ E, w3.heap.size = E := ⟨_, rfl⟩
  rw [hE] at TA4
  simp only [hE]
  clear hE O1 O3 O13 B1 B3 G1 G3 HS HOK HG
  obtain ⟨F, hF⟩ : ∃ F, optIt (Tre.last (fewL l) n.data.toList) = F := ⟨_, rfl⟩
  obtain ⟨fb, hfb⟩ : ∃ fb, (Tre.last (fewL l) n.data.toList).isSome = fb := ⟨_, rfl⟩
  have HFO : Hid (ItOk F) := by rw [← hF]; exact hlo.out
  have HF := Lib.hid hF
  have HFB := Lib.hid hfb
  obtain ⟨z0, hz0⟩ : ∃ z, z = dIt := ⟨_, rfl⟩
  have HZ0 := Lib.hid hz0
  have HZO : Hid (ItOk z0) := by rw [hz0]; exact dit_ok
  clear hF hfb hz0 hlo
  go_upto_region 8 with (first
    | (go_at_call 17; refine (Find_any _ _ _ TA _ n G4.out TA4.out IA.out hn6).mono ?_; rw [hfa.out, HF.out, HFB.out]; rintro e w5 ⟨rfl, hb5⟩; obtain ⟨hz5, W6, hW6, hr6, hb6⟩ := pre34 w5 F HFO.out; dsimp only at hW6 hz5; have HZ5 := Lib.hid hz5; have R6 := Lib.hid hr6; have hw5 := hb5.size; have B6 := Lib.hid (hb5.trans (hb6.mono hw5)); clear hz5 hr6 hb5 hb6)
    | (with_reducible refine store_item_mid rfl (.tmp 6) (.tmp 27) rfl w5.heap.size 0 rfl F rfl HFO.out 32 (itC dIt) HZ5.out (by decide) ?_))
  try rw [hW6]
  clear hW6 HZ5
  have hw56 := R6.out.lt
  have O16 := Lib.hid (O14.out.below B6.out)
  have G6 := Lib.hid (Glob.below G4.out B6.out (by omega))
  have BW6 := Lib.hid (B4.out.trans (B6.out.mono hw4))
  obtain ⟨hz7, W8, hW8, hr8, hb8⟩ := pre34 W6 z0 HZO.out
  dsimp only at hW8 hz7
  have HZ7 := Lib.hid hz7
  have R8 := Lib.hid hr8
  have R68 := Lib.hid (R6.out.keep hb8)
  have O18 := Lib.hid (O16.out.below hb8)
  have B8 := Lib.hid hb8
  have G8 := Lib.hid (Glob.below G6.out hb8 (by omega))
  clear hz7 hr8 hb8 O14 G4 TA4 IA B6
  go_upto_region 9 with (first
    | (with_reducible refine build_item z0 HZ0.out rfl rfl ?_)
    | (with_reducible refine store_item_mid rfl (.tmp 8) (.tmp 29) rfl W6.heap.size 0 rfl z0 rfl HZO.out 32 (itC dIt) HZ7.out (by decide) ?_))
  try rw [hW8]
  clear hW8 HZ7
  obtain ⟨q8, hq8⟩ : ∃ q, W6.heap.size = q := ⟨_, rfl⟩
  rw [hq8] at R8 B8 hw56
  simp only [hq8]
  have HQ8 : Hid (W6.heap.size ≤ q8) := Nat.le_of_eq hq8
  clear hq8
  obtain ⟨xa1, xc1, hv1, -, hxc1, -, o17⟩ := O16.out.open
  subst hv1
  have O17 := Lib.hid o17
  clear o17 O16 O18 R68
  have hl8 : ((fewL l).length : Int) ≤ 8 := by have := HF2.out; omega
  have HFK : Hid (Oks (fewL l)) := ItS.oks HF1.out
  obtain ⟨nl, hnl⟩ : ∃ m, n.data.toList = m := ⟨_, rfl⟩
  have hnt : Hid (n.toList = nl) := by show _ = _; rw [ByteArray.toList_eq]; exact hnl
  rw [hnl] at HF HFB hfa
  clear hnl
  go_wp2_with fail
  go_loopw [9, 10] (fun hv iv wq => ∃ (i : Nat) (c : Bool) (d : It), i ≤ (fewL l).length ∧ hv = .bool c ∧ iv = .int .i64 i ∧ (Tre.last ((fewL l).take i) nl).isSome = c ∧ optIt (Tre.last ((fewL l).take i) nl) = d ∧ ItOk d ∧ Row wq q8 32 (itC d) ∧ Below q8 W6 wq) (fun _ iv _ => (fewL l).length - (intOf iv).toNat)
  case atStart => exact ⟨0, false, z0, Nat.zero_le _, rfl, rfl, rfl, by rw [HZ0.out]; rfl, HZO.out, R8.out, B8.out⟩
  case round =>
    clear R8 B8
    obtain ⟨i, c, d, hi, rfl, rfl, hc, hd, hdo, hr, hb⟩ := hrel
    have HC := Lib.hid hc
    have HD := Lib.hid hd
    have HDO := Lib.hid hdo
    have HR := Lib.hid hr
    have HB := Lib.hid hb
    clear hc hd hdo hr hb
    by_cases hlt : i < (fewL l).length
    · have hltI : (i : Int) < ((fewL l).length : Int) := by omega
      have SR := O17.out.at' HB.out HQ8.out
      obtain ⟨ba, off, rfl, -⟩ := SR.cells (by omega) HFK.out
      have hrg := SR.range HFK.out i hlt
      have hyo : ItOk ((fewL l).getD i dIt) := HFK.out _ (by simp [List.getD, List.getElem?_eq_getElem hlt])
      have hst : Tre.last ((fewL l).take (i + 1)) nl = if ((fewL l).getD i dIt).nm = nl then some ((fewL l).getD i dIt) else Tre.last ((fewL l).take i) nl := by
        rw [List.take_succ_eq_append_getElem hlt, Tre.last_snoc]
        simp [List.getD, List.getElem?_eq_getElem hlt]
      generalize (fewL l).getD i dIt = y at *
      have HRG := Lib.hid hrg
      have HYO := Lib.hid hyo
      have HST := Lib.hid hst
      have hcy : wr.cell? ⟨ba, off + i * 34, none⟩ = some (.string y.name) := HRG.out 0 _ rfl
      clear hrg hyo hst SR
      by_cases he : y.nm = nl
      · have hne : (y.name.toList == n.toList) = true := by rw [toL, hnt.out, beq_iff_eq]; exact he
        have HE := Lib.hid he
        clear he
        go_wp2_with (first
          | (with_reducible refine load_item rfl (.tmp 45) rfl ba _ rfl y HYO.out HRG.out ?_)
          | (with_reducible refine store_item_mid rfl (.tmp 8) (.tmp 46) rfl q8 0 rfl y rfl HYO.out 32 (itC d) HR.out (by rw [itC_length HDO.out]; decide) ?_))
        exact ⟨⟨i + 1, true, y, by omega, rfl, by go_num, by rw [HST.out, if_pos HE.out]; rfl, by rw [HST.out, if_pos HE.out]; rfl, HYO.out, set_item HR.out HYO.out HDO.out, below_setCells HB.out _ _ _ (Nat.le_refl _)⟩, by simp [intOf]; omega⟩
      · have hne : (y.name.toList == n.toList) = false := by rw [toL, hnt.out, beq_eq_false_iff_ne]; exact he
        have HE := Lib.hid he
        clear he
        go_wp2_with fail
        exact ⟨⟨i + 1, c, d, by omega, rfl, by go_num, by rw [HST.out, if_neg HE.out]; exact HC.out, by rw [HST.out, if_neg HE.out]; exact HD.out, HDO.out, HR.out, HB.out⟩, by simp [intOf]; omega⟩
    · have hil : i = (fewL l).length := by omega
      have hnI2 : ¬ (i : Int) < ((fewL l).length : Int) := by omega
      have hc1 : c = fb := by rw [← HC.out, ← HFB.out, hil, List.take_length]
      have hd1 : d = F := by rw [← HD.out, ← HF.out, hil, List.take_length]
      subst hc1 hd1
      have RF := Lib.hid (R6.out.below HB.out hw56)
      have GQ := Lib.hid (Glob.below G6.out HB.out (by omega))
      have hra : Hid (wr.rangeAt w5.heap.size 0 (itC d)) := fun j v hv => by rw [Nat.zero_add, Row.cell RF.out]; exact hv
      have hrb : Hid (wr.rangeAt q8 0 (itC d)) := fun j v hv => by rw [Nat.zero_add, Row.cell HR.out]; exact hv
      have HEQ : Hid (itEq d d = true) := (itEq_iff d d).2 rfl
      have HPP : Hid ((pathOf n == pathOf n) = true) := by show _ = _; simp
      have BWQ := Lib.hid (BW6.out.trans (HB.out.mono (by have := BW6.out.size; have := HQ8.out; omega)))
      have hn14 : n.size ≤ 100000000000000 := by omega
      clear hil hlt hi HC HD
      go_wp2_with (first
        | (with_reducible refine load_item rfl (.tmp 6) rfl w5.heap.size 0 rfl d HDO.out hra.out ?_)
        | (with_reducible refine load_item rfl (.tmp 8) rfl q8 0 rfl d HDO.out hrb.out ?_)
        | (refine eql_item_g (by with_unfolding_all rfl) (.tmp 47) (.tmp 48) rfl d d rfl rfl HDO.out HDO.out _ HEQ.out ?_)
        | (go_at_call 19; refine (tpath_any n _ GQ.out hn14).mono ?_; rintro e wa ⟨va, rfl, hna, hba⟩; have NA := Lib.hid hna; have BA := Lib.hid (BWQ.out.trans (hba.mono BWQ.out.size)); have GA := Lib.hid (Glob.below GQ.out hba GQ.out.1); clear hna hba)
        | (go_at_call 16; refine (rpath_any n _ hn14).mono ?_; rintro e wb ⟨vb, rfl, hnb, hbb⟩; have NB := Lib.hid hnb; have NA2 := Lib.hid (NA.out.below hbb); have BB := Lib.hid (BA.out.trans (hbb.mono BA.out.size)); have GB := Lib.hid (Glob.below GA.out hbb GA.out.1); clear hnb hbb)
        | (go_at_call 18; refine (ints_any _ _ _ _ _ NA2.out NB.out).mono ?_; rw [HPP.out]; rintro e wc ⟨rfl, hbc⟩; have BC := Lib.hid (BB.out.trans (hbc.mono BB.out.size)); have GC := Lib.hid (Glob.below GB.out hbc GB.out.1); clear hbc)
        | (go_at_call 14; refine (lives_any _ GC.out).mono ?_; rintro e wl ⟨rfl, hbl⟩; have BL := Lib.hid (BC.out.trans (hbl.mono BC.out.size)); clear hbl))
      go_ret
      exact ⟨rfl, BL.out⟩
end Go.Proofs.YtnhkbbladifmmaaDoor
