/- Frames: the program's Take, the document's Scan, Same. -/
import Derived.Test.YtadmjhlcdoghpabFrm5
import Derived.Test.YtadmjhlcdoghpabFrm7
namespace Go.Proofs.Ytadmjhlcdoghpab
set_option linter.unusedVariables false
set_option linter.unusedSimpArgs false
set_option linter.unnecessarySimpa false
open Go.RowKit
set_option maxRecDepth 100000
set_option maxHeartbeats 4000000

theorem tkF_len (l : List UInt8) : (tkF l).1.length ≤ l.length := by
  rcases tk_cases l with ⟨e, ht, he⟩ | ⟨n, k, ht, hk1, hk2, hn⟩
  · have e1 : tkF l = ([], 0, e) := by unfold tkF; rw [ht, if_pos (by show e ≠ 0; omega)]
    rw [e1]; simp
  · unfold tkF
    rw [ht]
    split
    · simp
    · split
      · simp
      · split
        · simp
        · split
          · simp [List.length_take]; omega
          · simp
theorem Take2_any (v : Value) (l : List UInt8) (w : World) (h : Sh w v l) (hl : l.length ≤ 140737488355328) :
    Calls Try.prog 18 #[v] w fun r w' => ∃ v1 v2, r = .returned (.tuple #[v1, v2, .int .i64 ((tkF l).2.2 : Int)]) ∧ Sh w' v1 (tkF l).1 ∧ Sh w' v2 (tkFRest l) ∧ Below w.heap.size w w' := by
  have hr1 := tkF_len l
  have hr2 : (tkFRest l).length ≤ l.length := by unfold tkFRest; split <;> simp
  have H := Lib.hid h
  have H1 := Lib.hid (Nat.le_trans hr1 hl)
  have H2 := Lib.hid (Nat.le_trans hr2 hl)
  clear h hr1 hr2
  go_enter Try.func18, Try.ntmps18
  go_wp2_with fail
  refine (takef_any _ l _ H.out hl).mono ?_; rintro r w1 ⟨v1, v2, rfl, hs, hb1⟩
  have hs1 := hs _ (H.out.below hb1)
  obtain ⟨hsa, hsb⟩ := hs1
  obtain ⟨x1, c1, e1, -⟩ := hsa.open
  obtain ⟨x2, c2, e2, -⟩ := hsb.open
  have HA := Lib.hid hsa
  have HB := Lib.hid hsb
  subst e1 e2
  clear hs hsa hsb
  go_wp2_with fail
  refine (clone_any _ _ _ HA.out H1.out).mono ?_; rintro r w2 ⟨v3, rfl, ho3, hb2⟩
  go_wp2_with fail
  refine (clone_any _ _ _ (HB.out.below hb2) H2.out).mono ?_; rintro r w3 ⟨v4, rfl, ho4, hb3⟩
  have s1 := hb1.size
  have s2 := hb2.size
  go_wp2_with fail
  go_ret3
  exact ⟨_, _, rfl, ho3.sh.below hb3, ho4.sh, bthen (bthen hb1 hb2 (Nat.le_refl _)) hb3 (Nat.le_refl _)⟩
theorem Same_any (v1 v2 : Value) (L : List (List UInt8)) (w : World) (h1 : Bss w v1 L) (h2 : Bss w v2 L) :
    Calls Try.prog 17 #[v1, v2] w fun e w' => e = .returned (.bool true) ∧ Below w.heap.size w w' := by
  obtain ⟨a, cap, rfl, g1, g2, g3⟩ := h1.open
  obtain ⟨b, cap2, rfl, k1, k2, k3⟩ := h2.open
  have HS := Lib.hid h1
  have HT := Lib.hid h2
  clear h1 h2 g3 k3
  go_enter Try.func17, Try.ntmps17
  go_wp2_with fail
  go_loopw [5] (fun i wr => ∃ j : Nat, j ≤ L.length ∧ i = .int .i64 j ∧ Below w.heap.size w wr) (fun i _ => L.length - (intOf i).toNat)
  case atStart => exact ⟨0, by omega, rfl, Below.refl _ _⟩
  case round =>
    obtain ⟨j, hj, rfl, hb⟩ := hrel
    by_cases hlt : j < L.length
    · obtain ⟨b1, off1, rfl, -, hat1⟩ := HS.out.cells (by omega)
      obtain ⟨b2, off2, rfl, -, hat2⟩ := HT.out.cells (by omega)
      obtain ⟨u1, hu1, hs1⟩ := hat1 j hlt
      obtain ⟨u2, hu2, hs2⟩ := hat2 j hlt
      have hu1' := bcell hb hu1 (blt hu1)
      have hu2' := bcell hb hu2 (blt hu2)
      have hc1 : ∀ m, (convert 22 9 u1).run Try.prog (wr.drewN m) = .ok (.string ⟨(L.getD j []).toArray⟩) (wr.drewN m) := fun m => conv_run ((hs1.at' hb (Nat.le_refl _)).drewN m)
      have hc2 : ∀ m, (convert 22 9 u2).run Try.prog (wr.drewN m) = .ok (.string ⟨(L.getD j []).toArray⟩) (wr.drewN m) := fun m => conv_run ((hs2.at' hb (Nat.le_refl _)).drewN m)
      have hjI : (j : Int) < (L.length : Int) := by omega
      clear hat1 hat2 hu1 hu2 hs1 hs2
      generalize L.getD j [] = q at *
      go_wp2_with fail
      go_quiet (fail)
      clear hc1 hc2
      go_wp2_with fail
      exact ⟨⟨j + 1, by omega, by go_num, hb.trans ((drewN_below _ nq).mono hb.size)⟩, by simp [intOf]; omega⟩
    · obtain rfl : j = L.length := by omega
      go_wp2_with fail
      go_ret
      exact ⟨rfl, hb⟩
theorem BOs.lit0 (w : World) : BOs (w.alloc (.cells #[] 22)) w.heap.size (.slice (some { block := w.heap.size, off := 0 }) 0 0) [] := ⟨[], Own1.lit w 22 [], rfl, fun i hi => by simp at hi⟩
theorem scF_nil (f : Nat) (l : List UInt8) (h : l.length = 0) : scF f l = ([], 0, 0) := by
  cases f with
  | zero => rfl
  | succ f => show (if l.length = 0 then _ else _) = _; rw [if_pos h]
theorem refScan_any (v : Value) (l : List UInt8) (w : World) (h : Sh w v l) (hl : l.length ≤ 1000000000) :
    Calls Try.prog 20 #[v] w fun e w' => ∃ v', e = .returned (.tuple #[v', .int .i64 ((scF (l.length + 1) l).2.1 : Int), .int .i64 ((scF (l.length + 1) l).2.2 : Int)]) ∧ Bss w' v' (scF (l.length + 1) l).1 ∧ Below w.heap.size w w' := by
  obtain ⟨a, cap, rfl, g1, g2, g3, g4⟩ := h.open
  have H := Lib.hid g4
  clear h g3 g4
  generalize hS : scF (l.length + 1) l = S at *
  have HS := Lib.hid hS
  clear hS
  go_enter Try.func20, Try.ntmps20
  go_wp2_with fail
  go_loopw [5, 6] (fun o at' wr => ∃ (acc : List (List UInt8)) (kk f : Nat), kk ≤ l.length ∧ at' = .int .i64 (kk : Int) ∧ BOs wr w.heap.size o acc ∧ acc.length ≤ kk ∧ Below w.heap.size w wr ∧ l.length - kk < f ∧ S = (acc ++ (scF f (l.drop kk)).1, kk + (scF f (l.drop kk)).2.1, (scF f (l.drop kk)).2.2)) (fun _ r _ => l.length - (intOf r).toNat)
  case atStart => exact ⟨[], 0, l.length + 1, by omega, rfl, BOs.lit0 _, by simp, balloc (Below.refl _ _) _, by omega, by rw [← HS.out]; simp⟩
  case round =>
    obtain ⟨acc, kk, f, hk, rfl, ho, hal, hb, hf, hSS⟩ := hrel
    obtain ⟨f, rfl⟩ : ∃ f', f = f' + 1 := ⟨f - 1, by omega⟩
    by_cases hq0 : kk = l.length
    · have hl0 : (l.drop kk).length = 0 := by simp [hq0]
      rw [scF_nil _ _ hl0] at hSS
      have E1 := Lib.hid (show S.2.1 = l.length by rw [hSS]; simp [hq0])
      have E2 := Lib.hid (show S.2.2 = 0 by rw [hSS])
      have E3 := Lib.hid (show S.1 = acc by rw [hSS]; simp)
      have HO := Lib.hid ho
      have HB := Lib.hid hb
      clear hSS ho hb hal hf hl0
      subst hq0
      go_wp2_with fail
      go_ret3
      rw [E1.out, E2.out, E3.out]
      exact ⟨_, rfl, HO.out.bss, HB.out⟩
    · have hkl : kk < l.length := by omega
      have hql : (l.drop kk).length = l.length - kk := List.length_drop
      have hft := tkF_facts (l.drop kk)
      have hdd (t : Nat) : (l.drop kk).drop t = l.drop (kk + t) := by rw [List.drop_drop]
      have HDD := Lib.hid hdd
      have HFT := Lib.hid hft
      have hun : scF (f + 1) (l.drop kk) = if (l.drop kk).length = 0 then ([], 0, 0) else if (tkF (l.drop kk)).2.2 ≠ 0 then ([], 0, (tkF (l.drop kk)).2.2) else ((tkF (l.drop kk)).1 :: (scF f ((l.drop kk).drop (tkF (l.drop kk)).2.1)).1, (tkF (l.drop kk)).2.1 + (scF f ((l.drop kk).drop (tkF (l.drop kk)).2.1)).2.1, (scF f ((l.drop kk).drop (tkF (l.drop kk)).2.1)).2.2) := rfl
      rw [hun, if_neg (by omega)] at hSS
      have hsl := H.out.drop kk (by omega)
      rw [if_neg (show cap ≠ kk by omega)] at hsl
      have hck : cap ≠ kk := by omega
      have HR := Lib.hid hsl
      have HO := Lib.hid ho
      have HB := Lib.hid hb
      clear ho hb hun hft hdd hsl
      generalize hq : l.drop kk = q at *
      have HQ := Lib.hid hq
      clear hq
      have hsz := HB.out.size
      have HQL := Lib.hid hql
      have HAL := Lib.hid hal
      have HFu := Lib.hid hf
      have HSS := Lib.hid hSS
      have HHQ := Lib.hid hq0
      have hkI : (kk : Int) < (l.length : Int) := by omega
      have hkC : (kk : Int) ≤ (cap : Int) := by omega
      clear hal hf hql hSS hq0
      by_cases he : (tkF q).2.2 = 0
      · have HF2 := Lib.hid (HFT.out he)
        have HT := Lib.hid (show ((tkF q).2.2 : Int) = 0 by rw [he]; rfl)
        go_wp2_with (first
          | (go_at_call 19; refine (refTakef_any _ q _ (HR.out.at' HB.out (Nat.le_refl _))).mono ?_; rw [HT.out]; rintro e w1 ⟨v7, rfl, ho7, hb1⟩; have s1 := hb1.size; obtain ⟨y9, c9, rfl, -⟩ := ho7.sh.open)
          | (at_builtin; go_loud (refine app_bss rfl (.tmp 28) (.tmp 30) rfl rfl ((HO.out.below hb1).below (balloc (Below.refl _ _) _)) rfl (Own1.lit _ 22 [_]).shows ((ho7.mono (Nat.zero_le _)).alloc _) rfl (by have := HAL.out; omega) (by simp; omega) ?_; intro v10 w3 ho10 hb3; have s3 := hb3.size)))
        have hne := HSS.out
        rw [if_neg (show ¬ (tkF q).2.2 ≠ 0 from fun h => h he), HDD.out] at hne
        have hf2 := HF2.out
        have hqq := HQL.out
        have hfu := HFu.out
        have hal := HAL.out
        have hwr : wrap64 ((kk : Int) + ((tkF q).2.1 : Int)) = ((kk + (tkF q).2.1 : Nat) : Int) := by rw [IntWalk.wrap64_in _ ⟨by omega, by omega⟩]; simp
        rw [hwr]
        clear hwr
        refine ⟨⟨acc ++ [(tkF q).1], kk + (tkF q).2.1, f, by omega, rfl, ho10, by simp; omega, ?_, by omega, ?_⟩, ?_⟩
        · exact ((bthen HB.out hb1 (Nat.le_refl _)).alloc (by omega) _).trans hb3
        · rw [hne]; simp [Nat.add_assoc]
        · simp [intOf]; omega
      · have heI : ((tkF q).2.2 : Int) != 0 := by rw [bne_iff_ne]; omega
        have hSS2 := HSS.out
        rw [if_pos (show (tkF q).2.2 ≠ 0 from he)] at hSS2
        have E1 := Lib.hid (show S.2.1 = kk by rw [hSS2]; simp)
        have E2 := Lib.hid (show S.2.2 = (tkF q).2.2 by rw [hSS2])
        have E3 := Lib.hid (show S.1 = acc by rw [hSS2]; simp)
        clear hSS2 HSS
        go_wp2_with (go_at_call 19; refine (refTakef_any _ q _ (HR.out.at' HB.out (Nat.le_refl _))).mono ?_; rintro e w1 ⟨v7, rfl, ho7, hb1⟩)
        go_ret3
        rw [E1.out, E2.out, E3.out]
        exact ⟨_, rfl, (HO.out.below hb1).bss, bthen HB.out hb1 (Nat.le_refl _)⟩
end Go.Proofs.Ytadmjhlcdoghpab
