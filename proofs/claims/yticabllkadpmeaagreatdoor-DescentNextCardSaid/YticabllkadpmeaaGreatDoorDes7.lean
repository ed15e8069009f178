/- Package descent: Diff, of a tree of one item against none. -/
import Derived.Test.YticabllkadpmeaaGreatDoorDes1
import Derived.Test.YticabllkadpmeaaGreatDoorQue
import Derived.Test.YticabllkadpmeaaGreatDoorDes5
import Derived.Test.YticabllkadpmeaaGreatDoorDes6
import Derived.Test.YticabllkadpmeaaGreatDoorSrt
--DEV
namespace Go.Proofs.YticabllkadpmeaaGreatDoor
set_option linter.unusedVariables false
set_option linter.unusedSimpArgs false
set_option linter.unnecessarySimpa false
open Go.RowKit
open Tre (It)
set_option maxRecDepth 100000
set_option maxHeartbeats 8000000

theorem next_s : ∀ k, k < 2 → nextL (belowAt [sIt] (List.replicate k 0)) (belowAt [] (List.replicate k 0)) (List.replicate k 0) 4 = [List.replicate (k + 1) 0] := by
  intro k hk
  rcases (show k = 0 ∨ k = 1 by omega) with rfl | rfl <;> decide +kernel
theorem leaf_s : Tre.leafItems [sIt] 0 = [sIt] := by
  have h : (Tre.slot sIt.nm == 0) = true := by decide +kernel
  simp only [Tre.leafItems, List.filter_cons, h, if_true, List.filter_nil]
/-- What the loop keeps. -/
def DiffR (w0 : World) (z : It) (av ov wv : Value) (wr : World) : Prop :=
  Below w0.heap.size w0 wr ∧ ((∃ k n : Nat, k ≤ 2 ∧ n = 1 + 4 * k ∧ av = .int .i64 n ∧ ov = .slice none 0 0 ∧ Que wr w0.heap.size wv [List.replicate k 0]) ∨
    (av = .int .i64 9 ∧ OwnS wr w0.heap.size ov [z.name] ∧ ∃ a c, wv = .slice a 0 c))
def lenOf' : Value → Nat
  | .slice _ n _ => n
  | _ => 0
theorem compact_one (a : Option Addr) (c : Nat) (w : World) : Calls Tryz.prog 40 #[.slice a 1 c] w fun e w' => e = .returned (.slice a 1 c) ∧ w = w' := by
  go_enter Tryz.func40, Tryz.ntmps40
  go_wp2_with fail
  go_ret
  exact ⟨rfl, rfl⟩
theorem diff_s (w : World) (B b : Nat) (T : TS) (z : It) (hz : z = sIt) (hg : Glob w) (ht : Tr w B b T) (hi : IsT T [z]) :
    Calls Tryz.prog 19 #[.pointer (some ⟨b, 0, none⟩), .pointer none] w fun e w' => ∃ v', e = .returned (.tuple #[v', .int .i64 9]) ∧ OwnS w' w.heap.size v' [z.name] ∧ Below w.heap.size w w' := by
  have HG := Lib.hid hg
  have HT := Lib.hid ht
  have HI := Lib.hid hi
  have HZO : Hid (ItS z) := by rw [hz]; exact sIt_ok
  have HLF : Hid (Tre.leafItems [z] 0 = [z]) := by rw [hz]; exact leaf_s
  have HNX : Hid (∀ k, k < 2 → nextL (belowAt [z] (List.replicate k 0)) (belowAt [] (List.replicate k 0)) (List.replicate k 0) 4 = [List.replicate (k + 1) 0]) := by rw [hz]; exact next_s
  have ha0 : Hid ((Tre.sumAt [] []).length = 32) := sumAt_length _ _
  have ha1 : Hid ((Tre.sumAt [z] []).length = 32) := sumAt_length _ _
  have hne0 : (Tre.sumAt [z] [] == Tre.sumAt [] []) = false := by
    have h0 := eq_of_beq root_nil
    have h1 := root_s
    rw [← h0] at h1
    rw [hz]; exact h1
  obtain ⟨s0, hs0⟩ : ∃ s0, Tre.sumAt [] [] = s0 := ⟨_, rfl⟩
  obtain ⟨s1, hs1⟩ : ∃ s1, Tre.sumAt [z] [] = s1 := ⟨_, rfl⟩
  rw [hs0, hs1] at hne0
  have HNE := Lib.hid hne0
  rw [hs0] at ha0
  rw [hs1] at ha1
  have HS0 := Lib.hid hs0
  have HS1 := Lib.hid hs1
  clear hg ht hi hz hs0 hs1 hne0
  go_enter Tryz.func19, Tryz.ntmps19
  go_upto_region 4 with (first
    | (go_at_call 12; refine (some_some _ b).mono ?_; rintro e w1 ⟨rfl, hw1⟩; subst hw1)
    | (go_at_call 12; (refine (some_none _ HG.out).mono ?_; rintro e w1 ⟨T1, rfl, ht1, hi1, hn1, hb1⟩; have T1' := Lib.hid ht1; have I1 := Lib.hid hi1; have B1 := Lib.hid hb1; have T1a := Lib.hid (HT.out.below hb1 (Nat.le_refl _)); have hw1 := hb1.size; clear ht1 hi1 hn1 hb1))
    | (go_at_call 36; refine (Sum_good _ _ _ T [z] (.slice none 0 0) [] T1a.out HI.out (Shows.nil _ _) rfl).mono ?_; rw [HS1.out]; rintro e w2 ⟨rfl, hb2⟩; obtain ⟨hz2, W3, hW3, hr3, hb3⟩ := boxS w2 s1 ha1.out; have hw2 := hb2.size; have HZ2 := Lib.hid hz2; have R3 := Lib.hid hr3; have B3 := Lib.hid (hb2.trans (hb3.mono hw2)); clear hb2 hr3 hb3 hz2)
    | (with_reducible refine store_sum rfl (.tmp 7) (.tmp 27) rfl w2.heap.size rfl s1 rfl ha1.out 36 Tre0 HZ2.out rfl ?_))
  try rw [hW3]
  clear hW3
  have T3 := Lib.hid (T1'.out.below B3.out (Nat.le_refl _))
  have T3a := Lib.hid (T1a.out.below B3.out (Nat.le_refl _))
  have hw3 := B3.out.size
  have hw23 := R3.out.lt
  go_upto_region 5 with (first
    | (go_at_call 36; refine (Sum_good _ _ _ T1 [] (.slice none 0 0) [] T3.out I1.out (Shows.nil _ _) rfl).mono ?_; rw [HS0.out]; rintro e w5 ⟨rfl, hb5⟩; obtain ⟨hz5, W6, hW6, hr6, hb6⟩ := boxS w5 s0 ha0.out; have hw5 := hb5.size; have HZ5 := Lib.hid hz5; have R6 := Lib.hid hr6; have B6 := Lib.hid (hb5.trans (hb6.mono hw5)); clear hb5 hr6 hb6 hz5)
    | (with_reducible refine store_sum rfl (.tmp 9) (.tmp 32) rfl w5.heap.size rfl s0 rfl ha0.out 36 Tre0 HZ5.out rfl ?_))
  try rw [hW6]
  clear hW6
  have R36 := Lib.hid (R3.out.below B6.out R3.out.lt)
  have hra : Hid (W6.rangeAt w2.heap.size 0 (bytes s1)) := fun k v hv => by rw [Nat.zero_add, R36.out.cell]; exact hv
  have hrb : Hid (W6.rangeAt w5.heap.size 0 (bytes s0)) := fun k v hv => by rw [Nat.zero_add, R6.out.cell]; exact hv
  have T6 := Lib.hid (T3.out.below B6.out (Nat.le_refl _))
  have T6a := Lib.hid (T3a.out.below B6.out (Nat.le_refl _))
  have hw6 := B6.out.size
  have BW6 := Lib.hid (B1.out.trans (B3.out.mono hw1) |>.trans (B6.out.mono (by omega)))
  go_upto_region 8 with (first
    | (with_reducible refine load_sum_g (by with_unfolding_all rfl) (.tmp 7) rfl w2.heap.size 0 rfl s1 ha1.out hra.out ?_)
    | (with_reducible refine load_sum_g (by with_unfolding_all rfl) (.tmp 9) rfl w5.heap.size 0 rfl s0 ha0.out hrb.out ?_)
    | (refine eql_sum_g (by with_unfolding_all rfl) (.tmp 34) (.tmp 35) rfl s1 s0 rfl rfl ha1.out ha0.out _ HNE.out ?_))
  have QS := Lib.hid (Que.start W6)
  have BL0 : Hid (Below W6.heap.size W6 (W6.alloc (.cells #[.slice none 0 0] 23))) := (Below.refl _ _).alloc (Nat.le_refl _) _
  go_wp2_with fail
  go_loopw [6, 11, 12] (fun av ov wv wr => DiffR W6 z av ov wv wr) (fun av _ wv _ => (9 - intOf av).toNat + lenOf' wv)
  case atStart => exact ⟨BL0.out, .inl ⟨0, 1, by omega, rfl, rfl, rfl, QS.out⟩⟩
  case round =>
    obtain ⟨hb, hR⟩ := hrel
    have BR := Lib.hid hb
    have hwr := hb.size
    clear hb QS BL0
    have TR := Lib.hid (T6.out.below BR.out (Nat.le_refl _))
    have TRa := Lib.hid (T6a.out.below BR.out (Nat.le_refl _))
    rcases hR with ⟨k, n, hk, hn, rfl, rfl, hq⟩ | ⟨rfl, ho, wa, wc, rfl⟩
    · obtain ⟨P, hP⟩ : ∃ P, List.replicate k (0 : Int) = P := ⟨_, rfl⟩
      rw [hP] at hq
      obtain ⟨g, o, c, hv, hc1, hc2⟩ := hq.len
      simp only [List.length_cons, List.length_nil, Nat.zero_add] at hv hc1
      subst hv
      obtain ⟨g', o', u, he, hcell, hu⟩ := hq.head
      simp only [Option.some.injEq, Addr.mk.injEq, and_true] at he
      obtain ⟨rfl, rfl⟩ := he
      obtain ⟨ua, uc, rfl, -, -, -, hu2⟩ := hu.ns.open
      have HQ := Lib.hid hq
      have HU := Lib.hid hu2
      by_cases hk2 : k < 2
      · have HNXk := Lib.hid (HNX.out k hk2)
        have HGP : Hid (goodP P = true) := by
          rw [← hP]
          rcases (show k = 0 ∨ k = 1 by omega) with rfl | rfl <;> rfl
        have hPL : P.length < 2 := by rw [← hP, List.length_replicate]; exact hk2
        have HD1 : Hid (decide (P.length < 2) = true) := by show _ = _; simp; omega
        have HX4 : Hid ((belowAt [] P).length = 4) := belowAt_length hPL
        have HX3 := Lib.hid (belowAt_32 [] P)
        have HN := Lib.hid hn
        have hn5 : n ≤ 5 := by omega
        have HP := Lib.hid hP
        rw [hP] at HNXk
        have HPL := Lib.hid hPL
        have HK := Lib.hid hk2
        clear hn hP hk hk2 hq hu hu2 hPL
        go_upto_region 13 with (go_at_call 22; refine (Below_good _ _ _ T1 [] _ P TR.out I1.out HU.out HGP.out).mono ?_; rw [HD1.out]; rintro e w7 ⟨v7, rfl, hs7, hb7⟩; obtain ⟨x7, c7, hv7, -, -, -, hs7'⟩ := hs7.open; subst hv7; have S7 := Lib.hid hs7'; have B7 := Lib.hid hb7; clear hs7 hs7' hb7)
        rw [HX4.out] at S7 ⊢
        generalize belowAt [] P = S at *
        have TRb := Lib.hid (TRa.out.below B7.out (Nat.le_refl _))
        have HU7 := Lib.hid (HU.out.below B7.out)
        go_wp2_with (first
          | (go_at_call 11; refine (next_any _ B b T [z] _ _ P S TRb.out HI.out HU7.out HGP.out HPL.out S7.out HX3.out HX4.out).mono ?_; rw [HNXk.out]; rintro e w8 ⟨v8, rfl, hp8, hb8⟩; obtain ⟨a8, c8, hv8⟩ := hp8.len; subst hv8; have P8 := Lib.hid hp8; have B8 := Lib.hid (B7.out.trans (hb8.mono B7.out.size)); have HQ8 := Lib.hid (HQ.out.cel (Cel.of_below B8.out)); have hw8 := B8.out.size; clear hp8 hb8)
          | (at_builtin; refine app_que (base := W6.heap.size) (Ps := [P]) (Qs := [List.replicate (k + 1) 0]) rfl (.tmp 58) (.tmp 62) rfl rfl HQ8.out rfl P8.out (by simp) (by omega) ?_; intro v9 w9 ho9 hb9 hk9; obtain ⟨g9, o9, c9, hv9, hc9, hc9'⟩ := ho9.len; simp only [List.cons_append, List.nil_append, List.length_cons, List.length_nil, Nat.zero_add, Nat.reduceAdd] at hv9 hc9; subst hv9; have Q9 := Lib.hid ho9; have B9 := Lib.hid hb9; clear ho9 hb9 hk9))
        have hk := HK.out
        have hn := HN.out
        refine ⟨⟨(BR.out.trans (B8.out.mono hwr)).trans B9.out, .inl ⟨k + 1, n + 4, by omega, by omega, by go_num, rfl, ?_⟩⟩, ?_⟩
        · exact Q9.out.cut (by rw [if_neg (by omega)]; simp [Addr.add_lit])
        · simp only [intOf, lenOf']
          omega
      · have hk2' : k = 2 := by omega
        subst hk2'
        have hP2 : P = [((0 : Nat) : Int), ((0 : Nat) : Int)] := hP.symm
        subst hP2
        subst hn
        have HPL : Hid (Its wr (.slice none 0 0) []) := Its.nil _
        have HLA : Hid (T.L.getD 0 [] = [z]) := by have := HI.out.l 0 (by decide); rw [HLF.out] at this; exact this
        have HLB : Hid (T1.L.getD 0 [] = []) := I1.out.l 0 (by decide)
        simp only [List.length_cons, List.length_nil, Nat.zero_add, Nat.reduceAdd] at hcell hu2
        have HU := Lib.hid hu2
        clear hP hk hq hu hk2 hu2
        go_upto_region 17 with (first
          | (go_at_call 22; refine (Below_2 _ _ _ T1 _ 0 0 (by decide) (by decide) TR.out HU.out).mono ?_; rintro e w7 ⟨v7, rfl, hs7, hb7⟩; obtain ⟨x7, c7, hv7, -, -, -, hs7'⟩ := hs7.open; subst hv7; have B7 := Lib.hid hb7; have U7 := Lib.hid (HU.out.below hb7); have TRa7 := Lib.hid (TRa.out.below hb7 (Nat.le_refl _)); have TR7 := Lib.hid (TR.out.below hb7 (Nat.le_refl _)); have hw7 := hb7.size; clear hs7 hs7' hb7)
          | (go_at_call 37; refine (Items_2 _ B b T _ 0 0 (by decide) (by decide) TRa7.out U7.out).mono ?_; rw [show 4 * 0 + 0 = 0 from rfl, HLA.out]; rintro e w8 ⟨v8, rfl, hs8, hb8⟩; obtain ⟨x8, c8, hv8, -, -, -, hs8'⟩ := hs8.open; subst hv8; have S8 := Lib.hid (show Its w8 (.slice x8 1 c8) [z] from hs8'); have B8 := Lib.hid (B7.out.trans (hb8.mono hw7)); have U8 := Lib.hid (U7.out.below hb8); have TR8 := Lib.hid (TR7.out.below hb8 (Nat.le_refl _)); have hw8 := hb8.size; clear hs8 hs8' hb8))
        go_upto_region 18 with (go_at_call 37; refine (Items_2 _ _ _ T1 _ 0 0 (by decide) (by decide) TR8.out U8.out).mono ?_; rw [show 4 * 0 + 0 = 0 from rfl, HLB.out]; rintro e w9 ⟨v9, rfl, hs9, hb9⟩; obtain ⟨x9, c9, hv9, -, -, -, hs9'⟩ := hs9.open; subst hv9; have S9 := Lib.hid (show Its w9 (.slice x9 0 c9) [] from hs9'); have B9 := Lib.hid (B8.out.trans (hb9.mono (by omega))); have S8' := Lib.hid (S8.out.below hb9); have hw9 := B9.out.size; clear hs9 hs9' hb9)
        go_wp2_with (first
          | (go_at_call 38; refine (unlike_one _ x9 c9 z _ S8'.out HZO.out.1 S9.out).mono ?_; rintro e wa ⟨va, rfl, hoa, hba⟩; obtain ⟨pa, ca, hva, -, -, -, hsa⟩ := hoa.shS.open; subst hva; have OA := Lib.hid hoa; have BA := Lib.hid (B9.out.trans (hba.mono hw9)); have hwa := BA.out.size; clear hoa hba hsa)
          | (at_builtin; refine app_one (base := W6.heap.size) (l := []) (m := [.string z.name]) Tryz.underlying50 info_str6 rfl rfl (.tmp 76) (.tmp 79) rfl rfl (World.ownsRow_nil _ _ _ _) rfl (Shows.of_own OA.out) (by intro q hq; simp at hq; subst hq; rfl) (by simp) (by simp) (by omega) ?_; intro vb wb hob hbb; have OB := Lib.hid hob; have BB := Lib.hid hbb; clear hob hbb))
        exact ⟨⟨(BR.out.trans (BA.out.mono hwr)).trans BB.out, .inr ⟨by go_num, OB.out, _, _, rfl⟩⟩, by simp [intOf, lenOf']⟩
    · obtain ⟨pa, ca, hva, -, -, -, hsa⟩ := ho.shS.open
      rw [strs_length] at hva
      simp only [List.length_cons, List.length_nil, Nat.zero_add] at hva
      subst hva
      have HO := Lib.hid ho
      clear ho hsa
      go_wp2_with (first
        | (go_at_call 39; refine (sort_own _ W6.heap.size _ [z.name] [z.name] HO.out hwr (by simp) (by simp)).mono ?_; rintro e w7 ⟨rfl, ho7, hb7, -⟩; have O7 := Lib.hid ho7; have B7 := Lib.hid (BR.out.trans hb7); clear ho7 hb7)
        | (go_at_call 40; refine (compact_one pa ca _).mono ?_; rintro e w8 ⟨rfl, hw8⟩; subst hw8))
      go_ret2
      exact ⟨_, rfl, own_mono O7.out BW6.out.size, BW6.out.trans (B7.out.mono BW6.out.size)⟩
theorem diff_nil (w : World) (hg : Glob w) :
    Calls Tryz.prog 19 #[.pointer none, .pointer none] w fun e w' => e = .returned (.tuple #[.slice none 0 0, .int .i64 1]) ∧ Below w.heap.size w w' := by
  have HG := Lib.hid hg
  have hz3 := hg.1
  have ha0 : Hid ((Tre.sumAt [] []).length = 32) := sumAt_length _ _
  obtain ⟨s0, hs0⟩ : ∃ s0, Tre.sumAt [] [] = s0 := ⟨_, rfl⟩
  rw [hs0] at ha0
  have HS0 := Lib.hid hs0
  have HNE : Hid ((s0 == s0) = true) := by show _ = _; simp
  clear hg hs0
  go_enter Tryz.func19, Tryz.ntmps19
  go_upto_region 4 with (first
    | (go_at_call 12; refine (some_none w HG.out).mono ?_; rintro e w1 ⟨T1, rfl, ht1, hi1, hn1, hb1⟩; have T1' := Lib.hid ht1; have I1 := Lib.hid hi1; have B1 := Lib.hid hb1; have G1 := Lib.hid (Glob.below HG.out hb1 hz3); have hw1 := hb1.size; clear ht1 hi1 hn1 hb1)
    | (go_at_call 12; refine (some_none w1 G1.out).mono ?_; rintro e w2 ⟨T2, rfl, ht2, hi2, hn2, hb2⟩; have T2' := Lib.hid ht2; have I2 := Lib.hid hi2; have B2 := Lib.hid (B1.out.trans (hb2.mono hw1)); have T1a := Lib.hid (T1'.out.below hb2 (Nat.le_refl _)); have hw2 := hb2.size; clear ht2 hi2 hn2 hb2)
    | (go_at_call 36; refine (Sum_good _ _ _ T1 [] (.slice none 0 0) [] T1a.out I1.out (Shows.nil _ _) rfl).mono ?_; rw [HS0.out]; rintro e w3 ⟨rfl, hb3⟩; obtain ⟨hz3', W4, hW4, hr4, hb4⟩ := boxS w3 s0 ha0.out; have hw3 := hb3.size; have HZ3 := Lib.hid hz3'; have R4 := Lib.hid hr4; have B4 := Lib.hid (hb3.trans (hb4.mono hw3)); clear hb3 hr4 hb4 hz3')
    | (with_reducible refine store_sum rfl (.tmp 7) (.tmp 27) rfl w3.heap.size rfl s0 rfl ha0.out 36 Tre0 HZ3.out rfl ?_))
  try rw [hW4]
  clear hW4
  have T4 := Lib.hid (T2'.out.below B4.out (Nat.le_refl _))
  have hw4 := B4.out.size
  go_upto_region 5 with (first
    | (go_at_call 36; refine (Sum_good _ _ _ T2 [] (.slice none 0 0) [] T4.out I2.out (Shows.nil _ _) rfl).mono ?_; rw [HS0.out]; rintro e w5 ⟨rfl, hb5⟩; obtain ⟨hz5, W6, hW6, hr6, hb6⟩ := boxS w5 s0 ha0.out; have hw5 := hb5.size; have HZ5 := Lib.hid hz5; have R6 := Lib.hid hr6; have B6 := Lib.hid (hb5.trans (hb6.mono hw5)); clear hb5 hr6 hb6 hz5)
    | (with_reducible refine store_sum rfl (.tmp 9) (.tmp 32) rfl w5.heap.size rfl s0 rfl ha0.out 36 Tre0 HZ5.out rfl ?_))
  try rw [hW6]
  clear hW6
  have R46 := Lib.hid (R4.out.below B6.out R4.out.lt)
  have hra : Hid (W6.rangeAt w3.heap.size 0 (bytes s0)) := fun k v hv => by rw [Nat.zero_add, R46.out.cell]; exact hv
  have hrb : Hid (W6.rangeAt w5.heap.size 0 (bytes s0)) := fun k v hv => by rw [Nat.zero_add, R6.out.cell]; exact hv
  have BW6 := Lib.hid (B2.out.trans (B4.out.mono (by omega)) |>.trans (B6.out.mono (by omega)))
  go_wp2_with (first
    | (with_reducible refine load_sum_g (by with_unfolding_all rfl) (.tmp 7) rfl w3.heap.size 0 rfl s0 ha0.out hra.out ?_)
    | (with_reducible refine load_sum_g (by with_unfolding_all rfl) (.tmp 9) rfl w5.heap.size 0 rfl s0 ha0.out hrb.out ?_)
    | (refine eql_sum_g (by with_unfolding_all rfl) (.tmp 34) (.tmp 35) rfl s0 s0 rfl rfl ha0.out ha0.out _ HNE.out ?_))
  go_ret2
  exact ⟨rfl, BW6.out⟩
end Go.Proofs.YticabllkadpmeaaGreatDoor
