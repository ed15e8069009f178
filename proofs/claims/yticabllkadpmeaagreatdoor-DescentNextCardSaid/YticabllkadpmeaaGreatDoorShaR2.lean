/- The document's SHA-256 (package ref03): Sum. -/
import Derived.Test.YticabllkadpmeaaGreatDoorShaR4
namespace Go.Proofs.YticabllkadpmeaaGreatDoor
set_option linter.unusedVariables false
set_option linter.unusedSimpArgs false
set_option linter.unnecessarySimpa false
open Go.RowKit
set_option maxRecDepth 100000
set_option maxHeartbeats 40000000

theorem rsum_any (v : Value) (b : List UInt8) (w : World) (hs : Sh w v b) (hsz : b.length ≤ 100000000000000) :
    Calls Tryz.prog 69 #[v] w fun e w' => e = .returned (sumV (Sha.sum b)) ∧ Below w.heap.size w w' := by
  obtain ⟨xa, ca, rfl, hc1, hc2, -, -⟩ := hs.open
  have HS := Lib.hid hs
  have HSZ := Lib.hid hsz
  clear hs hsz
  go_enter Tryz.func69, Tryz.ntmps69
  go_upto_region 1 with fail
  obtain ⟨W1, hW1, HA, HB1, HZ1⟩ := pre32 w
  rw [hW1]
  clear hW1
  have hwl : w.heap.size < W1.heap.size := HA.out.lt
  go_wp2_with (first
    | (go_at_call 90; refine (rwords_any _).mono ?_; rintro e w2 ⟨rfl, hr2, hb2⟩; have S2 := Lib.hid hr2; have B2 := Lib.hid hb2; have hl2 := hr2.lt; clear hr2 hb2)
    | (go_at_call 91; refine (rroots_any _).mono ?_; rintro e w3 ⟨rfl, hr3, hb3⟩; have K3 := Lib.hid hr3; have B3 := Lib.hid hb3; have hl3 := hr3.lt; have S3 := Lib.hid (Row.keep S2.out hb3); have HS3 := Lib.hid (HS.out.below ((HB1.out.trans (B2.out.mono (Nat.le_of_lt hwl))).trans (hb3.mono (by omega)))); have A3 := Lib.hid (Row.keep (Row.keep HA.out B2.out) hb3); have hb30 := Lib.hid ((HB1.out.trans (B2.out.mono (Nat.le_of_lt hwl))).trans (hb3.mono (by omega))); clear hr3 hb3)
    | (at_builtin; refine app_bytes (base := w3.heap.size) Tryz.underlying64 info_byte rfl (.tmp 24) (.tmp 25) rfl (l := []) rfl (Own.lit w3 5 []) rfl (HS3.out.below ((Below.refl _ _).alloc (Nat.le_refl _) _)) (by have := HSZ.out; simp; omega) (by simp) ?_; intro v4 w4 ho4 hb4; rw [List.nil_append] at ho4)
    | (at_builtin; refine app_bytes (base := w3.heap.size) Tryz.underlying64 info_byte rfl (.tmp 26) (.tmp 27) rfl rfl (ho4.alloc _) rfl (sh1 (e := 5) (a := 128) (by decide)) (by have := HSZ.out; simp; omega) (by have := hb4.size; simp at this; simp; omega) ?_; intro v5 w5 ho5 hb5))
  have hsb : W1.heap.size < w2.heap.size := hl2
  have hkb : w2.heap.size < w3.heap.size := hl3
  have hb5' : Below w3.heap.size w3 w5 := ((((Below.refl _ _).alloc (Nat.le_refl _) _).trans hb4).alloc (by have := hb4.size; simp at this; omega) _).trans hb5
  have HO5 := Lib.hid ho5
  have HB5 := Lib.hid hb5'
  clear hb4 hb5 ho4 ho5 hb5' S2 B2 B3 HA HB1 HZ1
  generalize W1.heap.size = sb at *
  generalize w2.heap.size = kb at *
  obtain ⟨D1, hD1⟩ : ∃ D1, b ++ [ofI 128] = D1 := ⟨_, rfl⟩
  rw [hD1] at HO5
  obtain ⟨x5, k5, hv5, -, -, -, -⟩ := HO5.out.sh.open
  subst hv5
  have hD1l : D1.length = b.length + 1 := by rw [← hD1]; simp
  have HD1 := Lib.hid hD1
  have HD1L := Lib.hid hD1l
  clear hD1 hD1l
  go_loopw [5] (fun mv wr => ∃ i : Nat, i ≤ Sha.zeros b.length ∧ Own wr w3.heap.size 5 mv (D1 ++ List.replicate i 0) ∧ Below w3.heap.size w3 wr) (fun mv _ => (120 - (match mv with | .slice _ n _ => n | _ => 0) % 64) % 64)
  case atStart => exact ⟨0, Nat.zero_le _, by simpa using HO5.out, HB5.out⟩
  case round =>
    clear HO5 HB5
    obtain ⟨i, hi, o0, b0⟩ := hrel
    have hdn : D1 ++ List.replicate (i + 1) 0 = (D1 ++ List.replicate i 0) ++ [0] := by rw [List.append_assoc, List.replicate_succ']
    have hdl : (D1 ++ List.replicate i (0 : UInt8)).length = b.length + 1 + i := by rw [List.length_append, HD1L.out]; simp
    obtain ⟨D, hD⟩ : ∃ D, D1 ++ List.replicate i (0 : UInt8) = D := ⟨_, rfl⟩
    rw [hD] at hdn hdl o0
    have HDD := Lib.hid hD
    obtain ⟨x, c, rfl, -, -, -, -⟩ := o0.sh.open
    have O0 := Lib.hid o0
    have B0 := Lib.hid b0
    have HDN := Lib.hid hdn
    have HDL := Lib.hid hdl
    have HI := Lib.hid hi
    clear o0 b0 hdn hdl hD hi
    have hz : Sha.zeros b.length ≤ 63 := by unfold Sha.zeros; omega
    by_cases hlt : i < Sha.zeros b.length
    · have hne : ¬ D.length % 64 = 56 := by have := HDL.out; unfold Sha.zeros at hlt; omega
      have hcnd : ((D.length : Int) % 64 != 56) = true := by rw [bne_iff_ne]; omega
      have hw0 := B0.out.size
      clear hne
      go_wp2_with (at_builtin; refine app_bytes (base := w3.heap.size) Tryz.underlying64 info_byte rfl (.tmp 33) (.tmp 34) rfl rfl (O0.out.alloc _) rfl (sh1 (e := 5) (a := 0) (by decide)) (by have := HDL.out; have := HSZ.out; simp; omega) (by simp; omega) ?_; intro v2 w2 ho2 hb2; rw [show D ++ [ofI 0] = D ++ [0] from rfl, ← HDN.out] at ho2)
      obtain ⟨x2, k2, hv2, -, -, -, -⟩ := ho2.sh.open
      refine ⟨⟨i + 1, hlt, ho2, (B0.out.alloc hw0 _).trans hb2⟩, ?_⟩
      rw [hv2, HDN.out]
      have := HDL.out
      have h1 : (D ++ [0]).length = D.length + 1 := by simp
      show (120 - (D ++ [0]).length % 64) % 64 < (120 - D.length % 64) % 64
      rw [h1]
      unfold Sha.zeros at hlt
      omega
    · have hiz : i = Sha.zeros b.length := by have := HI.out; omega
      have he : D.length % 64 = 56 := by have h1 := HDL.out; rw [hiz] at h1; unfold Sha.zeros at h1; omega
      have hcnd : ((D.length : Int) % 64 != 56) = false := by rw [bne_eq_false_iff_eq]; omega
      have HE := Lib.hid he
      clear he
      obtain ⟨N8, hN8⟩ : ∃ N8, b.length * 8 = N8 := ⟨_, rfl⟩
      have hN8b : N8 ≤ 1000000000000000 := by have := HSZ.out; omega
      have HN8 := Lib.hid hN8
      go_wp2_with fail
      clear hcnd
      go_loopw [5, 6] (fun mv iv wr => ∃ j : Nat, j ≤ 8 ∧ iv = .int .i64 (7 - (j : Int)) ∧ Own wr w3.heap.size 5 mv (D ++ (Sha.be64 N8).take j) ∧ Below w3.heap.size w3 wr) (fun _ iv _ => (intOf iv + 1).toNat)
      case atStart => exact ⟨0, Nat.zero_le _, rfl, by simpa using O0.out, B0.out⟩
      case round =>
        clear O0 B0
        obtain ⟨j, hj, rfl, o0, b0⟩ := hrel
        have hel : (D ++ (Sha.be64 N8).take j).length = D.length + j := by rw [List.length_append, List.length_take, Sha.be64_length]; omega
        obtain ⟨E, hE⟩ : ∃ E, D ++ (Sha.be64 N8).take j = E := ⟨_, rfl⟩
        rw [hE] at o0 hel
        obtain ⟨x2, k2, rfl, -, -, -, -⟩ := o0.sh.open
        have HEE := Lib.hid hE
        have HEL := Lib.hid hel
        have O0 := Lib.hid o0
        have B0 := Lib.hid b0
        clear o0 b0 hE hel
        by_cases hlt8 : j < 8
        · obtain ⟨c, hc⟩ : ∃ c, 7 - j = c := ⟨_, rfl⟩
          obtain ⟨k, hk⟩ : ∃ k, 8 * c = k := ⟨_, rfl⟩
          have hcI : (7 : Int) - (j : Int) = (c : Int) := by omega
          have hkI : (8 : Int) * (c : Int) = (k : Int) := by omega
          have hkw : IntKind.u64.wrap (k : Int) = (k : Int) := IntWalk.u64_in _ ⟨by omega, by omega⟩
          have hlw : IntKind.u64.wrap (b.length : Int) = (b.length : Int) := IntWalk.u64_in _ ⟨by omega, by have := HSZ.out; omega⟩
          have hnw : IntKind.u64.wrap ((b.length : Int) * 8) = (N8 : Int) := by rw [IntWalk.u64_in _ ⟨by omega, by omega⟩]; omega
          have hk56 : k ≤ 56 := by omega
          have hw0 := B0.out.size
          have HB := Lib.hid (show 0 ≤ (N8 : Int) / 2 ^ k % 256 ∧ (N8 : Int) / 2 ^ k % 256 < 256 by omega)
          have HBE : Hid (E ++ [ofI ((N8 : Int) / 2 ^ k % 256)] = D ++ (Sha.be64 N8).take (j + 1)) := by
            show _ = _
            rw [be64_byte N8 k j hlt8 (by omega), ← HEE.out, List.append_assoc, be64_take N8 j hlt8]
          have HJC := Lib.hid (show (c : Int) - 1 = 7 - ((j + 1 : Nat) : Int) by omega)
          rw [hcI]
          clear hc hk
          go_wp2_with (at_builtin; refine app_bytes (base := w3.heap.size) Tryz.underlying64 info_byte rfl (.tmp 40) (.tmp 50) rfl rfl (O0.out.alloc _) rfl (sh1 (e := 5) HB.out) (by have := HEL.out; have := HDL.out; have := HSZ.out; simp; omega) (by simp; omega) ?_; intro v2 w2 ho2 hb2; rw [HBE.out] at ho2)
          exact ⟨⟨j + 1, hlt8, by rw [HJC.out], ho2, (B0.out.alloc hw0 _).trans hb2⟩, by first | (simp [intOf]; done) | (simp [intOf]; omega)⟩
        · have hj8 : j = 8 := by omega
          have hnI : ¬ (j : Int) ≤ 7 := by omega
          have HT : Hid (D ++ Sha.be64 N8 = E) := by rw [← HEE.out, hj8, List.take_of_length_le (by rw [Sha.be64_length]; omega)]; rfl
          clear hj8 hlt8 hj
          have hpd : Sha.pad b = E := by
            unfold Sha.pad
            rw [← HT.out, ← HDD.out, ← HD1.out, hiz, show b.length * 8 % 18446744073709551616 = N8 by omega]
            rfl
          have hpm := Sha.pad_length b
          rw [hpd] at hpm
          have HPD := Lib.hid hpd
          have HPM := Lib.hid hpm
          have hEL : E.length ≤ 100000000001000 := by
            have h1 : E.length = D.length + 8 := by rw [← HT.out, List.length_append, Sha.be64_length]
            have := HDL.out; have := HSZ.out; omega
          have S0 := Lib.hid (Row.below S3.out B0.out (by omega))
          have K0 := Lib.hid (Row.below K3.out B0.out hkb)
          have A0 := Lib.hid (Row.below A3.out B0.out (by omega))
          have BW := Lib.hid (hb30.out.trans (B0.out.mono (by omega)))
          have hkw : kb < wr.heap.size := K0.out.lt
          clear hpd hpm S3 K3 A3 B0 HS3 hb30 HS
          go_wp2_with fail
          clear hnI
          go_loopw [7] (fun av W => ∃ n : Nat, 64 * n ≤ E.length ∧ av = .int .i64 (64 * (n : Int)) ∧ Row W sb 90 (stC (Sha.St.first.takes E n)) ∧ Upd sb wr W) (fun av _ => E.length - (intOf av).toNat)
          case atStart => exact ⟨0, Nat.zero_le _, rfl, S0.out, Upd.refl _ _⟩
          case round =>
            obtain ⟨n, hn, rfl, s1, u1⟩ := hrel
            have M1 := Lib.hid (Upd.own u1 O0.out S0.out (by decide))
            have K1 := Lib.hid (Upd.row u1 K0.out (by omega))
            have A1 := Lib.hid (Upd.row u1 A0.out (by omega))
            have S1 := Lib.hid s1
            have U1 := Lib.hid u1
            clear s1 u1
            by_cases hlt64 : 64 * n < E.length
            · have h64 : 64 * n + 64 ≤ E.length := by have := HPM.out; omega
              have hcnd : 64 * (n : Int) < (E.length : Int) := by omega
              obtain ⟨S, hS⟩ : ∃ S, Sha.St.first.takes E n = S := ⟨_, rfl⟩
              obtain ⟨bk, hbk⟩ : ∃ bk, (E.drop (64 * n)).take 64 = bk := ⟨_, rfl⟩
              have hnx : Sha.St.first.takes E (n + 1) = S.take bk := by rw [← hS, ← hbk]; rfl
              have hbl : bk.length = 64 := by rw [← hbk, List.length_take, List.length_drop]; omega
              have hbg : ∀ i, i < 64 → E.getD (64 * n + i) 0 = bk.getD i 0 := fun i hi => by
                rw [← hbk]; simp only [List.getD, List.getElem?_take, List.getElem?_drop, if_pos hi]
              rw [hS] at S1
              have HNX := Lib.hid hnx
              have HBL := Lib.hid hbl
              have HBG := Lib.hid hbg
              clear hS hbk hnx hbl hbg
              obtain ⟨mb, mo, rfl, hby⟩ := M1.out.sh.cells (by omega)
              have hk2 : E.length ≤ k2 := by obtain ⟨_, a', c', hv, h2, -⟩ := M1.out.sh; simp only [Value.slice.injEq] at hv; omega
              obtain ⟨Bz, hBz⟩ : ∃ Bz, wr.heap.size = Bz := ⟨_, rfl⟩
              have HBZ := Lib.hid hBz
              have hsbz : sb < Bz := by rw [← hBz]; exact S1.out.lt
              have hkbz : kb < Bz := by rw [← hBz]; exact K1.out.lt
              have hmb : mb < Bz := by rw [← hBz]; exact blt (hby 0 (by omega))
              have HBY := Lib.hid hby
              clear hby
              go_wp2_with fail
              go_loopw [8, 9] (fun wv iv w' => ∃ j : Nat, j ≤ 16 ∧ iv = .int .i64 j ∧ OwnU w' Bz wv (Sha.wordsTo bk j) ∧ Below Bz wr w') (fun _ iv _ => 16 - (intOf iv).toNat)
              case atStart => exact ⟨0, by omega, rfl, by rw [← hBz]; exact Own1.lit wr 90 [], by rw [← hBz]; exact balloc (Below.refl _ _) _⟩
              case round =>
                obtain ⟨j, hj, rfl, o2, b2⟩ := hrel
                obtain ⟨xw, cw, rfl⟩ := o2.open
                have O2 := Lib.hid o2
                have B2 := Lib.hid b2
                clear o2 b2
                by_cases hlt : j < 16
                · skip
                  obtain ⟨lo, hlo⟩ : ∃ lo, 64 * n + 4 * j = lo := ⟨_, rfl⟩
                  have hloI : 64 * (n : Int) + 4 * (j : Int) = (lo : Int) := by omega
                  have hc0 := bcell B2.out (HBY.out lo (by omega)) hmb
                  have hc1 := bcell B2.out (HBY.out (lo + 1) (by omega)) hmb
                  have hc2 := bcell B2.out (HBY.out (lo + 2) (by omega)) hmb
                  have hc3 := bcell B2.out (HBY.out (lo + 3) (by omega)) hmb
                  rw [show lo = 64 * n + 4 * j from hlo.symm, HBG.out (4 * j) (by omega)] at hc0
                  rw [show lo + 1 = 64 * n + (4 * j + 1) by omega, HBG.out (4 * j + 1) (by omega)] at hc1
                  rw [show lo + 2 = 64 * n + (4 * j + 2) by omega, HBG.out (4 * j + 2) (by omega)] at hc2
                  rw [show lo + 3 = 64 * n + (4 * j + 3) by omega, HBG.out (4 * j + 3) (by omega)] at hc3
                  rw [show mo + (64 * n + 4 * j) = mo + lo by omega] at hc0
                  rw [show mo + (64 * n + (4 * j + 1)) = mo + lo + 1 by omega] at hc1
                  rw [show mo + (64 * n + (4 * j + 2)) = mo + lo + 2 by omega] at hc2
                  rw [show mo + (64 * n + (4 * j + 3)) = mo + lo + 3 by omega] at hc3
                  have hwa : Sha.wordAt bk j = (bk.getD (4 * j) 0).toUInt32 <<< 24 + (bk.getD (4 * j + 1) 0).toUInt32 <<< 16 + (bk.getD (4 * j + 2) 0).toUInt32 <<< 8 + (bk.getD (4 * j + 3) 0).toUInt32 := or_add4 _ _ _ _
                  have HWA := Lib.hid hwa
                  clear hwa
                  generalize bk.getD (4 * j) 0 = d0 at *
                  generalize bk.getD (4 * j + 1) 0 = d1 at *
                  generalize bk.getD (4 * j + 2) 0 = d2 at *
                  generalize bk.getD (4 * j + 3) 0 = d3 at *
                  have h44 : lo + 4 - lo = 4 := by omega
                  have hbzw : Bz ≤ wr.heap.size := by rw [← HBZ.out]; exact B2.out.size
                  obtain ⟨wl, hwl'⟩ : ∃ wl, (Sha.wordsTo bk j).length = wl := ⟨_, rfl⟩
                  rw [hwl'] at O2 ⊢
                  have HWL := Lib.hid hwl'
                  clear hwl'
                  go_upto_region 17 with fail
                  refine reg17 _ wr (Sha.wordsTo bk j) _ _ _ _ _ _ _ Bz d0 d1 d2 d3 _ _ _ _ _ _ _ _ _ _ _ _ _ _ _ _ _ _ _ _ _ _ _ _ _ _ _ _ _ _ _ _ _ _ _ _ _ _ _ _ _ _ _ _ _ _ _ _ _ _ _ _ _ _ _ _ _ _ _ _ _ _ _ _ _ _ _ _ _ _ _ _ _ _ _ _ _ _ _ _ _ _ _ _ _ _ _ _ _ _ _ _ _ _ _ _ _ _ _ _ _ _ _ _ _ _ _ _ _ _ _ _ _ _ _ _ _ _ _ _ _ _ _ _ _ _ _ _ _ _ _ _ _ _ _ _ _ _ _ _ _ _ _ _ _ _ _ _ _ _ _ _ _ _ _ _ _ _ _ _ _ _ _ _ _ _ _ _ _ _ _ _ _ _ _ _ _ _ _ _ _ _ _ _ _ _ _ _ _ _ _ _ _ _ _ _ _ _ _ _ _ _ _ _ _ _ _ _ _ _ _ _ _ _ _ _ _ _ _ _ _ _ _ _ _ _ _ _ _ _ _ _ _ _ _ _ _ _ _ _ _ _ _ _ _ _ _ _ _ _ _ _ _ _ _ _ _ _ _ _ _ _ _ _ _ _ _ _ _ _ _ _ _ _ _ _ _ _ _ _ _ _ _ _ _ _ _ _ _ _ _ _ _ _ _ _ _ _ _ _ _ _ _ _ _ _ _ _ _ _ _ _ _ (by intro _ _ d _ _ h; cases d <;> exact h) h44 O2 (by show _ ≤ _; rw [Sha.wordsTo_length]; omega) hbzw hmb hc0 hc1 hc2 hc3 ?_
                  intro e74 e75 e76 e77 e78 e79 e80 e81 e82 e83 e84 e85 e86 e87 e88 e89 e90 e91 e92 e93 e94 e95 e96 e97 e98 v4 w4 ho4 hB5
                  have hO5 : OwnU w4 Bz v4 (Sha.wordsTo bk (j + 1)) := by rw [wordsTo_succ, HWA.out]; exact ho4
                  go_wp2_with fail
                  exact ⟨⟨j + 1, by omega, by go_num, hO5, B2.out.trans hB5⟩, by first | (simp [intOf]; done) | (simp [intOf]; omega)⟩
                · have hj16 : j = 16 := by omega
                  have hnI : ¬ (j : Int) < 16 := by omega
                  have O3 : Hid (OwnU wr Bz (.slice xw (Sha.wordsTo bk j).length cw) (Sha.wordsTo bk 16)) := by have := O2.out; rw [hj16] at this ⊢; exact this
                  have B3 := B2
                  have hbzw : Bz ≤ wr.heap.size := by rw [← HBZ.out]; exact B2.out.size
                  clear O2 hj16 hlt hj
                  go_wp2_with fail
                  clear hnI
                  go_loopw [8, 11] (fun wv iv w' => ∃ j : Nat, j ≤ 48 ∧ iv = .int .i64 (16 + (j : Int)) ∧ OwnU w' Bz wv (Sha.more (Sha.wordsTo bk 16) j) ∧ Below Bz wr w') (fun _ iv _ => 64 - (intOf iv).toNat)
                  case atStart => exact ⟨0, by omega, rfl, O3.out, Below.refl _ _⟩
                  case round =>
                    clear O3
                    obtain ⟨j, hj, rfl, o2, b2⟩ := hrel
                    have hLn : (Sha.more (Sha.wordsTo bk 16) j).length = 16 + j := by rw [Sha.more_length, Sha.wordsTo_length]
                    have hnx : Sha.more (Sha.wordsTo bk 16) (j + 1) = Sha.more (Sha.wordsTo bk 16) j ++ [Sha.next (Sha.more (Sha.wordsTo bk 16) j)] := rfl
                    have hsc : j = 48 → Sha.more (Sha.wordsTo bk 16) j = Sha.sched bk := fun e => by rw [e]; rfl
                    generalize Sha.more (Sha.wordsTo bk 16) j = L at *
                    obtain ⟨wb, wo, cw, rfl, -, hat⟩ := o2.cells (by omega)
                    have O2 := Lib.hid o2
                    have B2 := Lib.hid b2
                    have HLN := Lib.hid hLn
                    have HNX2 := Lib.hid hnx
                    have HSC := Lib.hid hsc
                    have hbzw2 : Bz ≤ wr.heap.size := Nat.le_trans hbzw b2.size
                    clear o2 b2 hnx hsc
                    by_cases hlt : j < 48
                    · have hltI : (16 : Int) + (j : Int) < 64 := by omega
                      have hnext : Sha.next L = L.getD j 0 + Sha.s0 (L.getD (j + 1) 0) + L.getD (j + 9) 0 + Sha.s1 (L.getD (j + 14) 0) := by
                        unfold Sha.next
                        rw [hLn, show 16 + j - 16 = j by omega, show 16 + j - 15 = j + 1 by omega, show 16 + j - 7 = j + 9 by omega, show 16 + j - 2 = j + 14 by omega]
                      have hw0 := hat j (by omega)
                      have hw1 := hat (j + 1) (by omega)
                      have hw9 := hat (j + 9) (by omega)
                      have hw14 := hat (j + 14) (by omega)
                      generalize L.getD j 0 = x0 at *
                      generalize L.getD (j + 1) 0 = x1 at *
                      generalize L.getD (j + 9) 0 = x9 at *
                      generalize L.getD (j + 14) 0 = x2 at *
                      have HN := Lib.hid hnext
                      clear hnext hat
                      have l1 : (j : Int) + 1 < (L.length : Int) := by omega
                      have l2 : (j : Int) + 14 < (L.length : Int) := by omega
                      have l3 : (j : Int) + 9 < (L.length : Int) := by omega
                      have l4 : (j : Int) < (L.length : Int) := by omega
                      clear hLn
                      go_upto_region 21 with fail
                      refine reg21 _ wr x1 wb wo L.length cw j _ _ _ _ _ _ _ _ _ _ _ _ _ _ _ _ _ _ _ _ _ _ _ _ _ _ _ _ _ _ _ _ _ _ _ _ _ _ _ _ _ _ _ _ _ _ _ _ _ _ _ _ _ _ _ _ _ _ _ _ _ _ _ _ _ _ _ _ _ _ _ _ _ _ _ _ _ _ _ _ _ _ _ _ _ _ _ _ _ _ _ _ _ _ _ _ _ _ _ _ _ _ _ _ _ _ _ _ _ _ _ _ _ _ _ _ _ _ _ _ _ _ _ _ _ _ _ _ _ _ _ _ _ _ _ _ _ _ _ _ _ _ _ _ _ _ _ _ _ _ _ _ _ _ _ _ _ _ _ _ _ _ _ _ _ _ _ _ _ _ _ _ _ _ _ _ _ _ _ _ _ _ _ _ _ _ _ _ _ _ _ _ _ _ _ _ _ _ _ _ _ _ _ _ _ _ _ _ _ _ _ _ _ _ _ _ _ _ _ _ _ _ _ _ _ _ _ _ _ _ _ _ _ _ _ _ _ _ _ _ _ _ _ _ _ _ _ _ _ _ _ _ _ _ _ _ _ _ _ _ _ _ _ _ _ _ _ _ _ _ _ _ _ _ _ _ _ _ _ _ _ _ _ _ _ _ _ _ _ _ _ _ _ _ _ _ _ _ _ _ _ _ _ _ _ _ _ _ _ _ _ _ _ (by intro _ _ d _ _ h; cases d <;> exact h) hlt hw1 l1 ?_
                      intro d103 d104 d105 d106 d107 d108 d109 d110 d111 d112 d113 d114 d115 d116 d117 d118 d119 d120 d121 d122
                      go_upto_region 22 with fail
                      refine reg22 _ _ x2 wb wo L.length cw j _ _ _ _ _ _ _ _ _ _ _ _ _ _ _ _ _ _ _ _ _ _ _ _ _ _ _ _ _ _ _ _ _ _ _ _ _ _ _ _ _ _ _ _ _ _ _ _ _ _ _ _ _ _ _ _ _ _ _ _ _ _ _ _ _ _ _ _ _ _ _ _ _ _ _ _ _ _ _ _ _ _ _ _ _ _ _ _ _ _ _ _ _ _ _ _ _ _ _ _ _ _ _ _ _ _ _ _ _ _ _ _ _ _ _ _ _ _ _ _ _ _ _ _ _ _ _ _ _ _ _ _ _ _ _ _ _ _ _ _ _ _ _ _ _ _ _ _ _ _ _ _ _ _ _ _ _ _ _ _ _ _ _ _ _ _ _ _ _ _ _ _ _ _ _ _ _ _ _ _ _ _ _ _ _ _ _ _ _ _ _ _ _ _ _ _ _ _ _ _ _ _ _ _ _ _ _ _ _ _ _ _ _ _ _ _ _ _ _ _ _ _ _ _ _ _ _ _ _ _ _ _ _ _ _ _ _ _ _ _ _ _ _ _ _ _ _ _ _ _ _ _ _ _ _ _ _ _ _ _ _ _ _ _ _ _ _ _ _ _ _ _ _ _ _ _ _ _ _ _ _ _ _ _ _ _ _ _ _ _ _ _ _ _ _ _ _ _ _ _ _ _ _ _ _ _ _ _ _ _ _ _ _ (by intro _ _ d _ _ h; cases d <;> exact h) hlt hw14 l2 ?_
                      intro d123 d124 d125 d126 d127 d128 d129 d130 d131 d132 d133 d134 d135 d136 d137 d138 d139 d140 d141 d142
                      go_upto_region 23 with fail
                      refine reg23 _ _ x0 x9 _ _ wb wo L.length cw j _ _ _ _ _ _ _ _ _ _ _ _ _ _ _ _ _ _ _ _ _ _ _ _ _ _ _ _ _ _ _ _ _ _ _ _ _ _ _ _ _ _ _ _ _ _ _ _ _ _ _ _ _ _ _ _ _ _ _ _ _ _ _ _ _ _ _ _ _ _ _ _ _ _ _ _ _ _ _ _ _ _ _ _ _ _ _ _ _ _ _ _ _ _ _ _ _ _ _ _ _ _ _ _ _ _ _ _ _ _ _ _ _ _ _ _ _ _ _ _ _ _ _ _ _ _ _ _ _ _ _ _ _ _ _ _ _ _ _ _ _ _ _ _ _ _ _ _ _ _ _ _ _ _ _ _ _ _ _ _ _ _ _ _ _ _ _ _ _ _ _ _ _ _ _ _ _ _ _ _ _ _ _ _ _ _ _ _ _ _ _ _ _ _ _ _ _ _ _ _ _ _ _ _ _ _ _ _ _ _ _ _ _ _ _ _ _ _ _ _ _ _ _ _ _ _ _ _ _ _ _ _ _ _ _ _ _ _ _ _ _ _ _ _ _ _ _ _ _ _ _ _ _ _ _ _ _ _ _ _ _ _ _ _ _ _ _ _ _ _ _ _ _ _ _ _ _ _ _ _ _ _ _ _ _ _ _ _ _ _ _ _ _ _ _ _ _ _ _ _ _ _ _ _ _ _ _ _ _ _ _ (by intro _ _ d _ _ h; cases d <;> exact h) hlt hw0 hw9 l4 l3 ?_
                      intro d143 d144 d145 d146 d147 d148 d149 d150 d151 d152 d153 d154 d155 d156 d157
                      go_upto_region 24 with fail
                      obtain ⟨w9, hW9⟩ : ∃ w9, wr.drew.drew.drew = w9 := ⟨_, rfl⟩
                      rw [hW9]
                      have O9 : Hid (OwnU w9 Bz (.slice (some ⟨wb, wo, none⟩) L.length cw) L) := by rw [← hW9]; exact O2.out.below (((Below.refl _ _).drew).drew.drew)
                      have B9 : Hid (Below Bz wr w9) := by rw [← hW9]; exact (((Below.refl _ _).drew).drew.drew)
                      have hbz9 : Bz ≤ w9.heap.size := by rw [← hW9]; exact hbzw2
                      clear hW9 O2 hw0 hw1 hw9 hw14 l1 l2 l3 l4
                      go_wp2_with (at_builtin; refine app_u32 rfl (.tmp 158) (.tmp 160) rfl rfl (O9.out.alloc _) rfl (lit_u32 _ _) (by have := HLN.out; omega) (by rw [World.size_alloc]; exact Nat.le_succ_of_le hbz9) ?_; intro v4 w4 ho4 hb4)
                      exact ⟨⟨j + 1, by omega, by go_num, by rw [HNX2.out, HN.out]; exact ho4, ((B2.out.trans B9.out).alloc hbz9 _).trans hb4⟩, by first | (simp [intOf]; done) | (simp [intOf]; omega)⟩
                    · have hj48 : j = 48 := by omega
                      have hnI : ¬ (16 : Int) + (j : Int) < 64 := by omega
                      have hsch := HSC.out hj48
                      have hL64 : L.length = 64 := by have := HLN.out; omega
                      have HL64 := Lib.hid hL64
                      have S3 := Lib.hid (Row.below (Row.below S1.out B3.out hsbz) B2.out hsbz)
                      have K3 := Lib.hid (Row.below (Row.below K1.out B3.out hkbz) B2.out hkbz)
                      have HBA := Lib.hid (B3.out.trans B2.out)
                      have hwb : ∀ k, k < 64 → wr.cell? ⟨wb, wo + k, none⟩ = some (.int .u32 (u ((Sha.sched bk).getD k 0))) := by rw [← hsch]; exact fun k hk => hat k (by omega)
                      have HWB := Lib.hid hwb
                      have hsh8 : Shows wr 1 (.slice (some ⟨sb, 0, none⟩) 8 8) 8 (stC S) := by
                        refine ⟨rfl, _, _, rfl, Nat.le_refl _, by decide, fun e => by simp at e, fun x hx i q hq => ?_⟩
                        simp only [Option.some.injEq] at hx
                        subst hx
                        rw [Addr.add_lit, Nat.zero_add, S3.out.cell]; exact hq
                      have HSH8 := Lib.hid hsh8
                      clear hj48 hsch hL64 O2 hlt hj hat hwb hsh8 hLn
                      go_wp2_with (at_builtin; refine app_one (base := wr.heap.size) (l := []) (m := stC S) Tryz.underlying108 info_u32 rfl rfl (.tmp 162) (.tmp 163) rfl rfl (Own1.lit wr 90 []) rfl (Shows.alloc HSH8.out _) (fun q hq => nums_one _ _ q hq) (by simp [stC_eq]) (by simp [stC_eq]) (by simp) ?_; intro v5 w5 ho5 hb5; rw [List.nil_append] at ho5)
                      have hb5' : Below wr.heap.size wr w5 := ((Below.refl wr.heap.size wr).alloc (Nat.le_refl _) _).trans hb5
                      have O5 : Hid (OwnU w5 Bz v5 S.list) := OwnU.mono (show OwnU w5 wr.heap.size v5 S.list from ho5) hbzw2
                      have S5 := Lib.hid (Row.keep S3.out hb5')
                      have K5 := Lib.hid (Row.keep K3.out hb5')
                      have HB5A := Lib.hid (HBA.out.trans (hb5'.mono hbzw2))
                      have WB5 : Hid (∀ k, k < 64 → w5.cell? ⟨wb, wo + k, none⟩ = some (.int .u32 (u ((Sha.sched bk).getD k 0)))) := fun k hk => bkeep hb5' (HWB.out k hk)
                      have hbz5 : Bz ≤ w5.heap.size := Nat.le_trans hbzw2 hb5'.size
                      clear hb5 hb5' ho5 S3 K3 HBA HWB HSH8 hnI
                      go_loopw [15, 16] (fun vv iv w' => ∃ j : Nat, j ≤ 64 ∧ iv = .int .i64 j ∧ OwnU w' Bz vv (Sha.St.list (S.steps (Sha.sched bk) j)) ∧ Below w5.heap.size w5 w') (fun _ iv _ => 64 - (intOf iv).toNat)
                      case atStart => exact ⟨0, by omega, rfl, O5.out, Below.refl _ _⟩
                      case round =>
                        clear O5
                        obtain ⟨j, hj, rfl, o6, b6⟩ := hrel
                        obtain ⟨vb, vo, vc, rfl, -, hat⟩ := o6.cells (by simp [Sha.St.list])
                        have hvb := o6.base
                        have B6 := Lib.hid b6
                        have e8 : (Sha.St.list (S.steps (Sha.sched bk) j)).length = 8 := rfl
                        rw [e8]
                        clear o6 b6 e8
                        by_cases hlt : j < 64
                        · have hltI : (j : Int) < 64 := by omega
                          have hstep : S.steps (Sha.sched bk) (j + 1) = (S.steps (Sha.sched bk) j).step (Sha.roots.getD j 0) ((Sha.sched bk).getD j 0) := rfl
                          have hwj := bkeep B6.out (WB5.out j hlt)
                          have hkj := Row.cell (Row.keep K5.out B6.out) j
                          rw [nums_get _ _ _ (by simpa [Sha.roots] using hlt), us_getD _ _ (by simpa [Sha.roots] using hlt)] at hkj
                          have q0 := hat 0 (by simp [Sha.St.list])
                          have q1 := hat 1 (by simp [Sha.St.list])
                          have q2 := hat 2 (by simp [Sha.St.list])
                          have q3 := hat 3 (by simp [Sha.St.list])
                          have q4 := hat 4 (by simp [Sha.St.list])
                          have q5 := hat 5 (by simp [Sha.St.list])
                          have q6 := hat 6 (by simp [Sha.St.list])
                          have q7 := hat 7 (by simp [Sha.St.list])
                          generalize (Sha.sched bk).getD j 0 = x at *
                          generalize S.steps (Sha.sched bk) j = v at *
                          generalize Sha.roots.getD j 0 = kk at *
                          simp only [Sha.St.list, List.getD_cons_zero, List.getD_cons_succ, Nat.add_zero] at q0 q1 q2 q3 q4 q5 q6 q7
                          have HSTEP := Lib.hid hstep
                          have hbz6 : w5.heap.size ≤ wr.heap.size := B6.out.size
                          have k1 : IntKind.i64.wrap (j : Int) = (j : Int) := IntWalk.i64_in _ ⟨by omega, by omega⟩
                          have hL64 : L.length = 64 := HL64.out
                          have hjL : (j : Int) < (L.length : Int) := by omega
                          have hxor := u_xor
                          have hand := u_and
                          have haddw := u_addw
                          have hnot := u_not3
                          clear hstep hat hL64
                          go_upto_region 29 with fail
                          refine reg29 _ wr v kk x vb vo vc kb wb wo L.length cw j _ _ _ _ _ _ _ _ _ _ _ _ _ _ _ _ _ _ _ _ _ _ _ _ _ _ _ _ _ _ _ _ _ _ _ _ _ _ _ _ _ _ _ _ _ _ _ _ _ _ _ _ _ _ _ _ _ _ _ _ _ _ _ _ _ _ _ _ _ _ _ _ _ _ _ _ _ _ _ _ _ _ _ _ _ _ _ _ _ _ _ _ _ _ _ _ _ _ _ _ _ _ _ _ _ _ _ _ _ _ _ _ _ _ _ _ _ _ _ _ _ _ _ _ _ _ _ _ _ _ _ _ _ _ _ _ _ _ _ _ _ _ _ _ _ _ _ _ _ _ _ _ _ _ _ _ _ _ _ _ _ _ _ _ _ _ _ _ _ _ _ _ _ _ _ _ _ _ _ _ _ _ _ _ _ _ _ _ _ _ _ _ _ _ _ _ _ _ _ _ _ _ _ _ _ _ _ _ _ _ _ _ _ _ _ _ _ _ _ _ _ _ _ _ _ _ _ _ _ _ _ _ _ _ _ _ _ _ _ _ _ _ _ _ _ _ _ _ _ _ _ _ _ _ _ _ _ _ _ _ _ _ _ _ _ _ _ _ _ _ _ _ _ _ _ _ _ _ _ _ _ _ _ _ _ _ _ _ _ _ _ _ _ _ _ _ _ _ _ _ _ _ _ _ _ _ _ _ _ _ _ (by intro _ _ d _ _ h; cases d <;> exact h) q7 q4 q5 q6 hkj hwj hltI hjL ?_
                          intro d169 d170 d171 d172 d173 d174 d175 d176 d177 d178 d179 d180 d181 d182 d183 d184 d185 d186 d187 d188 d189 d190 d191 d192 d193 d194 d195 d196 d197 d198 d199 d200 d201 d202 d203 d204 d205 d206 d207 d208 d209 d210 d211 d212 d213
                          go_upto_region 30 with fail
                          refine reg30 _ _ v kk x vb vo vc kb wb wo L.length cw j _ _ _ _ _ _ _ _ _ _ _ _ _ _ _ _ _ _ _ _ _ _ _ _ _ _ _ _ _ _ _ _ _ _ _ _ _ _ _ _ _ _ _ _ _ _ _ _ _ _ _ _ _ _ _ _ _ _ _ _ _ _ _ _ _ _ _ _ _ _ _ _ _ _ _ _ _ _ _ _ _ _ _ _ _ _ _ _ _ _ _ _ _ _ _ _ _ _ _ _ _ _ _ _ _ _ _ _ _ _ _ _ _ _ _ _ _ _ _ _ _ _ _ _ _ _ _ _ _ _ _ _ _ _ _ _ _ _ _ _ _ _ _ _ _ _ _ _ _ _ _ _ _ _ _ _ _ _ _ _ _ _ _ _ _ _ _ _ _ _ _ _ _ _ _ _ _ _ _ _ _ _ _ _ _ _ _ _ _ _ _ _ _ _ _ _ _ _ _ _ _ _ _ _ _ _ _ _ _ _ _ _ _ _ _ _ _ _ _ _ _ _ _ _ _ _ _ _ _ _ _ _ _ _ _ _ _ _ _ _ _ _ _ _ _ _ _ _ _ _ _ _ _ _ _ _ _ _ _ _ _ _ _ _ _ _ _ _ _ _ _ _ _ _ _ _ _ _ _ _ _ _ _ _ _ _ _ _ _ _ _ _ _ _ _ _ _ _ _ _ _ _ _ _ _ _ _ _ _ _ _ _ _ _ (by intro _ _ d _ _ h; cases d <;> exact h) q0 q1 q2 ?_
                          intro d214 d215 d216 d217 d218 d219 d220 d221 d222 d223 d224 d225 d226 d227 d228 d229 d230 d231 d232 d233 d234 d235 d236 d237 d238 d239 d240 d241 d242 d243 d244 d245 d246 d247 d248 d249 d250 d251
                          clear hwj hkj
                          go_upto_region 31 with fail
                          obtain ⟨w9, hW9⟩ : ∃ w9, wr.drew.drew = w9 := ⟨_, rfl⟩
                          rw [hW9]
                          have B9 : Hid (Below w5.heap.size w5 w9) := by rw [← hW9]; exact B6.out.drew.drew
                          have hb9 : Hid (Below wr.heap.size wr w9) := by rw [← hW9]; exact (Below.refl _ _).drew.drew
                          replace q0 := bkeep hb9.out q0
                          replace q1 := bkeep hb9.out q1
                          replace q2 := bkeep hb9.out q2
                          replace q3 := bkeep hb9.out q3
                          replace q4 := bkeep hb9.out q4
                          replace q5 := bkeep hb9.out q5
                          replace q6 := bkeep hb9.out q6
                          clear q7 hb9 hW9
                          refine reg31 _ _ v kk x _ _ vb vo vc kb wb wo L.length cw j _ _ _ _ _ _ _ _ _ _ _ _ _ _ _ _ _ _ _ _ _ _ _ _ _ _ _ _ _ _ _ _ _ _ _ _ _ _ _ _ _ _ _ _ _ _ _ _ _ _ _ _ _ _ _ _ _ _ _ _ _ _ _ _ _ _ _ _ _ _ _ _ _ _ _ _ _ _ _ _ _ _ _ _ _ _ _ _ _ _ _ _ _ _ _ _ _ _ _ _ _ _ _ _ _ _ _ _ _ _ _ _ _ _ _ _ _ _ _ _ _ _ _ _ _ _ _ _ _ _ _ _ _ _ _ _ _ _ _ _ _ _ _ _ _ _ _ _ _ _ _ _ _ _ _ _ _ _ _ _ _ _ _ _ _ _ _ _ _ _ _ _ _ _ _ _ _ _ _ _ _ _ _ _ _ _ _ _ _ _ _ _ _ _ _ _ _ _ _ _ _ _ _ _ _ _ _ _ _ _ _ _ _ _ _ _ _ _ _ _ _ _ _ _ _ _ _ _ _ _ _ _ _ _ _ _ _ _ _ _ _ _ _ _ _ _ _ _ _ _ _ _ _ _ _ _ _ _ _ _ _ _ _ _ _ _ _ _ _ _ _ _ _ _ _ _ _ _ _ _ _ _ _ _ _ _ _ _ _ _ _ _ _ _ _ _ _ _ _ _ _ _ _ _ _ _ _ _ _ _ _ _ (by intro _ _ d _ _ h; cases d <;> exact h) q0 q1 q2 q3 q4 q5 q6 ?_
                          intro d252 d253 d254 d255 d256 d257 d258 d259 d260 d261 d262 d263 d264 d265 d266 d267 d268 d269 d270 d271 d272 d273 d274 d275 d276 d277 d278
                          go_wp2_with fail
                          refine ⟨⟨j + 1, by omega, by go_num, ?_, ?_⟩, by first | (simp [intOf]; done) | (simp [intOf]; omega)⟩
                          · rw [HSTEP.out, step_list]
                            exact OwnU.mono ((lit8 w9 _ _ _ _ _ _ _ _).below ((Below.refl _ _).drew)) (by have := B9.out.size; omega)
                          · exact (B9.out.alloc B9.out.size _).drew
                        · have hj64 : j = 64 := by omega
                          have hnI : ¬ (j : Int) < 64 := by omega
                          have hat2 : Hid (∀ k, k < 8 → wr.cell? ⟨vb, vo + k, none⟩ = some (.int .u32 (u ((Sha.St.list (S.steps (Sha.sched bk) 64)).getD k 0)))) := by rw [← hj64]; exact hat
                          have S6 : Hid (Row wr sb 90 (nums .u32 (us (mixL S (S.steps (Sha.sched bk) 64) 0)))) := Row.keep S5.out B6.out
                          have HTK : Hid (S.plus (S.steps (Sha.sched bk) 64) = S.take bk) := rfl
                          have HBZ6 := Lib.hid (HB5A.out.trans (B6.out.mono hbz5))
                          generalize S.steps (Sha.sched bk) 64 = t at *
                          clear hj64 hlt hj hat S5 K5 WB5 B6
                          have hvs : vb ≠ sb := by omega
                          go_wp2_with fail
                          clear hnI
                          go_loopw [19] (fun iv w' => ∃ j : Nat, j ≤ 8 ∧ iv = .int .i64 j ∧ Row w' sb 90 (nums .u32 (us (mixL S t j))) ∧ Upd sb wr w') (fun iv _ => 8 - (intOf iv).toNat)
                          case atStart => exact ⟨0, by omega, rfl, S6.out, Upd.refl _ _⟩
                          case round =>
                            clear S6
                            obtain ⟨j, hj, rfl, s7, u7⟩ := hrel
                            have S7 := Lib.hid s7
                            have U7 := Lib.hid u7
                            clear s7 u7
                            by_cases hlt : j < 8
                            · have hltI : (j : Int) < 8 := by omega
                              have hcv0 := hat2.out j hlt
                              have hcv : wr.cell? ⟨vb, vo + j, none⟩ = some (.int .u32 (u (t.list.getD j 0))) := by
                                unfold World.cell? at hcv0 ⊢
                                rw [U7.out.block vb (blt hcv0) (fun e => hvs (by simpa using e))]
                                exact hcv0
                              have hcs := Row.cell S7.out j
                              have hfs := Row.frozen S7.out j
                              rw [nums_get _ _ _ (by rw [us_length, mixL_length _ _ _ hj]; omega), us_getD _ _ (by rw [mixL_length _ _ _ hj]; omega), mixL_get _ _ _ hlt] at hcs
                              have hset : (nums .u32 (us (mixL S t j))).set j (.int .u32 (u (S.list.getD j 0 + t.list.getD j 0))) = nums .u32 (us (mixL S t (j + 1))) := by
                                rw [nums_set, ← mixL_set S t j hlt]
                                simp [us, List.map_set]
                              have HSET := Lib.hid hset
                              clear hset hcv0
                              generalize S.list.getD j 0 = xx at *
                              generalize t.list.getD j 0 = yy at *
                              have hadd := u_add
                              go_upto_region 35 with fail
                              go_region
                              go_wp2_with fail
                              exact ⟨⟨j + 1, by omega, by go_num, by rw [← HSET.out]; exact (S7.out.set j _).drew, (U7.out.trans (Upd.set sb j _ _)).trans (Upd.of_below (Below.refl _ _).drew)⟩, by first | (simp [intOf]; done) | (simp [intOf]; omega)⟩
                            · have hj8 : j = 8 := by omega
                              have hnI : ¬ (j : Int) < 8 := by omega
                              have S8 : Hid (Row wr sb 90 (stC (S.take bk))) := by
                                have := S7.out
                                rw [hj8, mixL_all, HTK.out] at this
                                exact this
                              clear hj8 hlt hj
                              go_wp2_with fail
                              exact ⟨⟨n + 1, by omega, by (congr 1 <;> omega), by rw [HNX.out]; exact S8.out, (U1.out.trans (Upd.of_below (by rw [HBZ.out]; exact HBZ6.out))).trans U7.out⟩, by first | (simp [intOf]; done) | (simp [intOf]; omega)⟩
            · have hE : 64 * n = E.length := by omega
              have hcnd : ¬ 64 * (n : Int) < (E.length : Int) := by omega
              have hfin : Hid (Sha.sum b = Sha.out (Sha.St.first.takes E n)) := by
                show _ = _
                unfold Sha.sum
                rw [HPD.out]
                congr 2
                omega
              clear hE hlt64 hn
              have S2 := Lib.hid S1.out
              have A2 := Lib.hid A1.out
              have HBW2 : Hid (Below w.heap.size w wr) := Lib.hid (BW.out.trans (Upd.below U1.out (by omega) (by have := BW.out.size; omega)))
              generalize Sha.St.first.takes E n = S at *
              have hsw : sb < wr.heap.size := S1.out.lt
              have hrw : w.heap.size < wr.heap.size := A1.out.lt
              clear S1 A1 K1 M1 U1 S0 K0 A0 BW
              have HZ0 : Hid (Row (wr.alloc (.cells #[.int .u8 0, .int .u8 0, .int .u8 0, .int .u8 0, .int .u8 0, .int .u8 0, .int .u8 0, .int .u8 0, .int .u8 0, .int .u8 0, .int .u8 0, .int .u8 0, .int .u8 0, .int .u8 0, .int .u8 0, .int .u8 0, .int .u8 0, .int .u8 0, .int .u8 0, .int .u8 0, .int .u8 0, .int .u8 0, .int .u8 0, .int .u8 0, .int .u8 0, .int .u8 0, .int .u8 0, .int .u8 0, .int .u8 0, .int .u8 0, .int .u8 0, .int .u8 0] 36)) wr.heap.size 36 (bytes Tre0)) := Row.new wr 36 (bytes Tre0)
              go_upto_region 37 with (refine store_sum rfl (.tmp 20) (.tmp 295) rfl wr.heap.size rfl Tre0 (by rfl) rfl 36 Tre0 HZ0.out rfl ?_)
              obtain ⟨W6, hW6, Q6, B6⟩ := preB wr
              rw [hW6]
              clear hW6 hcnd HZ0
              have S6 := Lib.hid (Row.keep S2.out B6.out)
              have A6 := Lib.hid (Row.keep A2.out B6.out)
              have HBF := Lib.hid (HBW2.out.trans (B6.out.mono (by omega)))
              clear B6 S2 A2 HBW2
              generalize wr.heap.size = q at *
              go_wp2_with fail
              go_loopw [21] (fun iv w' => ∃ j : Nat, j ≤ 32 ∧ iv = .int .i64 j ∧ Row w' q 36 (bytes ((Sha.out S).take j ++ List.replicate (32 - j) 0)) ∧ Below q W6 w') (fun iv _ => 32 - (intOf iv).toNat)
              case atStart => exact ⟨0, Nat.zero_le _, rfl, Q6.out, Below.refl _ _⟩
              case round =>
                clear Q6
                obtain ⟨j, hj, rfl, r0, b0⟩ := hrel
                have Q7 := Lib.hid r0
                have B7 := Lib.hid b0
                clear r0 b0
                by_cases hlt : j < 32
                · have hltI : (j : Int) < 32 := by omega
                  obtain ⟨a, ha⟩ : ∃ a, j / 4 = a := ⟨_, rfl⟩
                  obtain ⟨c, hc⟩ : ∃ c, j % 4 = c := ⟨_, rfl⟩
                  obtain ⟨k, hk⟩ : ∃ k, 24 - 8 * c = k := ⟨_, rfl⟩
                  have ha8 : a < 8 := by omega
                  have hc4 : c < 4 := by omega
                  have hq : (j : Int) / 4 = (a : Int) := by omega
                  have hr : (j : Int) % 4 = (c : Int) := by omega
                  have hs : 24 - 8 * (c : Int) = (k : Int) := by omega
                  have hk32 : k < 32 := by omega
                  have haI : (a : Int) < 8 := by omega
                  have hkw : IntKind.u64.wrap (k : Int) = (k : Int) := IntWalk.u64_in _ ⟨by omega, by omega⟩
                  have cw := Row.cell (Row.below S6.out B7.out hsw) a
                  unfold stC at cw
                  rw [nums_get _ _ _ (by simpa [Sha.St.list] using ha8), us_getD _ _ (by simpa [Sha.St.list] using ha8)] at cw
                  have hset := out_set S j hlt
                  have hoj := out_get S j hlt
                  rw [ha, hc, hk] at hoj
                  have cq := Row.cell Q7.out j
                  have fq := Row.frozen Q7.out j
                  obtain ⟨y, hy⟩ := out_there S j hlt
                  rw [hy] at cq
                  have HV : Hid (u (S.list.getD a 0) / 2 ^ k % 256 = (((Sha.out S).getD j 0).toNat : Int)) := by
                    show _ = _
                    rw [hoj]
                    unfold u
                    rw [UInt8.toNat_ofNat', Int.natCast_emod, Int.natCast_ediv, Int.natCast_pow]
                    rfl
                  have HSET := Lib.hid hset
                  generalize S.list.getD a 0 = xw at *
                  clear hoj hset hy ha hc hk
                  go_wp2_with fail
                  exact ⟨⟨j + 1, by omega, by go_num, by rw [← HSET.out, ← HV.out]; exact Q7.out.set j _, B7.out.setCell (p := ⟨q, j, none⟩) (Nat.le_refl _) _⟩, by first | (simp [intOf]; done) | (simp [intOf]; omega)⟩
                · have hj32 : j = 32 := by omega
                  have hnI : ¬ (j : Int) < 32 := by omega
                  have Q8 : Hid (Row wr q 36 (bytes (Sha.sum b))) := by
                    have h32 : (Sha.out S).length = 32 := by simp [Sha.out]
                    have := Q7.out
                    rw [hj32, List.take_of_length_le (by omega), Nat.sub_self, List.replicate_zero, List.append_nil, ← hfin.out] at this
                    exact this
                  have A8 : Hid (Row wr w.heap.size 36 (bytes Tre0)) := Row.below A6.out B7.out hrw
                  have hBx := Lib.hid ((HBF.out.trans (B7.out.mono (by omega))))
                  clear hj32 hlt hj Q7
                  go_wp2_with (first
                    | (with_reducible refine load_sum rfl (.tmp 20) rfl q rfl (Sha.sum b) (Sha.sum_length b) Q8.out ?_)
                    | (with_reducible refine store_sum rfl (.tmp 2) (.tmp 314) rfl w.heap.size rfl (Sha.sum b) rfl (Sha.sum_length b) _ Tre0 A8.out rfl ?_))
                  refine ret_sum rfl rfl w.heap.size rfl 36 (Sha.sum b) (setRow_heap wr w.heap.size _ _ _ _ A8.out) (Sha.sum_length b) ?_
                  exact ⟨rfl, below_setRow hBx.out (Nat.le_refl _) _⟩

end Go.Proofs.YticabllkadpmeaaGreatDoor
