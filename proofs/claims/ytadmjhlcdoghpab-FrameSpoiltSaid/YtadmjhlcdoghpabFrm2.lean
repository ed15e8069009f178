/- Frames: Size, the living call, the laws' small and put, the law FrameSizes. -/
import Derived.Test.YtadmjhlcdoghpabFrm
import Derived.Test.YtadmjhlcdoghpabOpenBss
namespace Go.Proofs.Ytadmjhlcdoghpab
set_option linter.unusedVariables false
set_option linter.unusedSimpArgs false
set_option linter.unnecessarySimpa false
open Go.RowKit
set_option maxRecDepth 100000
set_option maxHeartbeats 4000000

def sizeF (n : Int) : Int := if n < 0 ∨ 1048576 < n then 0 else (nsize n.toNat : Int) + n + 4
theorem sizeF_of (d : List UInt8) (h : d.length ≤ 1048576) : sizeF (d.length : Int) = ((frameB d).length : Int) := by
  unfold sizeF
  rw [if_neg (by omega), frameB_length d h, Int.toNat_natCast]
  omega
theorem Sizef_any (n : Int) (w : World) : Calls Try.prog 12 #[.int .i64 n] w fun e w' => e = .returned (.int .i64 (sizeF n)) ∧ w' = w := by
  by_cases h0 : n < 0
  · have he : sizeF n = 0 := by unfold sizeF; rw [if_pos (.inl h0)]
    rw [he]
    go_enter Try.func12, Try.ntmps12
    go_wp2_with fail
    go_ret
    exact ⟨rfl, rfl⟩
  · by_cases h1 : 1048576 < n
    · have he : sizeF n = 0 := by unfold sizeF; rw [if_pos (.inr h1)]
      rw [he]
      go_enter Try.func12, Try.ntmps12
      go_wp2_with fail
      go_ret
      exact ⟨rfl, rfl⟩
    · have he : sizeF n = (nsize n.toNat : Int) + n + 4 := by unfold sizeF; rw [if_neg (by omega)]
      have hw := IntWalk.u64_in n ⟨by omega, by omega⟩
      have hns := nsize_le n.toNat
      have h0' : 0 ≤ n := by omega
      rw [he]
      clear he
      go_enter Try.func12, Try.ntmps12
      go_wp2_with (go_at_call 28; refine (size_any n h0' _).mono ?_; rintro e w1 ⟨rfl, rfl⟩)
      go_ret
      exact ⟨rfl, rfl⟩
theorem lives05 (w : World) : Calls Try.prog 13 #[] w fun e w' => e = .returned (.bool true) ∧ Below w.heap.size w w' := by
  have e1 : frameB [] = [0, 78, 8, 191, 180] := by decide +kernel
  have e2 : sizeF 0 = 5 := by decide +kernel
  go_enter Try.func13, Try.ntmps13
  go_wp2_with (first
    | (go_at_call 8; refine (Putf_any _ _ [] [] _ (Sh.nil _) (Sh.nil _) (by simp) (by simp)).mono ?_; rintro e w1 ⟨v1, rfl, ho1, hb1⟩; have hcv := conv_run ho1.sh)
    | (go_at_call 12; refine (Sizef_any 0 _).mono ?_; rintro e w2 ⟨rfl, rfl⟩))
  go_ret
  exact ⟨rfl, hb1⟩

def totB (Ls : List (List UInt8)) : Nat := (Ls.map List.length).sum
theorem totB_take (Ls : List (List UInt8)) (j : Nat) (hj : j < Ls.length) : totB (Ls.take (j + 1)) = totB (Ls.take j) + (Ls.getD j []).length := by
  unfold totB
  rw [List.take_add_one, List.getElem?_eq_getElem hj]
  rw [List.map_append, List.sum_append]
  simp [List.getD, List.getElem?_eq_getElem hj]
theorem totB_le (Ls : List (List UInt8)) (j : Nat) : totB (Ls.take j) ≤ totB Ls := by
  have : totB Ls = totB (Ls.take j) + totB (Ls.drop j) := by
    unfold totB
    rw [← List.sum_append, ← List.map_append, List.take_append_drop]
  omega
theorem totB_get (Ls : List (List UInt8)) (j : Nat) (hj : j < Ls.length) : (Ls.getD j []).length ≤ totB Ls := by
  have h1 := totB_take Ls j hj
  have h2 := totB_le Ls (j + 1)
  omega
def SmallR (Ls : List (List UInt8)) (r : Bool) : Prop := r = true → totB Ls ≤ 20000 ∧ Ls.length ≤ 200
/-- What 'small' hands back. -/
def SmallE (Ls : List (List UInt8)) (e : Ending) : Prop := ∃ r, e = .returned (.bool r) ∧ SmallR Ls r
theorem small_any (lv : Value) (Ls : List (List UInt8)) (w : World) (hs : Bss w lv Ls) (hn : Ls.length ≤ 10000000000000) (hl : ∀ i, i < Ls.length → (Ls.getD i []).length ≤ 140737488355328) :
    Calls Try.prog 14 #[lv] w fun e w' => SmallE Ls e ∧ w' = w := by
  obtain ⟨a, cap, rfl, g1, g2, g3⟩ := hs.open
  have HS := Lib.hid hs
  have HL := Lib.hid hl
  clear hs g3 hl
  go_enter Try.func14, Try.ntmps14
  go_wp2_with fail
  go_loopw [3, 4] (fun n i wr => ∃ j : Nat, j ≤ Ls.length ∧ i = .int .i64 j ∧ n = .int .i64 (totB (Ls.take j) : Int) ∧ totB (Ls.take j) ≤ 20000 + 140737488355328 ∧ wr = w) (fun _ i _ => Ls.length - (intOf i).toNat)
  case atStart => exact ⟨0, by omega, rfl, rfl, by simp [totB], rfl⟩
  case round =>
    obtain ⟨j, hj, rfl, rfl, htb, rfl⟩ := hrel
    have HTA := Lib.hid (show j = Ls.length → totB (Ls.take j) = totB Ls from fun h => by rw [h, List.take_length])
    by_cases hlt : j < Ls.length
    · have HT := Lib.hid (totB_take Ls j hlt)
      have hgl := HL.out j hlt
      obtain ⟨b, off, rfl, -, hat⟩ := HS.out.cells (by omega)
      obtain ⟨u, hu, hsu⟩ := hat j hlt
      obtain ⟨x, c, rfl, -⟩ := hsu.open
      have hjI : (j : Int) < (Ls.length : Int) := by omega
      clear hat hsu
      generalize totB (Ls.take j) = T at *
      generalize (Ls.getD j []).length = k at *
      by_cases hT : T ≤ 20000
      · have hTI : (T : Int) ≤ 20000 := by omega
        go_wp2_with fail
        exact ⟨⟨j + 1, by omega, by go_num, by rw [HT.out]; go_num, by rw [HT.out]; omega, by trivial⟩, by simp [intOf]; omega⟩
      · have hTI : ¬ (T : Int) ≤ 20000 := by omega
        go_wp2_with fail
        go_ret
        exact ⟨⟨_, rfl, fun h => by simp at h⟩, rfl⟩
    · obtain rfl : j = Ls.length := by omega
      have hT := HTA.out rfl
      rw [hT]
      clear hT
      generalize hG : totB Ls = T at *
      have HTT := Lib.hid hG
      clear hG
      by_cases hT : T ≤ 20000
      · have hTI : (T : Int) ≤ 20000 := by omega
        go_wp2_with fail
        go_ret
        exact ⟨⟨_, rfl, fun h => ⟨by rw [HTT.out]; exact hT, by simp at h; omega⟩⟩, rfl⟩
      · have hTI : ¬ (T : Int) ≤ 20000 := by omega
        go_wp2_with fail
        go_ret
        exact ⟨⟨_, rfl, fun h => by simp at h⟩, rfl⟩

def frames (Ls : List (List UInt8)) : List UInt8 := Ls.flatMap frameB
theorem frames_take (Ls : List (List UInt8)) (j : Nat) (hj : j < Ls.length) : frames (Ls.take (j + 1)) = frames (Ls.take j) ++ frameB (Ls.getD j []) := by
  unfold frames
  rw [List.take_add_one, List.getElem?_eq_getElem hj]
  rw [List.flatMap_append]
  simp [List.getD, List.getElem?_eq_getElem hj]
theorem frames_length (Ls : List (List UInt8)) (h : ∀ i, i < Ls.length → (Ls.getD i []).length ≤ 1048576) : ∀ j, j ≤ Ls.length → (frames (Ls.take j)).length ≤ totB (Ls.take j) + 12 * j
  | 0, _ => by simp [frames, totB]
  | j + 1, hj => by
    have h1 := frames_length Ls h j (by omega)
    have h2 := frameB_length _ (h j (by omega))
    have h3 := nsize_le (Ls.getD j []).length
    rw [frames_take Ls j hj, totB_take Ls j hj, List.length_append]
    omega
theorem putAll_any (lv : Value) (Ls : List (List UInt8)) (w : World) (hs : Bss w lv Ls) (ht : totB Ls ≤ 20000) (hn : Ls.length ≤ 200) :
    Calls Try.prog 15 #[lv] w fun e w' => ∃ v', e = .returned (.tuple #[v', .bool true]) ∧ Sh w' v' (frames Ls) ∧ Below w.heap.size w w' := by
  obtain ⟨a, cap, rfl, g1, g2, g3⟩ := hs.open
  have HS := Lib.hid hs
  have hl : ∀ i, i < Ls.length → (Ls.getD i []).length ≤ 1048576 := fun i hi => by have := totB_get Ls i hi; omega
  have HL := Lib.hid hl
  have HFL := Lib.hid (frames_length Ls hl)
  clear hs g3 hl
  go_enter Try.func15, Try.ntmps15
  go_wp2_with fail
  go_loopw [4, 5] (fun o i wr => ∃ j : Nat, j ≤ Ls.length ∧ i = .int .i64 j ∧ Sh wr o (frames (Ls.take j)) ∧ Below w.heap.size w wr) (fun _ i _ => Ls.length - (intOf i).toNat)
  case atStart => exact ⟨0, by omega, rfl, (Own.lit w 5 []).sh, balloc (Below.refl _ _) _⟩
  case round =>
    obtain ⟨j, hj, rfl, ho, hb⟩ := hrel
    have HO := Lib.hid ho
    have HB := Lib.hid hb
    clear ho hb
    by_cases hlt : j < Ls.length
    · have HT := Lib.hid (frames_take Ls j hlt)
      have hfl := HFL.out j hj
      have htt := totB_le Ls j
      have hgl := totB_get Ls j hlt
      have hsz : (frames (Ls.take j)).length + (Ls.getD j []).length + 100 ≤ 140737488355328 := by omega
      have HSZ := Lib.hid hsz
      have HGL := Lib.hid hgl
      obtain ⟨b, off, rfl, -, hat⟩ := HS.out.cells (by omega)
      obtain ⟨u, hu, hsu⟩ := hat j hlt
      have hu' := bcell HB.out hu (blt hu)
      have HSU := Lib.hid (hsu.at' HB.out (Nat.le_refl _))
      obtain ⟨x, c, rfl, -⟩ := hsu.open
      have hjI : (j : Int) < (Ls.length : Int) := by omega
      clear hat hsu hsz hgl hfl htt hu
      generalize frames (Ls.take j) = F at *
      generalize Ls.getD j [] = d at *
      go_wp2_with (first
        | (go_at_call 9; refine (own_any _ d _ HSU.out (by have := HGL.out; omega)).mono ?_; rintro e w1 ⟨v1, rfl, ho1, hb1⟩)
        | (go_at_call 8; refine (Putf_any _ _ F d _ (HO.out.below hb1) ho1.sh HSZ.out (by have := HGL.out; omega)).mono ?_; rintro e w2 ⟨v2, rfl, ho2, hb2⟩))
      exact ⟨⟨j + 1, by omega, by go_num, by rw [HT.out]; exact ho2.sh, bthen (bthen HB.out hb1 (Nat.le_refl _)) hb2 (Nat.le_refl _)⟩, by simp [intOf]; omega⟩
    · obtain rfl : j = Ls.length := by omega
      have hF := HO.out
      rw [List.take_length] at hF
      go_wp2_with fail
      go_ret2
      exact ⟨_, rfl, hF, HB.out⟩

theorem FrameSizes_walk (lv : Value) (Ls : List (List UInt8)) (w : World) (hs : Bss w lv Ls) (hn : Ls.length ≤ 10000000000000) (hl : ∀ i, i < Ls.length → (Ls.getD i []).length ≤ 140737488355328) :
    Calls Try.prog 4 #[lv] w fun e w' => e = .returned (.bool true) ∧ Below w.heap.size w w' := by
  obtain ⟨a, cap, rfl, g1, g2, g3⟩ := hs.open
  have HS := Lib.hid hs
  have HL := Lib.hid hl
  clear hs g3 hl
  go_enter Try.func4, Try.ntmps4
  go_wp2_with fail
  refine (small_any _ Ls _ HS.out hn HL.out).mono ?_
  rintro e w1 ⟨⟨r, rfl, hr⟩, rfl⟩
  cases r with
  | false =>
    go_wp2_with (go_at_call 13; refine (lives05 _).mono ?_; rintro e w2 ⟨rfl, hb2⟩)
    go_ret
    exact ⟨rfl, hb2⟩
  | true =>
    obtain ⟨ht, hc⟩ := hr rfl
    clear hr
    have hlm : ∀ i, i < Ls.length → (Ls.getD i []).length ≤ 1048576 := fun i hi => by have := totB_get Ls i hi; omega
    have HLM := Lib.hid hlm
    have HFL := Lib.hid (frames_length Ls hlm)
    have hfa := frames_length Ls hlm Ls.length (Nat.le_refl _)
    rw [List.take_length] at hfa
    have hfa2 : (frames Ls).length ≤ 30000 := by omega
    clear hlm hfa
    go_wp2_with (go_at_call 15; refine (putAll_any _ Ls _ HS.out ht hc).mono ?_; rintro e w2 ⟨v2, rfl, hv2, hb2⟩)
    obtain ⟨x2, c2, rfl, -⟩ := hv2.open
    have HV2 := Lib.hid hv2
    have HB2 := Lib.hid hb2
    clear hv2 hb2
    go_wp2_with fail
    go_loopw [5, 6] (fun n i wr => ∃ j : Nat, j ≤ Ls.length ∧ i = .int .i64 j ∧ n = .int .i64 ((frames (Ls.take j)).length : Int) ∧ wr = w2) (fun _ i _ => Ls.length - (intOf i).toNat)
    case atStart => exact ⟨0, by omega, rfl, rfl, rfl⟩
    case round =>
      obtain ⟨j, hj, rfl, rfl, rfl⟩ := hrel
      by_cases hlt : j < Ls.length
      · have hft := frames_take Ls j hlt
        have hfl := HFL.out j hj
        have htt := totB_le Ls j
        have hsz := sizeF_of _ (HLM.out j hlt)
        have hfb : (frameB (Ls.getD j [])).length ≤ 1048600 := by have h1 := frameB_length _ (HLM.out j hlt); have h2 := nsize_le (Ls.getD j []).length; have h3 := HLM.out j hlt; omega
        have hF : (frames (Ls.take (j + 1))).length = (frames (Ls.take j)).length + (frameB (Ls.getD j [])).length := by rw [hft, List.length_append]
        have HF := Lib.hid hF
        obtain ⟨b, off, rfl, -, hat⟩ := HS.out.cells (by omega)
        obtain ⟨u, hu, hsu⟩ := hat j hlt
        have hu' := bcell HB2.out hu (blt hu)
        obtain ⟨x, c, rfl, -⟩ := hsu.open
        have hjI : (j : Int) < (Ls.length : Int) := by omega
        have hfn : (frames (Ls.take j)).length ≤ 30000 := by omega
        clear hat hsu hft hfl htt hF hu
        generalize (frames (Ls.take j)).length = F at *
        generalize hk : (Ls.getD j []).length = k at *
        have HSZ := Lib.hid hsz
        clear hsz hk
        generalize (frameB (Ls.getD j [])).length = G at *
        go_wp2_with (go_at_call 12; refine (Sizef_any (k : Int) _).mono ?_; rw [HSZ.out]; rintro e w3 ⟨rfl, rfl⟩)
        exact ⟨⟨j + 1, by omega, by go_num, by rw [HF.out]; go_num, by trivial⟩, by simp [intOf]; omega⟩
      · obtain rfl : j = Ls.length := by omega
        rw [List.take_length]
        go_wp2_with (go_at_call 13; refine (lives05 _).mono ?_; rintro e w3 ⟨rfl, hb3⟩)
        go_ret
        exact ⟨rfl, bthen HB2.out hb3 (Nat.le_refl _)⟩
end Go.Proofs.Ytadmjhlcdoghpab
