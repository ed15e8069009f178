import Derived.Test.YtgikmhpfkgacjaaPfxLaw2
import Derived.Test.YtgikmhpfkgacjaaPfx7
import Derived.Deep.RegionWith

namespace Go.Proofs.Ytgikmhpfkgacjaa
set_option linter.unusedVariables false
set_option linter.unusedSimpArgs false
set_option linter.unnecessarySimpa false
open Go.RowKit
set_option maxRecDepth 20000
set_option maxHeartbeats 1000000

theorem size_same (n : Int) (h0 : 0 ≤ n) (w : World) :
    Calls Try.prog 13 #[.int .u64 n] w fun e w' => e = .returned (.int .i64 (nsize n.toNat : Nat)) ∧ w' = w :=
  (size_any n h0 w).mono fun e w' ⟨he, hw⟩ => ⟨he, hw.symm⟩
theorem etext_len (s : ByteArray) (h : s.size < 4611686018427387904) : (etext s).length = nsize s.size + s.size := by
  have h3 := enc_length s.size h
  have h4 : s.data.toList.length = s.size := by rw [Array.length_toList]; rfl
  rw [etext, List.length_append, h3, h4]

theorem tot_take (ss : List ByteArray) (k : Nat) : tot (ss.take k) ≤ tot ss := by
  induction ss generalizing k with
  | nil => simp
  | cons s ss ih =>
    cases k with
    | zero => simp [tot]
    | succ k => rw [List.take_succ_cons, tot_cons, tot_cons]; have := ih k; omega
theorem Put_open (l : List UInt8) (N : Nat) (w : World) (hN : N < 4611686018427387904) :
    Calls Try.prog 10 #[.slice none 0 0, .int .u64 (N : Int)] w fun e w' => ∃ x cap, e = .returned (.tuple #[.slice x (nsize N) cap, .int .i64 0]) ∧ Below w.heap.size w w' := by
  refine (Put_any _ [] N _ (Sh.nil _) (by simp) (by omega) (by omega)).mono fun e w' ⟨v, he, ho, hb⟩ => ?_
  rw [List.nil_append, Int.toNat_natCast] at ho
  obtain ⟨x, cap, hv, -⟩ := ho.sh.open
  rw [enc_length N hN] at hv
  exact ⟨x, cap, by rw [he, hv], hb⟩
theorem PutText_open (s : ByteArray) (w : World) (hs : s.size ≤ 1000000000) :
    Calls Try.prog 16 #[.slice none 0 0, .string s] w fun e w' => ∃ x cap, e = .returned (.slice x (nsize s.size + s.size) cap) ∧ Below w.heap.size w w' := by
  refine (PutText_any _ [] s _ (Sh.nil _) (by simp; omega)).mono fun e w' ⟨v, he, ho, hb⟩ => ?_
  rw [List.nil_append] at ho
  obtain ⟨x, cap, hv, -⟩ := ho.sh.open
  have h4 : s.data.toList.length = s.size := by rw [Array.length_toList]; rfl
  rw [List.length_append, enc_length _ (by omega), h4] at hv
  exact ⟨x, cap, by rw [he, hv], hb⟩
theorem PutTexts_open (lv : Value) (ss : List ByteArray) (w : World) (F : Nat) (hs : Shows w 1 lv (strs ss).length (strs ss)) (ht : tot ss ≤ 100000000) (hn : ss.length ≤ 10000000) (hF : (etexts ss).length = nsize ss.length + F) :
    Calls Try.prog 17 #[.slice none 0 0, lv] w fun e w' => ∃ x cap, e = .returned (.slice x (nsize ss.length + F) cap) ∧ Below w.heap.size w w' := by
  refine (PutTexts_any _ lv [] ss _ (Sh.nil _) hs (by simp; omega) (by omega)).mono fun e w' ⟨v, he, ho, hb⟩ => ?_
  rw [List.nil_append] at ho
  obtain ⟨x, cap, hv, -⟩ := ho.sh.open
  rw [hF] at hv
  exact ⟨x, cap, by rw [he, hv], hb⟩
theorem PrefixSizes_walk (a : Int) (lv : Value) (ss : List ByteArray) (w : World) (ha : 0 ≤ a) (_ha : a < 18446744073709551616) (hs : ShS w lv ss) (ht : tot ss ≤ 100000000) (hn : ss.length ≤ 10000000) :
    Calls Try.prog 5 #[.int .u64 a, lv] w fun e w' => e = .returned (.bool true) ∧ Below w.heap.size w w' := by
  obtain ⟨N, rfl⟩ := Int.eq_ofNat_of_zero_le ha
  obtain ⟨x, cap, rfl, g1, g2, g3, g4⟩ := hs.open
  rw [strs_length] at g1 g4 ⊢
  have hul : IntKind.u64.wrap (ss.length : Int) = (ss.length : Int) := IntWalk.u64_in _ ⟨by omega, by omega⟩
  have hnI : (ss.length : Int) ≤ 10000000 := by omega
  have G4 := Lib.hid g4
  have HS := Lib.hid hs
  clear hs g4 g3
  have hflat : ∀ k, k ≤ ss.length → ((ss.take k).flatMap etext).length ≤ 100000000 := fun k hk => by
    have h1 := etexts_le (ss.take k) (by have := tot_take ss k; omega)
    have := tot_take ss k
    omega
  have HFl := Lib.hid hflat
  have hel := enc_length ss.length (by omega)
  have hns := nsize_le ss.length
  have HEl := Lib.hid hel
  clear hflat hel
  have hne1 : ((1 : Int) == 0) = false := rfl
  by_cases hN : N < 4611686018427387904
  all_goals
    have HN := Lib.hid hN
    clear hN
    go_enter Try.func5, Try.ntmps5
    go_wp2_with fail
    first
      | (refine (Put_open [] N _ (by have := HN.out; omega)).mono ?_; rintro e1 w1 ⟨x1, cap1, rfl, hb1⟩)
      | (refine (Put_no _ [] N _ (Sh.nil _) (by simp) (by have := HN.out; omega)).mono ?_; rintro e1 w1 ⟨v1, rfl, -, hb1⟩)
    go_wp2_with (go_at_call 13; refine (size_any _ (by omega) _).mono ?_; rintro e w' ⟨rfl, rfl⟩)
    have HB1 := Lib.hid hb1
    clear hb1
    go_loopw [7, 8] (fun n i wr => ∃ k : Nat, k ≤ ss.length ∧ i = .int .i64 k ∧ n = .int .i64 ((nsize ss.length : Int) + (((ss.take k).flatMap etext).length : Int)) ∧ Below w.heap.size w wr) (fun _ i _ => ss.length - (intOf i).toNat)
    case atStart => exact ⟨0, by omega, rfl, by simp, HB1.out⟩
    case round =>
      obtain ⟨k, hk, rfl, rfl, hbr⟩ := hrel
      have hsz := hbr.size
      have hfk := HFl.out k hk
      by_cases hlt : k < ss.length
      · obtain ⟨b, off, hx, hc⟩ := (Shows.at' G4.out hbr (Nat.le_refl _)).cells1 (by simp; omega)
        have hck := hc k _ (strs_get ss k hlt)
        have htg := tot_get ss k hlt
        have hfs := flat_snoc ss k hlt
        have hel2 := etext_len (ss.getD k ByteArray.empty) (by omega)
        have HFS : Hid (((ss.take (k + 1)).flatMap etext).length = ((ss.take k).flatMap etext).length + (nsize (ss.getD k ByteArray.empty).size + (ss.getD k ByteArray.empty).size)) := by rw [hfs, List.length_append, hel2]; exact rfl
        have hss : (ss.getD k ByteArray.empty).size ≤ 100000000 := by omega
        have HBr := Lib.hid hbr
        clear hc hfs htg hbr hel2
        subst hx
        generalize hS : ss.getD k ByteArray.empty = s at *
        clear hS
        have hks := nsize_le s.size
        have hul2 : IntKind.u64.wrap (s.size : Int) = (s.size : Int) := IntWalk.u64_in _ ⟨by omega, by omega⟩
        have hkI : (k : Int) < (ss.length : Int) := by omega
        have hnn : (((nsize s.size : Nat) : Int) + (s.size : Int) != ((nsize s.size : Nat) : Int) + (s.size : Int)) = false := by simp
        generalize ((ss.take k).flatMap etext).length = F at *
        go_wp2_with fail
        go_quiet ((go_at_call 13; exact Calls.quiet_of_same (size_same _ (by omega) _)))
        go_wp2_with fail
        refine (PutText_open s _ (by omega)).mono ?_; rintro e3 w3 ⟨x3, cap3, rfl, hb3⟩
        have s3 : wr.heap.size ≤ w3.heap.size := hb3.size
        have hb03 : Below w.heap.size w w3 := bthen HBr.out ((drewN_below wr nq).trans hb3) (Nat.le_refl _)
        go_wp2
        go_roundw
        case rel => exact ⟨k + 1, by omega, by go_num, by rw [HFS.out]; go_num, hb03⟩
        case measure => simp [intOf]; omega
      · obtain rfl : k = ss.length := by omega
        have hFall : ((ss.take ss.length).flatMap etext).length = (ss.flatMap etext).length := by rw [List.take_of_length_le (Nat.le_refl _)]
        have hFt : (etexts ss).length = nsize ss.length + (ss.flatMap etext).length := by rw [etexts, List.length_append, HEl.out]
        rw [hFall] at hfk ⊢
        clear hFall
        have HFt := Lib.hid hFt
        clear hFt
        have HBr := Lib.hid hbr
        clear hbr
        generalize (ss.flatMap etext).length = F at *
        have heq : (((nsize ss.length + F : Nat) : Int) == ((nsize ss.length : Nat) : Int) + (F : Int)) = true := by rw [beq_iff_eq]; omega
        push_cast at heq
        go_wp2_with (first
          | (at_builtin; refine app_one (base := wr.heap.size) Try.underlying32 info_string rfl rfl (.tmp 58) (.tmp 59) rfl (l := []) rfl (Own1.lit wr 9 []) rfl (m := strs ss) (by rw [strs_length]; exact (Shows.at' G4.out HBr.out (Nat.le_refl _)).alloc _) (strs_one ss) (by simp; omega) (by simp; omega) (by simp) ?_; intro v4 w4 ho4 hb4; rw [List.nil_append] at ho4)
          | (go_at_call 17; refine (PutTexts_open v4 ss _ F ho4.shows (by omega) (by omega) HFt.out).mono ?_; rintro e5 w5 ⟨x5, cap5, rfl, hb5⟩)
          | (go_at_call 15; refine (lives01 _).mono ?_; rintro e6 w6 ⟨rfl, hb6⟩))
        have hb04 : Below w.heap.size w w4 := HBr.out.trans ((((Below.refl _ _).alloc (Nat.le_refl _) _).trans hb4).mono hsz)
        go_ret
        exact ⟨rfl, bthen (bthen hb04 hb5 (Nat.le_refl _)) hb6 (Nat.le_refl _)⟩
end Go.Proofs.Ytgikmhpfkgacjaa
