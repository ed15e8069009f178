
import Derived.Test.YticabllkadpmeaaGreatDoorPfx3
namespace Go.Proofs.YticabllkadpmeaaGreatDoor
set_option linter.unusedVariables false
set_option linter.unusedSimpArgs false
set_option linter.unnecessarySimpa false
open Go.RowKit
set_option maxRecDepth 20000

theorem refSize_any (n : Int) (h0 : 0 ≤ n) (w : World) :
    Calls Tryz.prog 101 #[.int .u64 n] w fun e w' => e = .returned (.int .i64 (nsize n.toNat : Nat)) ∧ w = w' := by
  go_enter Tryz.func101, Tryz.ntmps101
  go_wp2
  all_goals (go_ret; refine ⟨ret_int ?_, rfl⟩; unfold nsize; repeat' split)
  all_goals omega



theorem refPut1 (v : Value) (l : List UInt8) (N : Nat) (w : World) (h : Sh w v l) (hl : l.length + 8 ≤ 140737488355328) (h2 : N < 64) :
    Calls Tryz.prog 93 #[v, .int .u64 (N : Int)] w fun e w' => ∃ v', e = .returned (.tuple #[v', .int .i64 0]) ∧ Own w' w.heap.size 5 v' (l ++ enc N) ∧ Below w.heap.size w w' := by
  have hns : nsize N = 1 := by unfold nsize; rw [if_pos (by omega)]
  have hel : (enc N).length = 1 := by rw [enc_length N (by omega), hns]
  have hee := enc_1 N h2
  have HE := Lib.hid hee
  have HL := Lib.hid hel
  clear hee hel
  go_enter Tryz.func93, Tryz.ntmps93
  go_wp2_with (first
    | (at_builtin; refine app_bytes (base := w.heap.size) Tryz.underlying64 info_byte rfl (.tmp 11) (.tmp 12) rfl (l := []) rfl (Own.lit w 5 []) rfl (h.below ((Below.refl _ _).alloc (Nat.le_refl _) _)) (by simp; omega) (by simp) ?_; intro v1 w1 ho1 hb1)
    | (go_at_call 101; refine (refSize_any _ (by omega) _).mono ?_; rintro e w' ⟨rfl, rfl⟩))
  have hb0 := ((Below.refl w.heap.size w).alloc (Nat.le_refl _) _).trans hb1
  have HB := Lib.hid hb0
  have HO := Lib.hid ho1
  clear hb0 hb1 ho1
  go_loopw [6, 9] (fun o i wr => ∃ j : Nat, j ≤ 1 ∧ i = .int .i64 (1 - 1 - (j : Int)) ∧ Own wr w.heap.size 5 o (l ++ (enc N).take j) ∧ Below w.heap.size w wr) (fun _ i _ => (intOf i + 1).toNat)
  case atStart => exact ⟨0, by omega, by simp, by simpa using HO.out, HB.out⟩
  case round =>
    obtain ⟨j, hj, rfl, hor, hbr⟩ := hrel
    have hsz := hbr.size
    have hlen : (l ++ (enc N).take j).length ≤ l.length + 8 := by have := HL.out; simp; omega
    by_cases hlt : j < 1
    · have HR := Lib.hid hor
      have HBr := Lib.hid hbr
      have hsn := take_snoc' (enc N) j 0 (by have := HL.out; omega)
      have HS := Lib.hid hsn
      have HLn := Lib.hid hlen
      clear hor hbr hsn hlen HO HB
      have hj' : j = 0 := by omega
      rcases hj' with rfl
      · go_wp2_with (at_builtin; refine app_bytes (base := w.heap.size) Tryz.underlying64 info_byte rfl (.tmp 44) (.tmp 46) rfl rfl (HR.out.alloc _) rfl (sh1 ?hby0) (by have := HLn.out; simp at this ⊢; omega) (by simp; omega) ?_; rotate_left; intro v2 w2 ho2 hb2)
        case hby0 => first | exact mod256 _ | (constructor <;> omega)
        go_roundw
        case rel =>
          refine ⟨1, by omega, by simp, ?_, HBr.out.trans (((Below.refl _ _).alloc hsz _).trans hb2)⟩
          rw [HS.out, ← List.append_assoc]
          refine Eq.mp ?_ ho2
          congr 3
          rw [HE.out]
          simp only [List.getD_cons_succ, List.getD_cons_zero]
          first | (refine ofI_eq ?_ ?_ <;> omega) | (unfold ofI; apply UInt8.toNat_inj.1; rw [UInt8.toNat_ofNat', UInt8.toNat_ofNat']; omega)
        case measure => simp [intOf]
    · obtain rfl : j = 1 := by omega
      go_wp2
      go_ret2
      refine ⟨_, rfl, ?_, hbr⟩
      have : (enc N).take 1 = enc N := List.take_of_length_le (by have := HL.out; omega)
      rw [← this]; exact hor

theorem refPut2 (v : Value) (l : List UInt8) (N : Nat) (w : World) (h : Sh w v l) (hl : l.length + 8 ≤ 140737488355328) (h1 : 64 ≤ N) (h2 : N < 16384) :
    Calls Tryz.prog 93 #[v, .int .u64 (N : Int)] w fun e w' => ∃ v', e = .returned (.tuple #[v', .int .i64 0]) ∧ Own w' w.heap.size 5 v' (l ++ enc N) ∧ Below w.heap.size w w' := by
  have hns : nsize N = 2 := by unfold nsize; rw [if_neg (by omega), if_pos (by omega)]
  have hel : (enc N).length = 2 := by rw [enc_length N (by omega), hns]
  have hee := enc_2 N h1 h2
  have HE := Lib.hid hee
  have HL := Lib.hid hel
  clear hee hel
  go_enter Tryz.func93, Tryz.ntmps93
  go_wp2_with (first
    | (at_builtin; refine app_bytes (base := w.heap.size) Tryz.underlying64 info_byte rfl (.tmp 11) (.tmp 12) rfl (l := []) rfl (Own.lit w 5 []) rfl (h.below ((Below.refl _ _).alloc (Nat.le_refl _) _)) (by simp; omega) (by simp) ?_; intro v1 w1 ho1 hb1)
    | (go_at_call 101; refine (refSize_any _ (by omega) _).mono ?_; rintro e w' ⟨rfl, rfl⟩))
  have hb0 := ((Below.refl w.heap.size w).alloc (Nat.le_refl _) _).trans hb1
  have HB := Lib.hid hb0
  have HO := Lib.hid ho1
  clear hb0 hb1 ho1
  go_loopw [6, 9] (fun o i wr => ∃ j : Nat, j ≤ 2 ∧ i = .int .i64 (2 - 1 - (j : Int)) ∧ Own wr w.heap.size 5 o (l ++ (enc N).take j) ∧ Below w.heap.size w wr) (fun _ i _ => (intOf i + 1).toNat)
  case atStart => exact ⟨0, by omega, by simp, by simpa using HO.out, HB.out⟩
  case round =>
    obtain ⟨j, hj, rfl, hor, hbr⟩ := hrel
    have hsz := hbr.size
    have hlen : (l ++ (enc N).take j).length ≤ l.length + 8 := by have := HL.out; simp; omega
    by_cases hlt : j < 2
    · have HR := Lib.hid hor
      have HBr := Lib.hid hbr
      have hsn := take_snoc' (enc N) j 0 (by have := HL.out; omega)
      have HS := Lib.hid hsn
      have HLn := Lib.hid hlen
      clear hor hbr hsn hlen HO HB
      have hj' : j = 0 ∨ j = 1 := by omega
      rcases hj' with rfl | rfl
      · go_wp2_with (at_builtin; refine app_bytes (base := w.heap.size) Tryz.underlying64 info_byte rfl (.tmp 44) (.tmp 46) rfl rfl (HR.out.alloc _) rfl (sh1 ?hby0) (by have := HLn.out; simp at this ⊢; omega) (by simp; omega) ?_; rotate_left; intro v2 w2 ho2 hb2)
        case hby0 => first | exact mod256 _ | (constructor <;> omega)
        go_roundw
        case rel =>
          refine ⟨1, by omega, by simp, ?_, HBr.out.trans (((Below.refl _ _).alloc hsz _).trans hb2)⟩
          rw [HS.out, ← List.append_assoc]
          refine Eq.mp ?_ ho2
          congr 3
          rw [HE.out]
          simp only [List.getD_cons_succ, List.getD_cons_zero]
          first | (refine ofI_eq ?_ ?_ <;> omega) | (unfold ofI; apply UInt8.toNat_inj.1; rw [UInt8.toNat_ofNat', UInt8.toNat_ofNat']; omega)
        case measure => simp [intOf]
      · go_wp2_with (at_builtin; refine app_bytes (base := w.heap.size) Tryz.underlying64 info_byte rfl (.tmp 44) (.tmp 46) rfl rfl (HR.out.alloc _) rfl (sh1 ?hby1) (by have := HLn.out; simp at this ⊢; omega) (by simp; omega) ?_; rotate_left; intro v2 w2 ho2 hb2)
        case hby1 => first | exact mod256 _ | (constructor <;> omega)
        go_roundw
        case rel =>
          refine ⟨2, by omega, by simp, ?_, HBr.out.trans (((Below.refl _ _).alloc hsz _).trans hb2)⟩
          rw [HS.out, ← List.append_assoc]
          refine Eq.mp ?_ ho2
          congr 3
          rw [HE.out]
          simp only [List.getD_cons_succ, List.getD_cons_zero]
          first | (refine ofI_eq ?_ ?_ <;> omega) | (unfold ofI; apply UInt8.toNat_inj.1; rw [UInt8.toNat_ofNat', UInt8.toNat_ofNat']; omega)
        case measure => simp [intOf]
    · obtain rfl : j = 2 := by omega
      go_wp2
      go_ret2
      refine ⟨_, rfl, ?_, hbr⟩
      have : (enc N).take 2 = enc N := List.take_of_length_le (by have := HL.out; omega)
      rw [← this]; exact hor

theorem refPut4 (v : Value) (l : List UInt8) (N : Nat) (w : World) (h : Sh w v l) (hl : l.length + 8 ≤ 140737488355328) (h1 : 16384 ≤ N) (h2 : N < 1073741824) :
    Calls Tryz.prog 93 #[v, .int .u64 (N : Int)] w fun e w' => ∃ v', e = .returned (.tuple #[v', .int .i64 0]) ∧ Own w' w.heap.size 5 v' (l ++ enc N) ∧ Below w.heap.size w w' := by
  have hns : nsize N = 4 := by unfold nsize; rw [if_neg (by omega), if_neg (by omega), if_pos (by omega)]
  have hel : (enc N).length = 4 := by rw [enc_length N (by omega), hns]
  have hee := enc_4 N h1 h2
  have HE := Lib.hid hee
  have HL := Lib.hid hel
  clear hee hel
  go_enter Tryz.func93, Tryz.ntmps93
  go_wp2_with (first
    | (at_builtin; refine app_bytes (base := w.heap.size) Tryz.underlying64 info_byte rfl (.tmp 11) (.tmp 12) rfl (l := []) rfl (Own.lit w 5 []) rfl (h.below ((Below.refl _ _).alloc (Nat.le_refl _) _)) (by simp; omega) (by simp) ?_; intro v1 w1 ho1 hb1)
    | (go_at_call 101; refine (refSize_any _ (by omega) _).mono ?_; rintro e w' ⟨rfl, rfl⟩))
  have hb0 := ((Below.refl w.heap.size w).alloc (Nat.le_refl _) _).trans hb1
  have HB := Lib.hid hb0
  have HO := Lib.hid ho1
  clear hb0 hb1 ho1
  go_loopw [6, 9] (fun o i wr => ∃ j : Nat, j ≤ 4 ∧ i = .int .i64 (4 - 1 - (j : Int)) ∧ Own wr w.heap.size 5 o (l ++ (enc N).take j) ∧ Below w.heap.size w wr) (fun _ i _ => (intOf i + 1).toNat)
  case atStart => exact ⟨0, by omega, by simp, by simpa using HO.out, HB.out⟩
  case round =>
    obtain ⟨j, hj, rfl, hor, hbr⟩ := hrel
    have hsz := hbr.size
    have hlen : (l ++ (enc N).take j).length ≤ l.length + 8 := by have := HL.out; simp; omega
    by_cases hlt : j < 4
    · have HR := Lib.hid hor
      have HBr := Lib.hid hbr
      have hsn := take_snoc' (enc N) j 0 (by have := HL.out; omega)
      have HS := Lib.hid hsn
      have HLn := Lib.hid hlen
      clear hor hbr hsn hlen HO HB
      have hj' : j = 0 ∨ j = 1 ∨ j = 2 ∨ j = 3 := by omega
      rcases hj' with rfl | rfl | rfl | rfl
      · go_wp2_with (at_builtin; refine app_bytes (base := w.heap.size) Tryz.underlying64 info_byte rfl (.tmp 44) (.tmp 46) rfl rfl (HR.out.alloc _) rfl (sh1 ?hby0) (by have := HLn.out; simp at this ⊢; omega) (by simp; omega) ?_; rotate_left; intro v2 w2 ho2 hb2)
        case hby0 => first | exact mod256 _ | (constructor <;> omega)
        go_roundw
        case rel =>
          refine ⟨1, by omega, by simp, ?_, HBr.out.trans (((Below.refl _ _).alloc hsz _).trans hb2)⟩
          rw [HS.out, ← List.append_assoc]
          refine Eq.mp ?_ ho2
          congr 3
          rw [HE.out]
          simp only [List.getD_cons_succ, List.getD_cons_zero]
          first | (refine ofI_eq ?_ ?_ <;> omega) | (unfold ofI; apply UInt8.toNat_inj.1; rw [UInt8.toNat_ofNat', UInt8.toNat_ofNat']; omega)
        case measure => simp [intOf]
      · go_wp2_with (at_builtin; refine app_bytes (base := w.heap.size) Tryz.underlying64 info_byte rfl (.tmp 44) (.tmp 46) rfl rfl (HR.out.alloc _) rfl (sh1 ?hby1) (by have := HLn.out; simp at this ⊢; omega) (by simp; omega) ?_; rotate_left; intro v2 w2 ho2 hb2)
        case hby1 => first | exact mod256 _ | (constructor <;> omega)
        go_roundw
        case rel =>
          refine ⟨2, by omega, by simp, ?_, HBr.out.trans (((Below.refl _ _).alloc hsz _).trans hb2)⟩
          rw [HS.out, ← List.append_assoc]
          refine Eq.mp ?_ ho2
          congr 3
          rw [HE.out]
          simp only [List.getD_cons_succ, List.getD_cons_zero]
          first | (refine ofI_eq ?_ ?_ <;> omega) | (unfold ofI; apply UInt8.toNat_inj.1; rw [UInt8.toNat_ofNat', UInt8.toNat_ofNat']; omega)
        case measure => simp [intOf]
      · go_wp2_with (at_builtin; refine app_bytes (base := w.heap.size) Tryz.underlying64 info_byte rfl (.tmp 44) (.tmp 46) rfl rfl (HR.out.alloc _) rfl (sh1 ?hby2) (by have := HLn.out; simp at this ⊢; omega) (by simp; omega) ?_; rotate_left; intro v2 w2 ho2 hb2)
        case hby2 => first | exact mod256 _ | (constructor <;> omega)
        go_roundw
        case rel =>
          refine ⟨3, by omega, by simp, ?_, HBr.out.trans (((Below.refl _ _).alloc hsz _).trans hb2)⟩
          rw [HS.out, ← List.append_assoc]
          refine Eq.mp ?_ ho2
          congr 3
          rw [HE.out]
          simp only [List.getD_cons_succ, List.getD_cons_zero]
          first | (refine ofI_eq ?_ ?_ <;> omega) | (unfold ofI; apply UInt8.toNat_inj.1; rw [UInt8.toNat_ofNat', UInt8.toNat_ofNat']; omega)
        case measure => simp [intOf]
      · go_wp2_with (at_builtin; refine app_bytes (base := w.heap.size) Tryz.underlying64 info_byte rfl (.tmp 44) (.tmp 46) rfl rfl (HR.out.alloc _) rfl (sh1 ?hby3) (by have := HLn.out; simp at this ⊢; omega) (by simp; omega) ?_; rotate_left; intro v2 w2 ho2 hb2)
        case hby3 => first | exact mod256 _ | (constructor <;> omega)
        go_roundw
        case rel =>
          refine ⟨4, by omega, by simp, ?_, HBr.out.trans (((Below.refl _ _).alloc hsz _).trans hb2)⟩
          rw [HS.out, ← List.append_assoc]
          refine Eq.mp ?_ ho2
          congr 3
          rw [HE.out]
          simp only [List.getD_cons_succ, List.getD_cons_zero]
          first | (refine ofI_eq ?_ ?_ <;> omega) | (unfold ofI; apply UInt8.toNat_inj.1; rw [UInt8.toNat_ofNat', UInt8.toNat_ofNat']; omega)
        case measure => simp [intOf]
    · obtain rfl : j = 4 := by omega
      go_wp2
      go_ret2
      refine ⟨_, rfl, ?_, hbr⟩
      have : (enc N).take 4 = enc N := List.take_of_length_le (by have := HL.out; omega)
      rw [← this]; exact hor

theorem refPut8 (v : Value) (l : List UInt8) (N : Nat) (w : World) (h : Sh w v l) (hl : l.length + 8 ≤ 140737488355328) (h1 : 1073741824 ≤ N) (h2 : N < 4611686018427387904) :
    Calls Tryz.prog 93 #[v, .int .u64 (N : Int)] w fun e w' => ∃ v', e = .returned (.tuple #[v', .int .i64 0]) ∧ Own w' w.heap.size 5 v' (l ++ enc N) ∧ Below w.heap.size w w' := by
  have hns : nsize N = 8 := by unfold nsize; rw [if_neg (by omega), if_neg (by omega), if_neg (by omega), if_pos (by omega)]
  have hel : (enc N).length = 8 := by rw [enc_length N (by omega), hns]
  have hee := enc_8 N h1
  have HE := Lib.hid hee
  have HL := Lib.hid hel
  clear hee hel
  go_enter Tryz.func93, Tryz.ntmps93
  go_wp2_with (first
    | (at_builtin; refine app_bytes (base := w.heap.size) Tryz.underlying64 info_byte rfl (.tmp 11) (.tmp 12) rfl (l := []) rfl (Own.lit w 5 []) rfl (h.below ((Below.refl _ _).alloc (Nat.le_refl _) _)) (by simp; omega) (by simp) ?_; intro v1 w1 ho1 hb1)
    | (go_at_call 101; refine (refSize_any _ (by omega) _).mono ?_; rintro e w' ⟨rfl, rfl⟩))
  have hb0 := ((Below.refl w.heap.size w).alloc (Nat.le_refl _) _).trans hb1
  have HB := Lib.hid hb0
  have HO := Lib.hid ho1
  clear hb0 hb1 ho1
  go_loopw [6, 9] (fun o i wr => ∃ j : Nat, j ≤ 8 ∧ i = .int .i64 (8 - 1 - (j : Int)) ∧ Own wr w.heap.size 5 o (l ++ (enc N).take j) ∧ Below w.heap.size w wr) (fun _ i _ => (intOf i + 1).toNat)
  case atStart => exact ⟨0, by omega, by simp, by simpa using HO.out, HB.out⟩
  case round =>
    obtain ⟨j, hj, rfl, hor, hbr⟩ := hrel
    have hsz := hbr.size
    have hlen : (l ++ (enc N).take j).length ≤ l.length + 8 := by have := HL.out; simp; omega
    by_cases hlt : j < 8
    · have HR := Lib.hid hor
      have HBr := Lib.hid hbr
      have hsn := take_snoc' (enc N) j 0 (by have := HL.out; omega)
      have HS := Lib.hid hsn
      have HLn := Lib.hid hlen
      clear hor hbr hsn hlen HO HB
      have hj' : j = 0 ∨ j = 1 ∨ j = 2 ∨ j = 3 ∨ j = 4 ∨ j = 5 ∨ j = 6 ∨ j = 7 := by omega
      rcases hj' with rfl | rfl | rfl | rfl | rfl | rfl | rfl | rfl
      · go_wp2_with (at_builtin; refine app_bytes (base := w.heap.size) Tryz.underlying64 info_byte rfl (.tmp 44) (.tmp 46) rfl rfl (HR.out.alloc _) rfl (sh1 ?hby0) (by have := HLn.out; simp at this ⊢; omega) (by simp; omega) ?_; rotate_left; intro v2 w2 ho2 hb2)
        case hby0 => first | exact mod256 _ | (constructor <;> omega)
        go_roundw
        case rel =>
          refine ⟨1, by omega, by simp, ?_, HBr.out.trans (((Below.refl _ _).alloc hsz _).trans hb2)⟩
          rw [HS.out, ← List.append_assoc]
          refine Eq.mp ?_ ho2
          congr 3
          rw [HE.out]
          simp only [List.getD_cons_succ, List.getD_cons_zero]
          first | (refine ofI_eq ?_ ?_ <;> omega) | (unfold ofI; apply UInt8.toNat_inj.1; rw [UInt8.toNat_ofNat', UInt8.toNat_ofNat']; omega)
        case measure => simp [intOf]
      · go_wp2_with (at_builtin; refine app_bytes (base := w.heap.size) Tryz.underlying64 info_byte rfl (.tmp 44) (.tmp 46) rfl rfl (HR.out.alloc _) rfl (sh1 ?hby1) (by have := HLn.out; simp at this ⊢; omega) (by simp; omega) ?_; rotate_left; intro v2 w2 ho2 hb2)
        case hby1 => first | exact mod256 _ | (constructor <;> omega)
        go_roundw
        case rel =>
          refine ⟨2, by omega, by simp, ?_, HBr.out.trans (((Below.refl _ _).alloc hsz _).trans hb2)⟩
          rw [HS.out, ← List.append_assoc]
          refine Eq.mp ?_ ho2
          congr 3
          rw [HE.out]
          simp only [List.getD_cons_succ, List.getD_cons_zero]
          first | (refine ofI_eq ?_ ?_ <;> omega) | (unfold ofI; apply UInt8.toNat_inj.1; rw [UInt8.toNat_ofNat', UInt8.toNat_ofNat']; omega)
        case measure => simp [intOf]
      · go_wp2_with (at_builtin; refine app_bytes (base := w.heap.size) Tryz.underlying64 info_byte rfl (.tmp 44) (.tmp 46) rfl rfl (HR.out.alloc _) rfl (sh1 ?hby2) (by have := HLn.out; simp at this ⊢; omega) (by simp; omega) ?_; rotate_left; intro v2 w2 ho2 hb2)
        case hby2 => first | exact mod256 _ | (constructor <;> omega)
        go_roundw
        case rel =>
          refine ⟨3, by omega, by simp, ?_, HBr.out.trans (((Below.refl _ _).alloc hsz _).trans hb2)⟩
          rw [HS.out, ← List.append_assoc]
          refine Eq.mp ?_ ho2
          congr 3
          rw [HE.out]
          simp only [List.getD_cons_succ, List.getD_cons_zero]
          first | (refine ofI_eq ?_ ?_ <;> omega) | (unfold ofI; apply UInt8.toNat_inj.1; rw [UInt8.toNat_ofNat', UInt8.toNat_ofNat']; omega)
        case measure => simp [intOf]
      · go_wp2_with (at_builtin; refine app_bytes (base := w.heap.size) Tryz.underlying64 info_byte rfl (.tmp 44) (.tmp 46) rfl rfl (HR.out.alloc _) rfl (sh1 ?hby3) (by have := HLn.out; simp at this ⊢; omega) (by simp; omega) ?_; rotate_left; intro v2 w2 ho2 hb2)
        case hby3 => first | exact mod256 _ | (constructor <;> omega)
        go_roundw
        case rel =>
          refine ⟨4, by omega, by simp, ?_, HBr.out.trans (((Below.refl _ _).alloc hsz _).trans hb2)⟩
          rw [HS.out, ← List.append_assoc]
          refine Eq.mp ?_ ho2
          congr 3
          rw [HE.out]
          simp only [List.getD_cons_succ, List.getD_cons_zero]
          first | (refine ofI_eq ?_ ?_ <;> omega) | (unfold ofI; apply UInt8.toNat_inj.1; rw [UInt8.toNat_ofNat', UInt8.toNat_ofNat']; omega)
        case measure => simp [intOf]
      · go_wp2_with (at_builtin; refine app_bytes (base := w.heap.size) Tryz.underlying64 info_byte rfl (.tmp 44) (.tmp 46) rfl rfl (HR.out.alloc _) rfl (sh1 ?hby4) (by have := HLn.out; simp at this ⊢; omega) (by simp; omega) ?_; rotate_left; intro v2 w2 ho2 hb2)
        case hby4 => first | exact mod256 _ | (constructor <;> omega)
        go_roundw
        case rel =>
          refine ⟨5, by omega, by simp, ?_, HBr.out.trans (((Below.refl _ _).alloc hsz _).trans hb2)⟩
          rw [HS.out, ← List.append_assoc]
          refine Eq.mp ?_ ho2
          congr 3
          rw [HE.out]
          simp only [List.getD_cons_succ, List.getD_cons_zero]
          first | (refine ofI_eq ?_ ?_ <;> omega) | (unfold ofI; apply UInt8.toNat_inj.1; rw [UInt8.toNat_ofNat', UInt8.toNat_ofNat']; omega)
        case measure => simp [intOf]
      · go_wp2_with (at_builtin; refine app_bytes (base := w.heap.size) Tryz.underlying64 info_byte rfl (.tmp 44) (.tmp 46) rfl rfl (HR.out.alloc _) rfl (sh1 ?hby5) (by have := HLn.out; simp at this ⊢; omega) (by simp; omega) ?_; rotate_left; intro v2 w2 ho2 hb2)
        case hby5 => first | exact mod256 _ | (constructor <;> omega)
        go_roundw
        case rel =>
          refine ⟨6, by omega, by simp, ?_, HBr.out.trans (((Below.refl _ _).alloc hsz _).trans hb2)⟩
          rw [HS.out, ← List.append_assoc]
          refine Eq.mp ?_ ho2
          congr 3
          rw [HE.out]
          simp only [List.getD_cons_succ, List.getD_cons_zero]
          first | (refine ofI_eq ?_ ?_ <;> omega) | (unfold ofI; apply UInt8.toNat_inj.1; rw [UInt8.toNat_ofNat', UInt8.toNat_ofNat']; omega)
        case measure => simp [intOf]
      · go_wp2_with (at_builtin; refine app_bytes (base := w.heap.size) Tryz.underlying64 info_byte rfl (.tmp 44) (.tmp 46) rfl rfl (HR.out.alloc _) rfl (sh1 ?hby6) (by have := HLn.out; simp at this ⊢; omega) (by simp; omega) ?_; rotate_left; intro v2 w2 ho2 hb2)
        case hby6 => first | exact mod256 _ | (constructor <;> omega)
        go_roundw
        case rel =>
          refine ⟨7, by omega, by simp, ?_, HBr.out.trans (((Below.refl _ _).alloc hsz _).trans hb2)⟩
          rw [HS.out, ← List.append_assoc]
          refine Eq.mp ?_ ho2
          congr 3
          rw [HE.out]
          simp only [List.getD_cons_succ, List.getD_cons_zero]
          first | (refine ofI_eq ?_ ?_ <;> omega) | (unfold ofI; apply UInt8.toNat_inj.1; rw [UInt8.toNat_ofNat', UInt8.toNat_ofNat']; omega)
        case measure => simp [intOf]
      · go_wp2_with (at_builtin; refine app_bytes (base := w.heap.size) Tryz.underlying64 info_byte rfl (.tmp 44) (.tmp 46) rfl rfl (HR.out.alloc _) rfl (sh1 ?hby7) (by have := HLn.out; simp at this ⊢; omega) (by simp; omega) ?_; rotate_left; intro v2 w2 ho2 hb2)
        case hby7 => first | exact mod256 _ | (constructor <;> omega)
        go_roundw
        case rel =>
          refine ⟨8, by omega, by simp, ?_, HBr.out.trans (((Below.refl _ _).alloc hsz _).trans hb2)⟩
          rw [HS.out, ← List.append_assoc]
          refine Eq.mp ?_ ho2
          congr 3
          rw [HE.out]
          simp only [List.getD_cons_succ, List.getD_cons_zero]
          first | (refine ofI_eq ?_ ?_ <;> omega) | (unfold ofI; apply UInt8.toNat_inj.1; rw [UInt8.toNat_ofNat', UInt8.toNat_ofNat']; omega)
        case measure => simp [intOf]
    · obtain rfl : j = 8 := by omega
      go_wp2
      go_ret2
      refine ⟨_, rfl, ?_, hbr⟩
      have : (enc N).take 8 = enc N := List.take_of_length_le (by have := HL.out; omega)
      rw [← this]; exact hor

theorem refPut_no (v : Value) (l : List UInt8) (N : Nat) (w : World) (h : Sh w v l) (hl : l.length + 8 ≤ 140737488355328) (hn : 4611686018427387904 ≤ N) :
    Calls Tryz.prog 93 #[v, .int .u64 (N : Int)] w fun e w' => ∃ v', e = .returned (.tuple #[v', .int .i64 1]) ∧ Own w' w.heap.size 5 v' l ∧ Below w.heap.size w w' := by
  have hns : nsize N = 0 := by unfold nsize; rw [if_neg (by omega), if_neg (by omega), if_neg (by omega), if_neg (by omega)]
  go_enter Tryz.func93, Tryz.ntmps93
  go_wp2_with (first
    | (at_builtin; refine app_bytes (base := w.heap.size) Tryz.underlying64 info_byte rfl (.tmp 11) (.tmp 12) rfl (l := []) rfl (Own.lit w 5 []) rfl (h.below ((Below.refl _ _).alloc (Nat.le_refl _) _)) (by simp; omega) (by simp) ?_; intro v1 w1 ho1 hb1)
    | (go_at_call 101; refine (refSize_any _ (by omega) _).mono ?_; rintro e w' ⟨rfl, rfl⟩))
  go_ret2
  exact ⟨v1, rfl, ho1, ((Below.refl w.heap.size w).alloc (Nat.le_refl _) _).trans hb1⟩
theorem refPut_any (v : Value) (l : List UInt8) (N : Nat) (w : World) (h : Sh w v l) (hl : l.length + 8 ≤ 140737488355328) (hn : N < 4611686018427387904) :
    Calls Tryz.prog 93 #[v, .int .u64 (N : Int)] w fun e w' => ∃ v', e = .returned (.tuple #[v', .int .i64 0]) ∧ Own w' w.heap.size 5 v' (l ++ enc N) ∧ Below w.heap.size w w' := by
  by_cases c3 : 1073741824 ≤ N
  · exact refPut8 v l N w h hl c3 hn
  · by_cases c2 : 16384 ≤ N
    · exact refPut4 v l N w h hl c2 (by omega)
    · by_cases c1 : 64 ≤ N
      · exact refPut2 v l N w h hl c1 (by omega)
      · exact refPut1 v l N w h hl (by omega)
end Go.Proofs.YticabllkadpmeaaGreatDoor
