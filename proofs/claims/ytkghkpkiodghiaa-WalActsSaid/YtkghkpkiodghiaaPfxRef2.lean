
import Derived.Test.YtkghkpkiodghiaaPfxRef
namespace Go.Proofs.Ytkghkpkiodghiaa
set_option linter.unusedVariables false
set_option linter.unusedSimpArgs false
set_option linter.unnecessarySimpa false
open Go.RowKit
set_option maxRecDepth 20000

theorem refTake_nil (v : Value) (w : World) (h : Sh w v []) :
    Calls Try.prog 48 #[v] w fun e w' => e = .returned (.tuple #[.int .u64 0, .int .i64 0, .int .i64 3]) ∧ w = w' := by
  obtain ⟨x, cap, rfl, h1, h2, h3, h4⟩ := h.open
  go_enter Try.func48, Try.ntmps48
  go_wp2
  go_ret3
  exact ⟨rfl, rfl⟩

theorem refTake_short (v : Value) (c : UInt8) (r : List UInt8) (w : World) (h : Sh w v (c :: r)) (hs : r.length + 1 < 2 ^ (c.toNat / 64)) :
    Calls Try.prog 48 #[v] w fun e w' => e = .returned (.tuple #[.int .u64 0, .int .i64 0, .int .i64 3]) ∧ w = w' := by
  obtain ⟨x, cap, rfl, h1, h2, h3, h4⟩ := h.open
  obtain ⟨b, off, rfl, hc⟩ := h4.cells (by simp)
  have h0 : w.cell? ⟨b, off, none⟩ = some (.int .u8 (c.toNat : Int)) := by simpa using hc 0 (by simp)
  have hlt : c.toNat < 256 := c.toNat_lt
  have hne : (((c :: r).length : Int) == 0) = false := by simp; omega
  clear h h3 h4 hc
  generalize hL : (c :: r).length = L at *
  have hL' : L < 2 ^ (c.toNat / 64) := by rw [← hL]; exact hs
  have hq : c.toNat / 64 = 0 ∨ c.toNat / 64 = 1 ∨ c.toNat / 64 = 2 ∨ c.toNat / 64 = 3 := by omega
  have hL1 : 1 ≤ L := by rw [← hL]; simp
  clear hs hL
  generalize hC : c.toNat = C at *
  rcases hq with hq | hq | hq | hq
  all_goals
    rw [hq] at hL'
    have hlo : (C / 64) * 64 ≤ C := by omega
    have hhi : C < (C / 64) * 64 + 64 := by omega
    rw [hq] at hlo hhi
    simp at hL'
    clear hq hC
    first
    | (exfalso; omega)
    | (go_enter Try.func48, Try.ntmps48
       go_wp2
       go_ret3
       exact ⟨rfl, rfl⟩)
theorem refTake_core1 (b off cap : Nat) (c : UInt8) (r : List UInt8) (w : World) (hq : c.toNat / 64 = 0) (hcap : r.length + 1 ≤ cap) (hcapm : cap ≤ 9223372036854775807)
    (hc : ∀ j, j < r.length + 1 → w.cell? ⟨b, off + j, none⟩ = some (.int .u8 (((c :: r).getD j 0).toNat : Int))) (hs : 1 ≤ r.length + 1) (n : Nat) (hn : n = val (c.toNat % 64) (r.take 0)) :
    (nsize n = 1 → Calls Try.prog 48 #[.slice (some ⟨b, off, none⟩) (r.length + 1) cap] w fun e w' =>
      e = .returned (.tuple #[.int .u64 n, .int .i64 1, .int .i64 0]) ∧ w = w') ∧
    (nsize n ≠ 1 → Calls Try.prog 48 #[.slice (some ⟨b, off, none⟩) (r.length + 1) cap] w fun e w' => e = .returned (.tuple #[.int .u64 0, .int .i64 0, .int .i64 4]) ∧ w = w') := by
  have h0 : w.cell? ⟨b, off, none⟩ = some (.int .u8 (c.toNat : Int)) := by simpa using hc 0 (by simp)
  have hlt : c.toNat < 256 := c.toNat_lt
  generalize hL : r.length + 1 = L at *
  have hL1 : 1 ≤ L := by omega
  have hne : ((L : Int) == 0) = false := by simp; omega
  have hcell : ∀ j, j < 0 → w.cell? ⟨b, off + (1 + j), none⟩ = some (.int .u8 ((r.getD j 0).toNat : Int)) := fun j hj => by
    rw [hc (1 + j) (by omega), show 1 + j = j + 1 by omega]; simp
  have HN := Lib.hid hn
  have HL := Lib.hid hL
  have hval : ∀ k, k ≤ 6 → val (c.toNat % 64) (r.take k) < 72057594037927936 := fun k hk => by
    have h1 := val_le (r.take k) (c.toNat % 64)
    have h2 : (r.take k).length ≤ k := List.length_take_le _ _
    have h3 : (c.toNat % 64 + 1) * 256 ^ (r.take k).length ≤ 64 * 256 ^ 6 := Nat.mul_le_mul (by omega) (Nat.pow_le_pow_right (by omega) (by omega))
    omega
  have HV := Lib.hid hval
  have hrl : 0 ≤ r.length := by omega
  clear hc hn hL hval
  generalize hC : c.toNat = C at *
  have hlo : 0 ≤ C := by omega
  have hhi : C < 64 := by omega
  clear hC hq
  constructor
  · intro hcls
    have hcls' : ((nsize n : Int) != 1) = false := by rw [hcls]; rfl
    clear hcls
    have Hcls := Lib.hid hcls'
    clear hcls'
    go_enter Try.func48, Try.ntmps48
    go_wp2_with fail
    go_loop [6, 7] (fun m i => ∃ k a : Nat, k ≤ 0 ∧ i = .int .i64 (1 + (k : Int)) ∧ m = .int .u64 a ∧ a = val (C % 64) (r.take k)) (fun _ i => 1 - (intOf i).toNat)
    case atStart => exact ⟨0, C % 64, by omega, rfl, by simp, rfl⟩
    case round =>
      obtain ⟨k, a, hk, rfl, rfl, ha⟩ := hrel
      by_cases hlt : k < 0
      · omega
      · obtain rfl : k = 0 := by omega
        obtain rfl : a = n := by rw [ha, HN.out]
        have hcls' := Hcls.out
        clear ha hcell
        go_wp2_with (go_at_call 64; refine (refSize_any _ (by omega) _).mono ?_; rintro e w' ⟨rfl, rfl⟩)
        go_ret3
        exact ⟨rfl, rfl⟩
  · intro hcls
    have hcls' : ((nsize n : Int) != 1) = true := by rw [bne_iff_ne]; omega
    clear hcls
    have Hcls := Lib.hid hcls'
    clear hcls'
    go_enter Try.func48, Try.ntmps48
    go_wp2_with fail
    go_loop [6, 7] (fun m i => ∃ k a : Nat, k ≤ 0 ∧ i = .int .i64 (1 + (k : Int)) ∧ m = .int .u64 a ∧ a = val (C % 64) (r.take k)) (fun _ i => 1 - (intOf i).toNat)
    case atStart => exact ⟨0, C % 64, by omega, rfl, by simp, rfl⟩
    case round =>
      obtain ⟨k, a, hk, rfl, rfl, ha⟩ := hrel
      by_cases hlt : k < 0
      · omega
      · obtain rfl : k = 0 := by omega
        obtain rfl : a = n := by rw [ha, HN.out]
        have hcls' := Hcls.out
        clear ha hcell
        go_wp2_with (go_at_call 64; refine (refSize_any _ (by omega) _).mono ?_; rintro e w' ⟨rfl, rfl⟩)
        go_ret3
        exact ⟨rfl, rfl⟩

theorem refTake_core2 (b off cap : Nat) (c : UInt8) (r : List UInt8) (w : World) (hq : c.toNat / 64 = 1) (hcap : r.length + 1 ≤ cap) (hcapm : cap ≤ 9223372036854775807)
    (hc : ∀ j, j < r.length + 1 → w.cell? ⟨b, off + j, none⟩ = some (.int .u8 (((c :: r).getD j 0).toNat : Int))) (hs : 2 ≤ r.length + 1) (n : Nat) (hn : n = val (c.toNat % 64) (r.take 1)) :
    (nsize n = 2 → Calls Try.prog 48 #[.slice (some ⟨b, off, none⟩) (r.length + 1) cap] w fun e w' =>
      e = .returned (.tuple #[.int .u64 n, .int .i64 2, .int .i64 0]) ∧ w = w') ∧
    (nsize n ≠ 2 → Calls Try.prog 48 #[.slice (some ⟨b, off, none⟩) (r.length + 1) cap] w fun e w' => e = .returned (.tuple #[.int .u64 0, .int .i64 0, .int .i64 4]) ∧ w = w') := by
  have h0 : w.cell? ⟨b, off, none⟩ = some (.int .u8 (c.toNat : Int)) := by simpa using hc 0 (by simp)
  have hlt : c.toNat < 256 := c.toNat_lt
  generalize hL : r.length + 1 = L at *
  have hL1 : 1 ≤ L := by omega
  have hne : ((L : Int) == 0) = false := by simp; omega
  have hcell : ∀ j, j < 1 → w.cell? ⟨b, off + (1 + j), none⟩ = some (.int .u8 ((r.getD j 0).toNat : Int)) := fun j hj => by
    rw [hc (1 + j) (by omega), show 1 + j = j + 1 by omega]; simp
  have HN := Lib.hid hn
  have HL := Lib.hid hL
  have hval : ∀ k, k ≤ 6 → val (c.toNat % 64) (r.take k) < 72057594037927936 := fun k hk => by
    have h1 := val_le (r.take k) (c.toNat % 64)
    have h2 : (r.take k).length ≤ k := List.length_take_le _ _
    have h3 : (c.toNat % 64 + 1) * 256 ^ (r.take k).length ≤ 64 * 256 ^ 6 := Nat.mul_le_mul (by omega) (Nat.pow_le_pow_right (by omega) (by omega))
    omega
  have HV := Lib.hid hval
  have hrl : 1 ≤ r.length := by omega
  clear hc hn hL hval
  generalize hC : c.toNat = C at *
  have hlo : 64 ≤ C := by omega
  have hhi : C < 128 := by omega
  clear hC hq
  constructor
  · intro hcls
    have hcls' : ((nsize n : Int) != 2) = false := by rw [hcls]; rfl
    clear hcls
    have Hcls := Lib.hid hcls'
    clear hcls'
    go_enter Try.func48, Try.ntmps48
    go_wp2_with fail
    go_loop [6, 7] (fun m i => ∃ k a : Nat, k ≤ 1 ∧ i = .int .i64 (1 + (k : Int)) ∧ m = .int .u64 a ∧ a = val (C % 64) (r.take k)) (fun _ i => 2 - (intOf i).toNat)
    case atStart => exact ⟨0, C % 64, by omega, rfl, by simp, rfl⟩
    case round =>
      obtain ⟨k, a, hk, rfl, rfl, ha⟩ := hrel
      by_cases hlt : k < 1
      · have hv := HV.out k (by omega)
        rw [← ha] at hv
        have hcl := hcell k (by omega)
        have hsn := val_snoc (r.take k) (r.getD k 0) (C % 64)
        rw [← ha, ← take_snoc' r k 0 (by omega)] at hsn
        have hDb : (r.getD k 0).toNat < 256 := (r.getD k 0).toNat_lt
        have HA := Lib.hid ha
        have HS := Lib.hid hsn
        clear ha hcell hsn
        generalize hD : (r.getD k 0).toNat = D at *
        clear hD
        have hkn : (1 + (k : Int)).toNat = 1 + k := by omega
        go_wp2
        go_round
        case rel => exact ⟨k + 1, a * 256 + D, by omega, by go_num, by go_num, HS.out.symm⟩
        case measure => simp [intOf]; omega
      · obtain rfl : k = 1 := by omega
        obtain rfl : a = n := by rw [ha, HN.out]
        have hcls' := Hcls.out
        clear ha hcell
        go_wp2_with (go_at_call 64; refine (refSize_any _ (by omega) _).mono ?_; rintro e w' ⟨rfl, rfl⟩)
        go_ret3
        exact ⟨rfl, rfl⟩
  · intro hcls
    have hcls' : ((nsize n : Int) != 2) = true := by rw [bne_iff_ne]; omega
    clear hcls
    have Hcls := Lib.hid hcls'
    clear hcls'
    go_enter Try.func48, Try.ntmps48
    go_wp2_with fail
    go_loop [6, 7] (fun m i => ∃ k a : Nat, k ≤ 1 ∧ i = .int .i64 (1 + (k : Int)) ∧ m = .int .u64 a ∧ a = val (C % 64) (r.take k)) (fun _ i => 2 - (intOf i).toNat)
    case atStart => exact ⟨0, C % 64, by omega, rfl, by simp, rfl⟩
    case round =>
      obtain ⟨k, a, hk, rfl, rfl, ha⟩ := hrel
      by_cases hlt : k < 1
      · have hv := HV.out k (by omega)
        rw [← ha] at hv
        have hcl := hcell k (by omega)
        have hsn := val_snoc (r.take k) (r.getD k 0) (C % 64)
        rw [← ha, ← take_snoc' r k 0 (by omega)] at hsn
        have hDb : (r.getD k 0).toNat < 256 := (r.getD k 0).toNat_lt
        have HA := Lib.hid ha
        have HS := Lib.hid hsn
        clear ha hcell hsn
        generalize hD : (r.getD k 0).toNat = D at *
        clear hD
        have hkn : (1 + (k : Int)).toNat = 1 + k := by omega
        go_wp2
        go_round
        case rel => exact ⟨k + 1, a * 256 + D, by omega, by go_num, by go_num, HS.out.symm⟩
        case measure => simp [intOf]; omega
      · obtain rfl : k = 1 := by omega
        obtain rfl : a = n := by rw [ha, HN.out]
        have hcls' := Hcls.out
        clear ha hcell
        go_wp2_with (go_at_call 64; refine (refSize_any _ (by omega) _).mono ?_; rintro e w' ⟨rfl, rfl⟩)
        go_ret3
        exact ⟨rfl, rfl⟩

theorem refTake_core4 (b off cap : Nat) (c : UInt8) (r : List UInt8) (w : World) (hq : c.toNat / 64 = 2) (hcap : r.length + 1 ≤ cap) (hcapm : cap ≤ 9223372036854775807)
    (hc : ∀ j, j < r.length + 1 → w.cell? ⟨b, off + j, none⟩ = some (.int .u8 (((c :: r).getD j 0).toNat : Int))) (hs : 4 ≤ r.length + 1) (n : Nat) (hn : n = val (c.toNat % 64) (r.take 3)) :
    (nsize n = 4 → Calls Try.prog 48 #[.slice (some ⟨b, off, none⟩) (r.length + 1) cap] w fun e w' =>
      e = .returned (.tuple #[.int .u64 n, .int .i64 4, .int .i64 0]) ∧ w = w') ∧
    (nsize n ≠ 4 → Calls Try.prog 48 #[.slice (some ⟨b, off, none⟩) (r.length + 1) cap] w fun e w' => e = .returned (.tuple #[.int .u64 0, .int .i64 0, .int .i64 4]) ∧ w = w') := by
  have h0 : w.cell? ⟨b, off, none⟩ = some (.int .u8 (c.toNat : Int)) := by simpa using hc 0 (by simp)
  have hlt : c.toNat < 256 := c.toNat_lt
  generalize hL : r.length + 1 = L at *
  have hL1 : 1 ≤ L := by omega
  have hne : ((L : Int) == 0) = false := by simp; omega
  have hcell : ∀ j, j < 3 → w.cell? ⟨b, off + (1 + j), none⟩ = some (.int .u8 ((r.getD j 0).toNat : Int)) := fun j hj => by
    rw [hc (1 + j) (by omega), show 1 + j = j + 1 by omega]; simp
  have HN := Lib.hid hn
  have HL := Lib.hid hL
  have hval : ∀ k, k ≤ 6 → val (c.toNat % 64) (r.take k) < 72057594037927936 := fun k hk => by
    have h1 := val_le (r.take k) (c.toNat % 64)
    have h2 : (r.take k).length ≤ k := List.length_take_le _ _
    have h3 : (c.toNat % 64 + 1) * 256 ^ (r.take k).length ≤ 64 * 256 ^ 6 := Nat.mul_le_mul (by omega) (Nat.pow_le_pow_right (by omega) (by omega))
    omega
  have HV := Lib.hid hval
  have hrl : 3 ≤ r.length := by omega
  clear hc hn hL hval
  generalize hC : c.toNat = C at *
  have hlo : 128 ≤ C := by omega
  have hhi : C < 192 := by omega
  clear hC hq
  constructor
  · intro hcls
    have hcls' : ((nsize n : Int) != 4) = false := by rw [hcls]; rfl
    clear hcls
    have Hcls := Lib.hid hcls'
    clear hcls'
    go_enter Try.func48, Try.ntmps48
    go_wp2_with fail
    go_loop [6, 7] (fun m i => ∃ k a : Nat, k ≤ 3 ∧ i = .int .i64 (1 + (k : Int)) ∧ m = .int .u64 a ∧ a = val (C % 64) (r.take k)) (fun _ i => 4 - (intOf i).toNat)
    case atStart => exact ⟨0, C % 64, by omega, rfl, by simp, rfl⟩
    case round =>
      obtain ⟨k, a, hk, rfl, rfl, ha⟩ := hrel
      by_cases hlt : k < 3
      · have hv := HV.out k (by omega)
        rw [← ha] at hv
        have hcl := hcell k (by omega)
        have hsn := val_snoc (r.take k) (r.getD k 0) (C % 64)
        rw [← ha, ← take_snoc' r k 0 (by omega)] at hsn
        have hDb : (r.getD k 0).toNat < 256 := (r.getD k 0).toNat_lt
        have HA := Lib.hid ha
        have HS := Lib.hid hsn
        clear ha hcell hsn
        generalize hD : (r.getD k 0).toNat = D at *
        clear hD
        have hkn : (1 + (k : Int)).toNat = 1 + k := by omega
        go_wp2
        go_round
        case rel => exact ⟨k + 1, a * 256 + D, by omega, by go_num, by go_num, HS.out.symm⟩
        case measure => simp [intOf]; omega
      · obtain rfl : k = 3 := by omega
        obtain rfl : a = n := by rw [ha, HN.out]
        have hcls' := Hcls.out
        clear ha hcell
        go_wp2_with (go_at_call 64; refine (refSize_any _ (by omega) _).mono ?_; rintro e w' ⟨rfl, rfl⟩)
        go_ret3
        exact ⟨rfl, rfl⟩
  · intro hcls
    have hcls' : ((nsize n : Int) != 4) = true := by rw [bne_iff_ne]; omega
    clear hcls
    have Hcls := Lib.hid hcls'
    clear hcls'
    go_enter Try.func48, Try.ntmps48
    go_wp2_with fail
    go_loop [6, 7] (fun m i => ∃ k a : Nat, k ≤ 3 ∧ i = .int .i64 (1 + (k : Int)) ∧ m = .int .u64 a ∧ a = val (C % 64) (r.take k)) (fun _ i => 4 - (intOf i).toNat)
    case atStart => exact ⟨0, C % 64, by omega, rfl, by simp, rfl⟩
    case round =>
      obtain ⟨k, a, hk, rfl, rfl, ha⟩ := hrel
      by_cases hlt : k < 3
      · have hv := HV.out k (by omega)
        rw [← ha] at hv
        have hcl := hcell k (by omega)
        have hsn := val_snoc (r.take k) (r.getD k 0) (C % 64)
        rw [← ha, ← take_snoc' r k 0 (by omega)] at hsn
        have hDb : (r.getD k 0).toNat < 256 := (r.getD k 0).toNat_lt
        have HA := Lib.hid ha
        have HS := Lib.hid hsn
        clear ha hcell hsn
        generalize hD : (r.getD k 0).toNat = D at *
        clear hD
        have hkn : (1 + (k : Int)).toNat = 1 + k := by omega
        go_wp2
        go_round
        case rel => exact ⟨k + 1, a * 256 + D, by omega, by go_num, by go_num, HS.out.symm⟩
        case measure => simp [intOf]; omega
      · obtain rfl : k = 3 := by omega
        obtain rfl : a = n := by rw [ha, HN.out]
        have hcls' := Hcls.out
        clear ha hcell
        go_wp2_with (go_at_call 64; refine (refSize_any _ (by omega) _).mono ?_; rintro e w' ⟨rfl, rfl⟩)
        go_ret3
        exact ⟨rfl, rfl⟩

theorem refTake_core8 (b off cap : Nat) (c : UInt8) (r : List UInt8) (w : World) (hq : c.toNat / 64 = 3) (hcap : r.length + 1 ≤ cap) (hcapm : cap ≤ 9223372036854775807)
    (hc : ∀ j, j < r.length + 1 → w.cell? ⟨b, off + j, none⟩ = some (.int .u8 (((c :: r).getD j 0).toNat : Int))) (hs : 8 ≤ r.length + 1) (n : Nat) (hn : n = val (c.toNat % 64) (r.take 7)) :
    (nsize n = 8 → Calls Try.prog 48 #[.slice (some ⟨b, off, none⟩) (r.length + 1) cap] w fun e w' =>
      e = .returned (.tuple #[.int .u64 n, .int .i64 8, .int .i64 0]) ∧ w = w') ∧
    (nsize n ≠ 8 → Calls Try.prog 48 #[.slice (some ⟨b, off, none⟩) (r.length + 1) cap] w fun e w' => e = .returned (.tuple #[.int .u64 0, .int .i64 0, .int .i64 4]) ∧ w = w') := by
  have h0 : w.cell? ⟨b, off, none⟩ = some (.int .u8 (c.toNat : Int)) := by simpa using hc 0 (by simp)
  have hlt : c.toNat < 256 := c.toNat_lt
  generalize hL : r.length + 1 = L at *
  have hL1 : 1 ≤ L := by omega
  have hne : ((L : Int) == 0) = false := by simp; omega
  have hcell : ∀ j, j < 7 → w.cell? ⟨b, off + (1 + j), none⟩ = some (.int .u8 ((r.getD j 0).toNat : Int)) := fun j hj => by
    rw [hc (1 + j) (by omega), show 1 + j = j + 1 by omega]; simp
  have HN := Lib.hid hn
  have HL := Lib.hid hL
  have hval : ∀ k, k ≤ 6 → val (c.toNat % 64) (r.take k) < 72057594037927936 := fun k hk => by
    have h1 := val_le (r.take k) (c.toNat % 64)
    have h2 : (r.take k).length ≤ k := List.length_take_le _ _
    have h3 : (c.toNat % 64 + 1) * 256 ^ (r.take k).length ≤ 64 * 256 ^ 6 := Nat.mul_le_mul (by omega) (Nat.pow_le_pow_right (by omega) (by omega))
    omega
  have HV := Lib.hid hval
  have hrl : 7 ≤ r.length := by omega
  clear hc hn hL hval
  generalize hC : c.toNat = C at *
  have hlo : 192 ≤ C := by omega
  have hhi : C < 256 := by omega
  clear hC hq
  constructor
  · intro hcls
    have hcls' : ((nsize n : Int) != 8) = false := by rw [hcls]; rfl
    clear hcls
    have Hcls := Lib.hid hcls'
    clear hcls'
    go_enter Try.func48, Try.ntmps48
    go_wp2_with fail
    go_loop [6, 7] (fun m i => ∃ k a : Nat, k ≤ 7 ∧ i = .int .i64 (1 + (k : Int)) ∧ m = .int .u64 a ∧ a = val (C % 64) (r.take k)) (fun _ i => 8 - (intOf i).toNat)
    case atStart => exact ⟨0, C % 64, by omega, rfl, by simp, rfl⟩
    case round =>
      obtain ⟨k, a, hk, rfl, rfl, ha⟩ := hrel
      by_cases hlt : k < 7
      · have hv := HV.out k (by omega)
        rw [← ha] at hv
        have hcl := hcell k (by omega)
        have hsn := val_snoc (r.take k) (r.getD k 0) (C % 64)
        rw [← ha, ← take_snoc' r k 0 (by omega)] at hsn
        have hDb : (r.getD k 0).toNat < 256 := (r.getD k 0).toNat_lt
        have HA := Lib.hid ha
        have HS := Lib.hid hsn
        clear ha hcell hsn
        generalize hD : (r.getD k 0).toNat = D at *
        clear hD
        have hkn : (1 + (k : Int)).toNat = 1 + k := by omega
        go_wp2
        go_round
        case rel => exact ⟨k + 1, a * 256 + D, by omega, by go_num, by go_num, HS.out.symm⟩
        case measure => simp [intOf]; omega
      · obtain rfl : k = 7 := by omega
        obtain rfl : a = n := by rw [ha, HN.out]
        have hcls' := Hcls.out
        clear ha hcell
        go_wp2_with (go_at_call 64; refine (refSize_any _ (by omega) _).mono ?_; rintro e w' ⟨rfl, rfl⟩)
        go_ret3
        exact ⟨rfl, rfl⟩
  · intro hcls
    have hcls' : ((nsize n : Int) != 8) = true := by rw [bne_iff_ne]; omega
    clear hcls
    have Hcls := Lib.hid hcls'
    clear hcls'
    go_enter Try.func48, Try.ntmps48
    go_wp2_with fail
    go_loop [6, 7] (fun m i => ∃ k a : Nat, k ≤ 7 ∧ i = .int .i64 (1 + (k : Int)) ∧ m = .int .u64 a ∧ a = val (C % 64) (r.take k)) (fun _ i => 8 - (intOf i).toNat)
    case atStart => exact ⟨0, C % 64, by omega, rfl, by simp, rfl⟩
    case round =>
      obtain ⟨k, a, hk, rfl, rfl, ha⟩ := hrel
      by_cases hlt : k < 7
      · have hv := HV.out k (by omega)
        rw [← ha] at hv
        have hcl := hcell k (by omega)
        have hsn := val_snoc (r.take k) (r.getD k 0) (C % 64)
        rw [← ha, ← take_snoc' r k 0 (by omega)] at hsn
        have hDb : (r.getD k 0).toNat < 256 := (r.getD k 0).toNat_lt
        have HA := Lib.hid ha
        have HS := Lib.hid hsn
        clear ha hcell hsn
        generalize hD : (r.getD k 0).toNat = D at *
        clear hD
        have hkn : (1 + (k : Int)).toNat = 1 + k := by omega
        go_wp2
        go_round
        case rel => exact ⟨k + 1, a * 256 + D, by omega, by go_num, by go_num, HS.out.symm⟩
        case measure => simp [intOf]; omega
      · obtain rfl : k = 7 := by omega
        obtain rfl : a = n := by rw [ha, HN.out]
        have hcls' := Hcls.out
        clear ha hcell
        go_wp2_with (go_at_call 64; refine (refSize_any _ (by omega) _).mono ?_; rintro e w' ⟨rfl, rfl⟩)
        go_ret3
        exact ⟨rfl, rfl⟩

theorem nsize_cls (n q : Nat) (h : n < 4611686018427387904) (hq : q ≤ 3) : nsize n = 2 ^ q ↔ cls n = (q : Int) := by
  unfold nsize cls
  have : q = 0 ∨ q = 1 ∨ q = 2 ∨ q = 3 := by omega
  rcases this with rfl | rfl | rfl | rfl
  all_goals
    constructor
    · intro h; revert h; repeat' split
      all_goals (intro h; first | omega | (simp at h))
    · intro h; revert h; repeat' split
      all_goals (intro h; first | omega | rfl | (simp at h))
theorem refTake_any (v : Value) (l : List UInt8) (w : World) (h : Sh w v l) :
    Calls Try.prog 48 #[v] w fun e w' => e = .returned (.tuple #[.int .u64 (tk l).1, .int .i64 (tk l).2.1, .int .i64 (tk l).2.2]) ∧ w = w' := by
  cases l with
  | nil => exact (refTake_nil v w h)
  | cons c r =>
    by_cases hs : r.length + 1 < 2 ^ (c.toNat / 64)
    · have et : tk (c :: r) = (0, 0, 3) := by rw [tk_cons, if_pos hs]
      rw [et]
      exact refTake_short v c r w h hs
    · obtain ⟨x, cap, rfl, h1, h2, h3, h4⟩ := h.open
      obtain ⟨b, off, rfl, hc⟩ := h4.cells (by simp)
      have hlt : c.toNat < 256 := c.toNat_lt
      rw [tk_cons, if_neg hs]
      have hv : val (c.toNat % 64) (r.take (2 ^ (c.toNat / 64) - 1)) < 4611686018427387904 := by
        have g1 := val_le (r.take (2 ^ (c.toNat / 64) - 1)) (c.toNat % 64)
        have g2 : (r.take (2 ^ (c.toNat / 64) - 1)).length ≤ 7 := by
          have : 2 ^ (c.toNat / 64) ≤ 2 ^ 3 := Nat.pow_le_pow_right (by omega) (by omega)
          have := List.length_take_le (2 ^ (c.toNat / 64) - 1) r
          omega
        have g3 : (c.toNat % 64 + 1) * 256 ^ (r.take (2 ^ (c.toNat / 64) - 1)).length ≤ 64 * 256 ^ 7 := Nat.mul_le_mul (by omega) (Nat.pow_le_pow_right (by omega) g2)
        omega
      have hk := nsize_cls _ (c.toNat / 64) hv (by omega)
      have hq : c.toNat / 64 = 0 ∨ c.toNat / 64 = 1 ∨ c.toNat / 64 = 2 ∨ c.toNat / 64 = 3 := by omega
      rcases hq with hq | hq | hq | hq
      · rw [hq] at hk hs ⊢
        have core := refTake_core1 b off cap c r w hq (by simpa using h1) h2 (by simpa using hc) (Nat.le_of_not_lt hs) _ rfl
        by_cases hcls : cls (val (c.toNat % 64) (r.take (2 ^ 0 - 1)) : Nat) = ((0 : Nat) : Int)
        · rw [if_pos hcls]
          exact core.1 (hk.2 hcls)
        · rw [if_neg hcls]
          exact core.2 (fun e => hcls (hk.1 e))
      · rw [hq] at hk hs ⊢
        have core := refTake_core2 b off cap c r w hq (by simpa using h1) h2 (by simpa using hc) (Nat.le_of_not_lt hs) _ rfl
        by_cases hcls : cls (val (c.toNat % 64) (r.take (2 ^ 1 - 1)) : Nat) = ((1 : Nat) : Int)
        · rw [if_pos hcls]
          exact core.1 (hk.2 hcls)
        · rw [if_neg hcls]
          exact core.2 (fun e => hcls (hk.1 e))
      · rw [hq] at hk hs ⊢
        have core := refTake_core4 b off cap c r w hq (by simpa using h1) h2 (by simpa using hc) (Nat.le_of_not_lt hs) _ rfl
        by_cases hcls : cls (val (c.toNat % 64) (r.take (2 ^ 2 - 1)) : Nat) = ((2 : Nat) : Int)
        · rw [if_pos hcls]
          exact core.1 (hk.2 hcls)
        · rw [if_neg hcls]
          exact core.2 (fun e => hcls (hk.1 e))
      · rw [hq] at hk hs ⊢
        have core := refTake_core8 b off cap c r w hq (by simpa using h1) h2 (by simpa using hc) (Nat.le_of_not_lt hs) _ rfl
        by_cases hcls : cls (val (c.toNat % 64) (r.take (2 ^ 3 - 1)) : Nat) = ((3 : Nat) : Int)
        · rw [if_pos hcls]
          exact core.1 (hk.2 hcls)
        · rw [if_neg hcls]
          exact core.2 (fun e => hcls (hk.1 e))
end Go.Proofs.Ytkghkpkiodghiaa
