
import Derived.Test.YtkghkpkiodghiaaPfxS
import Derived.Deep.QuietTactic
import Derived.BigQuiet
namespace Go.Proofs.Ytkghkpkiodghiaa
set_option linter.unusedVariables false
set_option linter.unusedSimpArgs false
set_option linter.unnecessarySimpa false
open Go.RowKit
set_option maxRecDepth 20000

theorem or_byte (a : Nat) (c : UInt8) (h : a < 72057594037927936) : bits .or .u64 ((a * 256 : Nat) : Int) (c.toNat : Int) = ((a * 256 + c.toNat : Nat) : Int) := by
  have hc : c.toNat < 256 := c.toNat_lt
  rw [bits_or_u64_nat _ _ (by omega) (by omega), show a * 256 = 2 ^ 8 * a by omega, ← Nat.two_pow_add_eq_or_of_lt (by omega)]
theorem take_nil (v : Value) (w : World) (h : Sh w v []) :
    Calls Try.prog 56 #[v] w fun e w' => e = .returned (.tuple #[.int .u64 0, .slice none 0 0, .int .i64 3]) ∧ w = w' := by
  obtain ⟨x, cap, rfl, h1, h2, h3, h4⟩ := h.open
  go_enter Try.func56, Try.ntmps56
  go_wp2
  go_ret3
  exact ⟨rfl, rfl⟩

theorem take_short (v : Value) (c : UInt8) (r : List UInt8) (w : World) (h : Sh w v (c :: r)) (hs : r.length + 1 < 2 ^ (c.toNat / 64)) :
    Calls Try.prog 56 #[v] w fun e w' => e = .returned (.tuple #[.int .u64 0, .slice none 0 0, .int .i64 3]) ∧ w = w' := by
  obtain ⟨x, cap, rfl, h1, h2, h3, h4⟩ := h.open
  obtain ⟨b, off, rfl, hc⟩ := h4.cells (by simp)
  have h0 : w.cell? ⟨b, off, none⟩ = some (.int .u8 (c.toNat : Int)) := by simpa using hc 0 (by simp)
  have hlt : c.toNat < 256 := c.toNat_lt
  have hne : (((c :: r).length : Int) == 0) = false := by simp; omega
  clear h h3 h4 hc
  generalize hL : (c :: r).length = L at *
  have hL' : L < 2 ^ (c.toNat / 64) := by rw [← hL]; exact hs
  have hq : c.toNat / 64 = 0 ∨ c.toNat / 64 = 1 ∨ c.toNat / 64 = 2 ∨ c.toNat / 64 = 3 := by omega
  have hL1 : 1 ≤ L := by rw [← hL]; simp
  clear hs hL
  generalize hC : c.toNat = C at *
  rcases hq with hq | hq | hq | hq
  all_goals
    rw [hq] at hL'
    have hq' : (C : Int) / 64 = ((C / 64 : Nat) : Int) := by omega
    rw [hq] at hq'
    simp at hL'
    clear hq hC
    first
    | (exfalso; omega)
    | (go_enter Try.func56, Try.ntmps56
       go_wp2
       go_ret3
       exact ⟨rfl, rfl⟩)

/-- The bytes behind the first one, read into a number; q: the class, s: the size that the first byte tells. -/
theorem take_core (b off cap : Nat) (c : UInt8) (r : List UInt8) (w : World) (q s : Nat) (hqs : (q = 0 ∧ s = 1) ∨ (q = 1 ∧ s = 2) ∨ (q = 2 ∧ s = 4) ∨ (q = 3 ∧ s = 8)) (hq : c.toNat / 64 = q) (hcap : r.length + 1 ≤ cap) (hcapm : cap ≤ 9223372036854775807)
    (hc : ∀ j, j < r.length + 1 → w.cell? ⟨b, off + j, none⟩ = some (.int .u8 (((c :: r).getD j 0).toNat : Int))) (hs : s ≤ r.length + 1) (n : Nat) (hn : n = val (c.toNat % 64) (r.take (s - 1))) :
    (cls n = (q : Int) → Calls Try.prog 56 #[.slice (some ⟨b, off, none⟩) (r.length + 1) cap] w fun e w' =>
      e = .returned (.tuple #[.int .u64 n, .slice (if cap = s then some ⟨b, off, none⟩ else (some (⟨b, off, none⟩ : Addr)).map (·.add s)) (r.length + 1 - s) (cap - s), .int .i64 0]) ∧ ∃ m, w' = w.drewN m) ∧
    (cls n ≠ (q : Int) → Calls Try.prog 56 #[.slice (some ⟨b, off, none⟩) (r.length + 1) cap] w fun e w' => e = .returned (.tuple #[.int .u64 0, .slice none 0 0, .int .i64 4]) ∧ ∃ m, w' = w.drewN m) := by
  have h0 : w.cell? ⟨b, off, none⟩ = some (.int .u8 (c.toNat : Int)) := by simpa using hc 0 (by simp)
  have hlt : c.toNat < 256 := c.toNat_lt
  generalize hL : r.length + 1 = L at *
  have hL1 : 1 ≤ L := by omega
  have hne : ((L : Int) == 0) = false := by simp; omega
  have hcell : ∀ j, j < s - 1 → w.cell? ⟨b, off + 1 + j, none⟩ = some (.int .u8 ((r.getD j 0).toNat : Int)) := fun j hj => by
    have := hc (1 + j) (by omega)
    rw [← Nat.add_assoc] at this
    rw [this, show 1 + j = j + 1 by omega]; simp
  have HC := Lib.hid hc
  have HN := Lib.hid hn
  have HL := Lib.hid hL
  clear hc hn hL
  generalize hC : c.toNat = C at *
  have hq' : (C : Int) / 64 = ((C / 64 : Nat) : Int) := by omega
  rw [hq] at hq'
  clear hC hq
  have hval : ∀ k, k ≤ 6 → val (C % 64) (r.take k) < 72057594037927936 := fun k hk => by
    have h1 := val_le (r.take k) (C % 64)
    have h2 : (r.take k).length ≤ k := List.length_take_le _ _
    have h3 : (C % 64 + 1) * 256 ^ (r.take k).length ≤ 64 * 256 ^ 6 := Nat.mul_le_mul (by omega) (Nat.pow_le_pow_right (by omega) (by omega))
    omega
  have HV := Lib.hid hval
  clear hval
  have hrl : s - 1 ≤ r.length := by have := HL.out; omega
  rcases hqs with ⟨rfl, rfl⟩ | ⟨rfl, rfl⟩ | ⟨rfl, rfl⟩ | ⟨rfl, rfl⟩
  · have hn : n = C % 64 := by rw [HN.out]; rfl
    subst hn
    clear HV hrl hcell
    constructor
    · intro hcls
      have hcls' : (cls ((C % 64 : Nat) : Int) != 0) = false := by simpa using hcls
      push_cast at hcls'
      clear hcls
      by_cases h1 : cap = 1
      all_goals
        go_enter Try.func56, Try.ntmps56
        go_wp2_with fail
        refine wp_loop_rounds 1 ?_
        rw [rounds_succ]
        go_wp2_with (go_at_call 58; refine (class_any _ _).mono ?_; rintro e w' ⟨rfl, rfl⟩)
        go_quiet (fail)
        go_wp2
        go_ret3
        refine ⟨by simp [h1], nq, rfl⟩
    · intro hcls
      have hcls' : (cls ((C % 64 : Nat) : Int) != 0) = true := by simpa using hcls
      push_cast at hcls'
      clear hcls
      by_cases h1 : cap = 1
      all_goals
        go_enter Try.func56, Try.ntmps56
        go_wp2_with fail
        refine wp_loop_rounds 1 ?_
        rw [rounds_succ]
        go_wp2_with (go_at_call 58; refine (class_any _ _).mono ?_; rintro e w' ⟨rfl, rfl⟩)
        go_ret3
        exact ⟨rfl, 0, rfl⟩
  · have h1 : ¬ cap = 1 := by omega
    constructor
    · intro hcls
      have hcls' : (cls (n : Int) != 1) = false := by simpa using hcls
      clear hcls
      go_enter Try.func56, Try.ntmps56
      go_wp2_with fail
      go_loop [7, 33] (fun m i => ∃ k a : Nat, k ≤ 1 ∧ i = .int .i64 k ∧ m = .int .u64 a ∧ a = val (C % 64) (r.take k)) (fun _ i => 1 - (intOf i).toNat)
      case atStart => exact ⟨0, C % 64, by omega, rfl, by simp, rfl⟩
      case round =>
        obtain ⟨k, a, hk, rfl, rfl, ha⟩ := hrel
        by_cases hlt : k < 1
        · have hv := HV.out k (by omega)
          rw [← ha] at hv
          have hcl := hcell k (by omega)
          have ho := or_byte a (r.getD k 0) hv
          have hsn := val_snoc (r.take k) (r.getD k 0) (C % 64)
          rw [← ha, ← take_snoc' r k 0 (by omega)] at hsn
          have hDb : (r.getD k 0).toNat < 256 := (r.getD k 0).toNat_lt
          push_cast at ho
          have HA := Lib.hid ha
          have HO := Lib.hid ho
          have HS := Lib.hid hsn
          clear ha ho hcell hsn
          generalize hD : (r.getD k 0).toNat = D at *
          clear hD
          go_wp2
          go_round
          case rel => exact ⟨k + 1, a * 256 + D, by omega, by go_num, by rw [HO.out]; simp, HS.out.symm⟩
          case measure => simp [intOf]; omega
        · obtain rfl : k = 1 := by omega
          obtain rfl : a = n := by rw [ha, HN.out]
          clear ha hcell
          go_wp2_with (go_at_call 58; refine (class_any _ _).mono ?_; rintro e w' ⟨rfl, rfl⟩)
          by_cases hs2 : cap = 2
          all_goals
            go_quiet (fail)
            go_wp2
            go_ret3
            exact ⟨by simp [hs2], nq, rfl⟩
    · intro hcls
      have hcls' : (cls (n : Int) != 1) = true := by simpa using hcls
      clear hcls
      go_enter Try.func56, Try.ntmps56
      go_wp2_with fail
      go_loop [7, 33] (fun m i => ∃ k a : Nat, k ≤ 1 ∧ i = .int .i64 k ∧ m = .int .u64 a ∧ a = val (C % 64) (r.take k)) (fun _ i => 1 - (intOf i).toNat)
      case atStart => exact ⟨0, C % 64, by omega, rfl, by simp, rfl⟩
      case round =>
        obtain ⟨k, a, hk, rfl, rfl, ha⟩ := hrel
        by_cases hlt : k < 1
        · have hv := HV.out k (by omega)
          rw [← ha] at hv
          have hcl := hcell k (by omega)
          have ho := or_byte a (r.getD k 0) hv
          have hsn := val_snoc (r.take k) (r.getD k 0) (C % 64)
          rw [← ha, ← take_snoc' r k 0 (by omega)] at hsn
          have hDb : (r.getD k 0).toNat < 256 := (r.getD k 0).toNat_lt
          push_cast at ho
          have HA := Lib.hid ha
          have HO := Lib.hid ho
          have HS := Lib.hid hsn
          clear ha ho hcell hsn
          generalize hD : (r.getD k 0).toNat = D at *
          clear hD
          go_wp2
          go_round
          case rel => exact ⟨k + 1, a * 256 + D, by omega, by go_num, by rw [HO.out]; simp, HS.out.symm⟩
          case measure => simp [intOf]; omega
        · obtain rfl : k = 1 := by omega
          obtain rfl : a = n := by rw [ha, HN.out]
          clear ha hcell
          go_wp2_with (go_at_call 58; refine (class_any _ _).mono ?_; rintro e w' ⟨rfl, rfl⟩)
          go_ret3
          exact ⟨rfl, 0, rfl⟩
  · have h1 : ¬ cap = 1 := by omega
    constructor
    · intro hcls
      have hcls' : (cls (n : Int) != 2) = false := by simpa using hcls
      clear hcls
      go_enter Try.func56, Try.ntmps56
      go_wp2_with fail
      go_loop [7, 33] (fun m i => ∃ k a : Nat, k ≤ 3 ∧ i = .int .i64 k ∧ m = .int .u64 a ∧ a = val (C % 64) (r.take k)) (fun _ i => 3 - (intOf i).toNat)
      case atStart => exact ⟨0, C % 64, by omega, rfl, by simp, rfl⟩
      case round =>
        obtain ⟨k, a, hk, rfl, rfl, ha⟩ := hrel
        by_cases hlt : k < 3
        · have hv := HV.out k (by omega)
          rw [← ha] at hv
          have hcl := hcell k (by omega)
          have ho := or_byte a (r.getD k 0) hv
          have hsn := val_snoc (r.take k) (r.getD k 0) (C % 64)
          rw [← ha, ← take_snoc' r k 0 (by omega)] at hsn
          have hDb : (r.getD k 0).toNat < 256 := (r.getD k 0).toNat_lt
          push_cast at ho
          have HA := Lib.hid ha
          have HO := Lib.hid ho
          have HS := Lib.hid hsn
          clear ha ho hcell hsn
          generalize hD : (r.getD k 0).toNat = D at *
          clear hD
          go_wp2
          go_round
          case rel => exact ⟨k + 1, a * 256 + D, by omega, by go_num, by rw [HO.out]; simp, HS.out.symm⟩
          case measure => simp [intOf]; omega
        · obtain rfl : k = 3 := by omega
          obtain rfl : a = n := by rw [ha, HN.out]
          clear ha hcell
          go_wp2_with (go_at_call 58; refine (class_any _ _).mono ?_; rintro e w' ⟨rfl, rfl⟩)
          by_cases hs2 : cap = 4
          all_goals
            go_quiet (fail)
            go_wp2
            go_ret3
            exact ⟨by simp [hs2], nq, rfl⟩
    · intro hcls
      have hcls' : (cls (n : Int) != 2) = true := by simpa using hcls
      clear hcls
      go_enter Try.func56, Try.ntmps56
      go_wp2_with fail
      go_loop [7, 33] (fun m i => ∃ k a : Nat, k ≤ 3 ∧ i = .int .i64 k ∧ m = .int .u64 a ∧ a = val (C % 64) (r.take k)) (fun _ i => 3 - (intOf i).toNat)
      case atStart => exact ⟨0, C % 64, by omega, rfl, by simp, rfl⟩
      case round =>
        obtain ⟨k, a, hk, rfl, rfl, ha⟩ := hrel
        by_cases hlt : k < 3
        · have hv := HV.out k (by omega)
          rw [← ha] at hv
          have hcl := hcell k (by omega)
          have ho := or_byte a (r.getD k 0) hv
          have hsn := val_snoc (r.take k) (r.getD k 0) (C % 64)
          rw [← ha, ← take_snoc' r k 0 (by omega)] at hsn
          have hDb : (r.getD k 0).toNat < 256 := (r.getD k 0).toNat_lt
          push_cast at ho
          have HA := Lib.hid ha
          have HO := Lib.hid ho
          have HS := Lib.hid hsn
          clear ha ho hcell hsn
          generalize hD : (r.getD k 0).toNat = D at *
          clear hD
          go_wp2
          go_round
          case rel => exact ⟨k + 1, a * 256 + D, by omega, by go_num, by rw [HO.out]; simp, HS.out.symm⟩
          case measure => simp [intOf]; omega
        · obtain rfl : k = 3 := by omega
          obtain rfl : a = n := by rw [ha, HN.out]
          clear ha hcell
          go_wp2_with (go_at_call 58; refine (class_any _ _).mono ?_; rintro e w' ⟨rfl, rfl⟩)
          go_ret3
          exact ⟨rfl, 0, rfl⟩
  · have h1 : ¬ cap = 1 := by omega
    constructor
    · intro hcls
      have hcls' : (cls (n : Int) != 3) = false := by simpa using hcls
      clear hcls
      go_enter Try.func56, Try.ntmps56
      go_wp2_with fail
      go_loop [7, 33] (fun m i => ∃ k a : Nat, k ≤ 7 ∧ i = .int .i64 k ∧ m = .int .u64 a ∧ a = val (C % 64) (r.take k)) (fun _ i => 7 - (intOf i).toNat)
      case atStart => exact ⟨0, C % 64, by omega, rfl, by simp, rfl⟩
      case round =>
        obtain ⟨k, a, hk, rfl, rfl, ha⟩ := hrel
        by_cases hlt : k < 7
        · have hv := HV.out k (by omega)
          rw [← ha] at hv
          have hcl := hcell k (by omega)
          have ho := or_byte a (r.getD k 0) hv
          have hsn := val_snoc (r.take k) (r.getD k 0) (C % 64)
          rw [← ha, ← take_snoc' r k 0 (by omega)] at hsn
          have hDb : (r.getD k 0).toNat < 256 := (r.getD k 0).toNat_lt
          push_cast at ho
          have HA := Lib.hid ha
          have HO := Lib.hid ho
          have HS := Lib.hid hsn
          clear ha ho hcell hsn
          generalize hD : (r.getD k 0).toNat = D at *
          clear hD
          go_wp2
          go_round
          case rel => exact ⟨k + 1, a * 256 + D, by omega, by go_num, by rw [HO.out]; simp, HS.out.symm⟩
          case measure => simp [intOf]; omega
        · obtain rfl : k = 7 := by omega
          obtain rfl : a = n := by rw [ha, HN.out]
          clear ha hcell
          go_wp2_with (go_at_call 58; refine (class_any _ _).mono ?_; rintro e w' ⟨rfl, rfl⟩)
          by_cases hs2 : cap = 8
          all_goals
            go_quiet (fail)
            go_wp2
            go_ret3
            exact ⟨by simp [hs2], nq, rfl⟩
    · intro hcls
      have hcls' : (cls (n : Int) != 3) = true := by simpa using hcls
      clear hcls
      go_enter Try.func56, Try.ntmps56
      go_wp2_with fail
      go_loop [7, 33] (fun m i => ∃ k a : Nat, k ≤ 7 ∧ i = .int .i64 k ∧ m = .int .u64 a ∧ a = val (C % 64) (r.take k)) (fun _ i => 7 - (intOf i).toNat)
      case atStart => exact ⟨0, C % 64, by omega, rfl, by simp, rfl⟩
      case round =>
        obtain ⟨k, a, hk, rfl, rfl, ha⟩ := hrel
        by_cases hlt : k < 7
        · have hv := HV.out k (by omega)
          rw [← ha] at hv
          have hcl := hcell k (by omega)
          have ho := or_byte a (r.getD k 0) hv
          have hsn := val_snoc (r.take k) (r.getD k 0) (C % 64)
          rw [← ha, ← take_snoc' r k 0 (by omega)] at hsn
          have hDb : (r.getD k 0).toNat < 256 := (r.getD k 0).toNat_lt
          push_cast at ho
          have HA := Lib.hid ha
          have HO := Lib.hid ho
          have HS := Lib.hid hsn
          clear ha ho hcell hsn
          generalize hD : (r.getD k 0).toNat = D at *
          clear hD
          go_wp2
          go_round
          case rel => exact ⟨k + 1, a * 256 + D, by omega, by go_num, by rw [HO.out]; simp, HS.out.symm⟩
          case measure => simp [intOf]; omega
        · obtain rfl : k = 7 := by omega
          obtain rfl : a = n := by rw [ha, HN.out]
          clear ha hcell
          go_wp2_with (go_at_call 58; refine (class_any _ _).mono ?_; rintro e w' ⟨rfl, rfl⟩)
          go_ret3
          exact ⟨rfl, 0, rfl⟩

theorem take_any (v : Value) (l : List UInt8) (w : World) (h : Sh w v l) :
    Calls Try.prog 56 #[v] w fun e w' => ∃ v', e = .returned (.tuple #[.int .u64 (tk l).1, v', .int .i64 (tk l).2.2]) ∧ (∀ W, Sh W v l → Sh W v' (tkRest l)) ∧ ∃ m, w' = w.drewN m := by
  cases l with
  | nil => exact (take_nil v w h).mono fun e w' ⟨he, hw⟩ => ⟨_, he, fun W _ => Sh.nil W, 0, hw.symm⟩
  | cons c r =>
    by_cases hs : r.length + 1 < 2 ^ (c.toNat / 64)
    · have et : tk (c :: r) = (0, 0, 3) := by rw [tk_cons, if_pos hs]
      refine (take_short v c r w h hs).mono fun e w' ⟨he, hw⟩ => ⟨.slice none 0 0, ?_, ?_, 0, hw.symm⟩
      · rw [he, et]; rfl
      · intro W _; unfold tkRest; rw [et]; exact Sh.nil W
    · obtain ⟨x, cap, rfl, h1, h2, h3, h4⟩ := h.open
      obtain ⟨b, off, rfl, hc⟩ := h4.cells (by simp)
      have hlt : c.toNat < 256 := c.toNat_lt
      obtain ⟨q, s, hqs, hq, hp⟩ : ∃ q s, ((q = 0 ∧ s = 1) ∨ (q = 1 ∧ s = 2) ∨ (q = 2 ∧ s = 4) ∨ (q = 3 ∧ s = 8)) ∧ c.toNat / 64 = q ∧ 2 ^ (c.toNat / 64) = s := by
        have : c.toNat / 64 = 0 ∨ c.toNat / 64 = 1 ∨ c.toNat / 64 = 2 ∨ c.toNat / 64 = 3 := by omega
        rcases this with e | e | e | e <;> rw [e]
        · exact ⟨0, 1, by simp⟩
        · exact ⟨1, 2, by simp⟩
        · exact ⟨2, 4, by simp⟩
        · exact ⟨3, 8, by simp⟩
      have core := take_core b off cap c r w q s hqs hq (by simpa using h1) h2 (by simpa using hc) (by omega) _ rfl
      have etk : tk (c :: r) = if cls (val (c.toNat % 64) (r.take (s - 1))) = (q : Int) then (val (c.toNat % 64) (r.take (s - 1)), s, 0) else (0, 0, 4) := by
        rw [tk_cons, if_neg hs, hp, hq]
      by_cases hcls : cls (val (c.toNat % 64) (r.take (s - 1))) = (q : Int)
      · rw [if_pos hcls] at etk
        refine (core.1 hcls).mono fun e w' ⟨he, hw⟩ => ⟨.slice (if cap = s then some ⟨b, off, none⟩ else (some (⟨b, off, none⟩ : Addr)).map (·.add s)) (r.length + 1 - s) (cap - s), ?_, ?_, hw⟩
        · rw [he, etk]; rfl
        · intro W hW
          have hsl := hW.sliced (lo := s) (hi := (c :: r).length) (m := cap) (by simp; omega) (Nat.le_refl _) h1 (Nat.le_refl _)
          have e1 : tkRest (c :: r) = ((c :: r).drop s).take ((c :: r).length - s) := by
            unfold tkRest; rw [etk]; exact (List.take_of_length_le (l := (c :: r).drop s) (by simp)).symm
          rw [e1]; exact hsl
      · rw [if_neg hcls] at etk
        refine (core.2 hcls).mono fun e w' ⟨he, hw⟩ => ⟨.slice none 0 0, ?_, ?_, hw⟩
        · rw [he, etk]; rfl
        · intro W _; unfold tkRest; rw [etk]; exact Sh.nil W
end Go.Proofs.Ytkghkpkiodghiaa
