
import Derived.Test.YticabllkadpmeaaGreatDoorRows
import Derived.Test.YticabllkadpmeaaGreatDoorBase
import Derived.Test.YticabllkadpmeaaGreatDoorPlain
namespace Go.Proofs.YticabllkadpmeaaGreatDoor
set_option linter.unusedVariables false
set_option linter.unusedSimpArgs false
set_option linter.unnecessarySimpa false
open Go.RowKit
set_option maxRecDepth 20000
theorem ret_int {k : IntKind} {a b : Int} (h : a = b) : Ending.returned (.int k a) = .returned (.int k b) := by rw [h]

theorem info_byte : (Tryz.prog.info? 5).map (fun i => (i.zero, i.size, i.bytes)) = some (some (.int .u8 0), 1, 1) := by kernel_rfl

theorem run_slice_nil_eql (x : Option Addr) (n c : Nat) (w : World) : (binOp .eql 64 (.slice x n c) (.slice none 0 0)).run Tryz.prog w = .ok (.bool x.isNone) w :=
  Lib.run_eql_slice_nil w 64 5 x n c 0 0 Tryz.underlying64

/-- slices.Clone at []byte. -/
theorem clone_any (v : Value) (l : List UInt8) (w : World) (h : Sh w v l) (hl : l.length ≤ 140737488355328) :
    Calls Tryz.prog 50 #[v] w fun e w' => ∃ v', e = .returned v' ∧ Own w' w.heap.size 5 v' l ∧ Below w.heap.size w w' := by
  obtain ⟨x, cap, rfl, h1, h2, h3, h4⟩ := h.open
  cases x with
  | none =>
    have := h3 rfl
    obtain rfl : l = [] := List.eq_nil_of_length_eq_zero (by omega)
    have e : cap = 0 := h3 rfl
    subst e
    clear h3 h h4
    have hk := run_slice_nil_eql none 0 0 w
    show Calls _ _ #[.slice none 0 0] _ _
    go_enter Tryz.func50, Tryz.ntmps50
    go_wp2
    go_ret
    exact ⟨_, rfl, Own.nil _ _ _, Below.refl _ _⟩
  | some x =>
    have H4 := Lib.hid h4
    clear h h4 h3
    have hk := run_slice_nil_eql (some x) l.length cap w
    go_enter Tryz.func50, Tryz.ntmps50
    go_wp2_with (at_builtin; refine app_bytes (base := w.heap.size) Tryz.underlying64 info_byte rfl (.tmp 5) (.tmp 6) rfl (l := []) rfl (Own.lit w 5 []) rfl ((H4.out).below ((Below.refl _ _).alloc (Nat.le_refl _) _)) (by simpa using hl) (by simp) ?_; intro v' w' ho hb)
    go_ret
    exact ⟨v', rfl, ho, ((Below.refl _ _).alloc (Nat.le_refl _) _).trans hb⟩
theorem class_any (n : Int) (w : World) :
    Calls Tryz.prog 51 #[.int .u64 n] w fun e w' => e = .returned (.int .i64 (cls n)) ∧ w = w' := by
  go_enter Tryz.func51, Tryz.ntmps51
  go_wp2
  all_goals (go_ret; refine ⟨ret_int ?_, rfl⟩; unfold cls; repeat' split)
  all_goals omega
theorem or_tag (N c m : Nat) (h : N < 2 ^ m) (hc : c * 2 ^ m + N < 18446744073709551616) : bits .or .u64 (N : Int) ((c * 2 ^ m : Nat) : Int) = ((c * 2 ^ m + N : Nat) : Int) := by
  rw [bits_or_u64_nat _ _ (by omega) (by omega), Nat.or_comm, Nat.mul_comm c, ← Nat.two_pow_add_eq_or_of_lt h]

/-- The last k bytes of a number, the highest first. -/
def putB (x : Int) : Nat → List UInt8
  | 0 => []
  | k + 1 => ofI (x / 256 ^ k % 256) :: putB x k
theorem mod256 (x : Int) : 0 ≤ x % 256 ∧ x % 256 < 256 := by omega

theorem put3_any (v : Value) (l : List UInt8) (n : Int) (base : Nat) (w : World) (h : Own w base 5 v l) (hb : base ≤ w.heap.size) (hl : l.length + 8 ≤ 140737488355328) :
    Calls Tryz.prog 52 #[v, .int .u64 n, .int .i64 3] w fun e w' => ∃ v', e = .returned v' ∧ Own w' base 5 v' (l ++ putB (bits .or .u64 n 13835058055282163712) 8) ∧ Below base w w' := by
  have H := Lib.hid h
  clear h
  go_enter Tryz.func52, Tryz.ntmps52
  go_wp2_with (first
    | (at_builtin; refine app_bytes (base := base) Tryz.underlying64 info_byte rfl (.tmp 22) (.tmp 35) rfl rfl (H.out.alloc _) rfl (sh4 (mod256 _) (mod256 _) (mod256 _) (mod256 _)) (by simp; omega) (by simp; omega) ?_; intro v1 w1 ho1 hb1; have H1 := Lib.hid ho1; clear ho1; have s1 := hb1.size; simp at s1)
    | (at_builtin; refine app_bytes (base := base) Tryz.underlying64 info_byte rfl (.tmp 37) (.tmp 44) rfl rfl (H1.out.alloc _) rfl (sh2 (mod256 _) (mod256 _)) (by simp; omega) (by simp; omega) ?_; intro v2 w2 ho2 hb2; have H2 := Lib.hid ho2; clear ho2; have s2 := hb2.size; simp at s2)
    | (at_builtin; refine app_bytes (base := base) Tryz.underlying64 info_byte rfl (.tmp 46) (.tmp 50) rfl rfl (H2.out.alloc _) rfl (sh1 (mod256 _)) (by simp; omega) (by simp; omega) ?_; intro v3 w3 ho3 hb3; have H3 := Lib.hid ho3; clear ho3; have s3 := hb3.size; simp at s3)
    | (at_builtin; refine app_bytes (base := base) Tryz.underlying64 info_byte rfl (.tmp 52) (.tmp 55) rfl rfl (H3.out.alloc _) rfl (sh1 (mod256 _)) (by simp; omega) (by simp; omega) ?_; intro v4 w4 ho4 hb4; have H4 := Lib.hid ho4; clear ho4; have s4 := hb4.size; simp at s4))
  go_ret
  refine ⟨v4, rfl, ?_, ?_⟩
  · have := H4.out
    simpa [putB] using this
  · have k (o : Obj) (w : World) (h : base ≤ w.heap.size) : Below base w (w.alloc o) := (Below.refl _ _).alloc h o
    exact ((k _ _ hb).trans hb1).trans (((k _ _ (by omega)).trans hb2).trans (((k _ _ (by omega)).trans hb3).trans ((k _ _ (by omega)).trans hb4)))

theorem put2_any (v : Value) (l : List UInt8) (n : Int) (base : Nat) (w : World) (h : Own w base 5 v l) (hb : base ≤ w.heap.size) (hl : l.length + 8 ≤ 140737488355328) :
    Calls Tryz.prog 52 #[v, .int .u64 n, .int .i64 2] w fun e w' => ∃ v', e = .returned v' ∧ Own w' base 5 v' (l ++ putB (bits .or .u64 n 2147483648) 4) ∧ Below base w w' := by
  have H := Lib.hid h
  clear h
  go_enter Tryz.func52, Tryz.ntmps52
  go_wp2_with (first
    | (at_builtin; refine app_bytes (base := base) Tryz.underlying64 info_byte rfl (.tmp 37) (.tmp 44) rfl rfl (H.out.alloc _) rfl (sh2 (mod256 _) (mod256 _)) (by simp; omega) (by simp; omega) ?_; intro v2 w2 ho2 hb2; have H2 := Lib.hid ho2; clear ho2; have s2 := hb2.size; simp at s2)
    | (at_builtin; refine app_bytes (base := base) Tryz.underlying64 info_byte rfl (.tmp 46) (.tmp 50) rfl rfl (H2.out.alloc _) rfl (sh1 (mod256 _)) (by simp; omega) (by simp; omega) ?_; intro v3 w3 ho3 hb3; have H3 := Lib.hid ho3; clear ho3; have s3 := hb3.size; simp at s3)
    | (at_builtin; refine app_bytes (base := base) Tryz.underlying64 info_byte rfl (.tmp 52) (.tmp 55) rfl rfl (H3.out.alloc _) rfl (sh1 (mod256 _)) (by simp; omega) (by simp; omega) ?_; intro v4 w4 ho4 hb4; have H4 := Lib.hid ho4; clear ho4; have s4 := hb4.size; simp at s4))
  go_ret
  refine ⟨v4, rfl, ?_, ?_⟩
  · have := H4.out
    simpa [putB] using this
  · have k (o : Obj) (w : World) (h : base ≤ w.heap.size) : Below base w (w.alloc o) := (Below.refl _ _).alloc h o
    exact (((k _ _ (by omega)).trans hb2).trans (((k _ _ (by omega)).trans hb3).trans ((k _ _ (by omega)).trans hb4)))

theorem put1_any (v : Value) (l : List UInt8) (n : Int) (base : Nat) (w : World) (h : Own w base 5 v l) (hb : base ≤ w.heap.size) (hl : l.length + 8 ≤ 140737488355328) :
    Calls Tryz.prog 52 #[v, .int .u64 n, .int .i64 1] w fun e w' => ∃ v', e = .returned v' ∧ Own w' base 5 v' (l ++ putB (bits .or .u64 n 16384) 2) ∧ Below base w w' := by
  have H := Lib.hid h
  clear h
  go_enter Tryz.func52, Tryz.ntmps52
  go_wp2_with (first
    | (at_builtin; refine app_bytes (base := base) Tryz.underlying64 info_byte rfl (.tmp 46) (.tmp 50) rfl rfl (H.out.alloc _) rfl (sh1 (mod256 _)) (by simp; omega) (by simp; omega) ?_; intro v3 w3 ho3 hb3; have H3 := Lib.hid ho3; clear ho3; have s3 := hb3.size; simp at s3)
    | (at_builtin; refine app_bytes (base := base) Tryz.underlying64 info_byte rfl (.tmp 52) (.tmp 55) rfl rfl (H3.out.alloc _) rfl (sh1 (mod256 _)) (by simp; omega) (by simp; omega) ?_; intro v4 w4 ho4 hb4; have H4 := Lib.hid ho4; clear ho4; have s4 := hb4.size; simp at s4))
  go_ret
  refine ⟨v4, rfl, ?_, ?_⟩
  · have := H4.out
    simpa [putB] using this
  · have k (o : Obj) (w : World) (h : base ≤ w.heap.size) : Below base w (w.alloc o) := (Below.refl _ _).alloc h o
    exact (((k _ _ (by omega)).trans hb3).trans ((k _ _ (by omega)).trans hb4))

theorem put0_any (v : Value) (l : List UInt8) (n : Int) (base : Nat) (w : World) (h : Own w base 5 v l) (hb : base ≤ w.heap.size) (hl : l.length + 8 ≤ 140737488355328) :
    Calls Tryz.prog 52 #[v, .int .u64 n, .int .i64 0] w fun e w' => ∃ v', e = .returned v' ∧ Own w' base 5 v' (l ++ putB (bits .or .u64 n 0) 1) ∧ Below base w w' := by
  have H := Lib.hid h
  clear h
  go_enter Tryz.func52, Tryz.ntmps52
  go_wp2_with (first
    | (at_builtin; refine app_bytes (base := base) Tryz.underlying64 info_byte rfl (.tmp 52) (.tmp 55) rfl rfl (H.out.alloc _) rfl (sh1 (mod256 _)) (by simp; omega) (by simp; omega) ?_; intro v4 w4 ho4 hb4; have H4 := Lib.hid ho4; clear ho4; have s4 := hb4.size; simp at s4))
  go_ret
  refine ⟨v4, rfl, ?_, ?_⟩
  · have := H4.out
    simpa [putB] using this
  · have k (o : Obj) (w : World) (h : base ≤ w.heap.size) : Below base w (w.alloc o) := (Below.refl _ _).alloc h o
    exact ((k _ _ (by omega)).trans hb4)

theorem ofI_eq {a : Int} {n : Nat} (h : a % 256 = (n : Int) % 256) (h0 : 0 ≤ a) : ofI (a % 256) = UInt8.ofNat n := by
  unfold ofI
  apply UInt8.toNat_inj.1
  rw [UInt8.toNat_ofNat', UInt8.toNat_ofNat']
  omega
theorem enc_put3 (N : Nat) (h1 : 1073741824 ≤ N) (h2 : N < 4611686018427387904) : putB (bits .or .u64 (N : Int) 13835058055282163712) 8 = enc N := by
  have hor := or_tag N 3 62 (by omega) (by omega)
  rw [show ((3 * 2 ^ 62 : Nat) : Int) = 13835058055282163712 by decide] at hor
  rw [hor]
  unfold enc
  rw [if_neg (by omega), if_neg (by omega), if_neg (by omega)]
  simp only [putB, List.cons.injEq, and_true]
  refine ⟨ofI_eq ?_ ?_, ofI_eq ?_ ?_, ofI_eq ?_ ?_, ofI_eq ?_ ?_, ofI_eq ?_ ?_, ofI_eq ?_ ?_, ofI_eq ?_ ?_, ofI_eq ?_ ?_⟩ <;> omega
theorem enc_put2 (N : Nat) (h1 : 16384 ≤ N) (h2 : N < 1073741824) : putB (bits .or .u64 (N : Int) 2147483648) 4 = enc N := by
  have hor := or_tag N 2 30 (by omega) (by omega)
  rw [show ((2 * 2 ^ 30 : Nat) : Int) = 2147483648 by decide] at hor
  rw [hor]
  unfold enc
  rw [if_neg (by omega), if_neg (by omega), if_pos (by omega)]
  simp only [putB, List.cons.injEq, and_true]
  refine ⟨ofI_eq ?_ ?_, ofI_eq ?_ ?_, ofI_eq ?_ ?_, ofI_eq ?_ ?_⟩ <;> omega
theorem enc_put1 (N : Nat) (h1 : 64 ≤ N) (h2 : N < 16384) : putB (bits .or .u64 (N : Int) 16384) 2 = enc N := by
  have hor := or_tag N 1 14 (by omega) (by omega)
  rw [show ((1 * 2 ^ 14 : Nat) : Int) = 16384 by decide] at hor
  rw [hor]
  unfold enc
  rw [if_neg (by omega), if_pos (by omega)]
  simp only [putB, List.cons.injEq, and_true]
  refine ⟨ofI_eq ?_ ?_, ofI_eq ?_ ?_⟩ <;> omega
theorem enc_put0 (N : Nat) (h2 : N < 64) : putB (bits .or .u64 (N : Int) 0) 1 = enc N := by
  have hor := or_tag N 0 6 (by omega) (by omega)
  rw [show ((0 * 2 ^ 6 : Nat) : Int) = 0 by decide] at hor
  rw [hor]
  unfold enc
  rw [if_pos (by omega)]
  simp only [putB, List.cons.injEq, and_true]
  refine ofI_eq ?_ ?_ <;> omega

theorem put_any (v : Value) (l : List UInt8) (n : Int) (base : Nat) (w : World) (h : Own w base 5 v l) (hb : base ≤ w.heap.size) (hl : l.length + 8 ≤ 140737488355328) (h0 : 0 ≤ n) (hn : n < 4611686018427387904) :
    Calls Tryz.prog 52 #[v, .int .u64 n, .int .i64 (cls n)] w fun e w' => ∃ v', e = .returned v' ∧ Own w' base 5 v' (l ++ enc n.toNat) ∧ Below base w w' := by
  obtain ⟨N, rfl⟩ := Int.eq_ofNat_of_zero_le h0
  rw [Int.toNat_natCast]
  by_cases c3 : 1073741824 ≤ N
  · rw [show cls N = 3 by unfold cls; repeat' split; all_goals omega, ← enc_put3 N c3 (by omega)]
    exact put3_any v l N base w h hb hl
  · by_cases c2 : 16384 ≤ N
    · rw [show cls N = 2 by unfold cls; repeat' split; all_goals omega, ← enc_put2 N c2 (by omega)]
      exact put2_any v l N base w h hb hl
    · by_cases c1 : 64 ≤ N
      · rw [show cls N = 1 by unfold cls; repeat' split; all_goals omega, ← enc_put1 N c1 (by omega)]
        exact put1_any v l N base w h hb hl
      · rw [show cls N = 0 by unfold cls; repeat' split; all_goals omega, ← enc_put0 N (by omega)]
        exact put0_any v l N base w h hb hl
end Go.Proofs.YticabllkadpmeaaGreatDoor
