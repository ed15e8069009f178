/- slices.Clone and slices.Concat of bytes. -/
import Derived.Test.YtkghkpkiodghiaaRows
import Derived.Test.YtkghkpkiodghiaaBase
import Derived.Test.YtkghkpkiodghiaaOpenBss
import Derived.Lib.AppendZeros
namespace Go.Proofs.Ytkghkpkiodghiaa
set_option linter.unusedVariables false
set_option linter.unusedSimpArgs false
set_option linter.unnecessarySimpa false
open Go.RowKit
set_option maxRecDepth 100000
set_option maxHeartbeats 4000000
theorem info_byte : (Try.prog.info? 5).map (fun i => (i.zero, i.size, i.bytes)) = some (some (.int .u8 0), 1, 1) := by kernel_rfl

theorem run_slice_nil_eql (x : Option Addr) (n c : Nat) (w : World) : (binOp .eql 27 (.slice x n c) (.slice none 0 0)).run Try.prog w = .ok (.bool x.isNone) w :=
  Lib.run_eql_slice_nil w 27 5 x n c 0 0 Try.underlying27

/-- slices.Clone at []byte. -/
theorem clone_any (v : Value) (l : List UInt8) (w : World) (h : Sh w v l) (hl : l.length ≤ 140737488355328) :
    Calls Try.prog 37 #[v] w fun e w' => ∃ v', e = .returned v' ∧ Own w' w.heap.size 5 v' l ∧ Below w.heap.size w w' := by
  obtain ⟨x, cap, rfl, h1, h2, h3, h4⟩ := h.open
  cases x with
  | none =>
    have := h3 rfl
    obtain rfl : l = [] := List.eq_nil_of_length_eq_zero (by omega)
    have e : cap = 0 := h3 rfl
    subst e
    clear h3 h h4
    have hk := run_slice_nil_eql none 0 0 w
    show Calls _ _ #[.slice none 0 0] _ _
    go_enter Try.func37, Try.ntmps37
    go_wp2
    go_ret
    exact ⟨_, rfl, Own.nil _ _ _, Below.refl _ _⟩
  | some x =>
    have H4 := Lib.hid h4
    clear h h4 h3
    have hk := run_slice_nil_eql (some x) l.length cap w
    go_enter Try.func37, Try.ntmps37
    go_wp2_with (at_builtin; refine app_bytes (base := w.heap.size) Try.underlying27 info_byte rfl (.tmp 5) (.tmp 6) rfl (l := []) rfl (Own.lit w 5 []) rfl ((H4.out).below ((Below.refl _ _).alloc (Nat.le_refl _) _)) (by simpa using hl) (by simp) ?_; intro v' w' ho hb)
    go_ret
    exact ⟨v', rfl, ho, ((Below.refl _ _).alloc (Nat.le_refl _) _).trans hb⟩

theorem grow_nil (n : Nat) (w : World) (hn : n ≤ 140737488355328) :
    Calls Try.prog 54 #[.slice none 0 0, .int .i64 n] w fun e w' => ∃ v', e = .returned v' ∧ Own w' w.heap.size 5 v' [] ∧ Below w.heap.size w w' := by
  by_cases h0 : n = 0
  · subst h0
    go_enter Try.func54, Try.ntmps54
    go_wp2_with fail
    go_ret
    exact ⟨_, rfl, Own.nil _ _ _, Below.refl _ _⟩
  · have hnI : ¬ (n : Int) < 0 := by omega
    have hnI2 : 0 < (n : Int) := by omega
    obtain ⟨i, hi, hz0, hz1, hz2⟩ := info_parts info_byte
    go_enter Try.func54, Try.ntmps54
    go_wp2_with (at_builtin; refine Lib.wpList_append_run _ rfl (.tmp 20) (.tmp 21) _ _ rfl _ _ rfl rfl _ _ (Lib.run_append_nil_zeros w 27 3 _ 5 i (.int .u8 0) .i64 .i64 Try.underlying27 Try.underlying3 hi hz0 n (by omega) (by rw [hz1]; omega) (by omega) (by rw [hz2]; omega)) ?_)
    have hc := grownCap_ge w n 0 5
    have hm := grownCap_le_maxLen w n 0 5 (by unfold maxLen; omega)
    generalize grownCap w n 0 5 = C at *
    go_ret
    refine ⟨_, rfl, ?_, ((Below.refl _ _).alloc (Nat.le_refl _) _).drew⟩
    have hs : (Builtin.zeroCells #[Value.int .u8 0] n ++ Builtin.zeroCells #[Value.int .u8 0] (C - n)).size = C * 1 := by
      rw [Array.size_append, size_zeroCells, size_zeroCells]; simp; omega
    exact World.ownsRow_made (base := w.heap.size) (size := 1) (e := 5) w _ C (Nat.le_refl _) hm hs
theorem cat_take (Ls : List (List UInt8)) (j : Nat) (hj : j < Ls.length) : (Ls.take (j + 1)).flatten = (Ls.take j).flatten ++ Ls.getD j [] := by
  rw [List.take_add_one, List.getElem?_eq_getElem hj, List.flatten_append]
  simp [List.getD, List.getElem?_eq_getElem hj]
theorem cat_le (Ls : List (List UInt8)) (j : Nat) : (Ls.take j).flatten.length ≤ Ls.flatten.length := by
  have : Ls.flatten = (Ls.take j).flatten ++ (Ls.drop j).flatten := by rw [← List.flatten_append, List.take_append_drop]
  rw [this, List.length_append]; omega
/-- slices.Concat. -/
theorem concat_any (lv : Value) (Ls : List (List UInt8)) (w : World) (hs : Bss w lv Ls) (hn : Ls.length ≤ 1000000) (hl : Ls.flatten.length ≤ 140737488355328) :
    Calls Try.prog 39 #[lv] w fun e w' => ∃ v', e = .returned v' ∧ Own w' w.heap.size 5 v' Ls.flatten ∧ Below w.heap.size w w' := by
  obtain ⟨a, cap, rfl, g1, g2, g3⟩ := hs.open
  have HS := Lib.hid hs
  have HL := Lib.hid hl
  have HL2 := Lib.hid hl
  clear hs g3
  go_enter Try.func39, Try.ntmps39
  go_wp2_with fail
  go_loopw [3, 11] (fun n i wr => ∃ j : Nat, j ≤ Ls.length ∧ i = .int .i64 j ∧ n = .int .i64 ((Ls.take j).flatten.length : Int) ∧ wr = w) (fun _ i _ => Ls.length - (intOf i).toNat)
  case atStart => exact ⟨0, by omega, rfl, rfl, rfl⟩
  case round =>
    obtain ⟨j, hj, rfl, rfl, hw⟩ := hrel
    have hw := hw.symm
    subst hw
    by_cases hlt : j < Ls.length
    · have hct := congrArg List.length (cat_take Ls j hlt)
      rw [List.length_append] at hct
      have hle := cat_le Ls (j + 1)
      have HT := Lib.hid hct
      obtain ⟨b, off, rfl, -, hat⟩ := HS.out.cells (by omega)
      obtain ⟨u, hu, hsu⟩ := hat j hlt
      obtain ⟨x, c, rfl, -⟩ := hsu.open
      have hjI : (j : Int) < (Ls.length : Int) := by omega
      have hb : (Ls.take j).flatten.length + (Ls.getD j []).length ≤ 140737488355328 := by omega
      clear hat hsu hct hle hl
      generalize (Ls.take j).flatten.length = A at *
      generalize (Ls.getD j []).length = B at *
      go_wp2_with fail
      exact ⟨⟨j + 1, by omega, by go_num, by rw [HT.out]; go_num, by trivial⟩, by simp [intOf]; omega⟩
    · obtain rfl : j = Ls.length := by omega
      rw [List.take_length]
      have HL0 := Lib.hid hl
      clear hlt hj
      clear HL HL0
      generalize hTT : Ls.flatten.length = T at *
      have HTT := Lib.hid hTT
      clear hTT
      go_wp2_with (go_at_call 54; refine (grow_nil _ _ hl).mono ?_; rintro e w1 ⟨v1, rfl, ho1, hb1⟩)
      have HO := Lib.hid ho1
      have HB := Lib.hid hb1
      clear ho1 hb1
      go_loopw [6, 27] (fun o i wr => ∃ j : Nat, j ≤ Ls.length ∧ i = .int .i64 j ∧ Own wr w.heap.size 5 o (Ls.take j).flatten ∧ Below w.heap.size w wr) (fun _ i _ => Ls.length - (intOf i).toNat)
      case atStart => exact ⟨0, by omega, rfl, HO.out, HB.out⟩
      case round =>
        obtain ⟨j, hj, rfl, ho, hb⟩ := hrel
        by_cases hlt : j < Ls.length
        · have hct := congrArg List.length (cat_take Ls j hlt)
          rw [List.length_append] at hct
          have hle := cat_le Ls (j + 1)
          have HT := Lib.hid (cat_take Ls j hlt)
          obtain ⟨b, off, rfl, -, hat⟩ := HS.out.cells (by omega)
          obtain ⟨u, hu, hsu⟩ := hat j hlt
          have hsu' := hsu.at' hb (Nat.le_refl _)
          have HSU := Lib.hid hsu'
          have hu' := bcell hb hu (blt hu)
          have hjI : (j : Int) < (Ls.length : Int) := by omega
          have hsz : (Ls.take j).flatten.length + (Ls.getD j []).length ≤ 140737488355328 := by have := HL2.out; have := HTT.out; omega
          have HSZ := Lib.hid hsz
          have HOO := Lib.hid ho
          have HBB := Lib.hid hb
          clear hat hsu hct hle hsz hsu' hu ho hb
          go_wp2_with (at_builtin; refine app_bytes (base := w.heap.size) Try.underlying27 info_byte rfl (.tmp 31) (.tmp 32) rfl rfl HOO.out rfl HSU.out HSZ.out HBB.out.size ?_; intro v2 w2 ho2 hb2)
          exact ⟨⟨j + 1, by omega, by go_num, by rw [HT.out]; exact ho2, HBB.out.trans hb2⟩, by simp [intOf]; omega⟩
        · obtain rfl : j = Ls.length := by omega
          have hoo := ho
          rw [List.take_length] at hoo
          clear hlt hj
          go_wp2_with fail
          go_ret
          exact ⟨_, rfl, hoo, hb⟩
end Go.Proofs.Ytkghkpkiodghiaa
