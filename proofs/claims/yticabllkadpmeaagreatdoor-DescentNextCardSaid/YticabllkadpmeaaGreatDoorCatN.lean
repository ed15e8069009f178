/- slices.Grow and slices.Concat of numbers. -/
import Derived.Test.YticabllkadpmeaaGreatDoorTre3
import Derived.Lib.AppendZeros
namespace Go.Proofs.YticabllkadpmeaaGreatDoor
set_option linter.unusedVariables false
set_option linter.unusedSimpArgs false
set_option linter.unnecessarySimpa false
open Go.RowKit
set_option maxRecDepth 100000
set_option maxHeartbeats 4000000

theorem int_info : (Tryz.prog.info? 3).map (fun i => (i.zero, i.size, i.bytes)) = some (some (.int .i64 0), 1, 8) := by kernel_rfl
theorem Ns.at' {w w' : World} {v : Value} {P : List Int} (h : Ns w v P) {B : Nat} (hb : Below B w w') (hB : w.heap.size ≤ B) : Ns w' v P := Shows.at' h hb hB
/-- The call owns the row behind v; it holds the numbers l. -/
def OwnN (w : World) (base : Nat) (v : Value) (l : List Int) : Prop := w.ownsRow base 3 1 v l.length (nums .i64 l)
theorem OwnN.ns {w : World} {base : Nat} {v : Value} {l : List Int} (h : OwnN w base v l) : Ns w v l := Shows.of_own h
theorem OwnN.nil (w : World) (base : Nat) : OwnN w base (.slice none 0 0) [] := World.ownsRow_nil _ _ _ _
theorem app_nums {w : World} {ops : Array Oper} {rest : List Oper} {o : Oper} {a : Act} {Q : Exit → Act → World → Prop} (hgd : o.guard = none) (s x : Operand)
    (ho : o.op = .call { callee := .builtin .append, args := #[s, x], argTypes := #[23, 23] })
    {base : Nat} {v sv : Value} {l m : List Int} (hs : a.eval s = v) (hown : OwnN w base v l) (hx : a.eval x = sv) (hsh : Ns w sv m)
    (hlen : l.length + m.length ≤ 1000000000) (hbase : base ≤ w.heap.size)
    (h : ∀ v' w', OwnN w' base v' (l ++ m) → Below base w w' → wpList Tryz.prog ops Q rest (a.put o.dst v') w') : wpList Tryz.prog ops Q (o :: rest) a w := by
  obtain ⟨i, hi, hz0, hz1, hz2⟩ := info_parts int_info
  refine wpList_append_shows hgd s x 23 ho base 3 i (.int .i64 0) 1 8 Tryz.underlying23 hi hz0 hz1 hz2 rfl (by decide) v _ _ hs hown sv _ _ hx hsh (nums_one _ _) (by unfold maxLen; omega) (by omega) hbase ?_
  intro v' w' h1 h2
  refine h v' w' ?_ ((Below.refl _ _).grown h2 hbase fun k hk => (World.ownsRow.lt hown k hk).1)
  unfold OwnN
  rw [show nums IntKind.i64 (l ++ m) = nums .i64 l ++ nums .i64 m from by simp [nums], List.length_append]; exact h1
/-- Lists of numbers in memory. -/
def Nss (w : World) (v : Value) (Ls : List (List Int)) : Prop :=
  ∃ xs : List Value, Shows w 1 v Ls.length xs ∧ ∀ i, i < Ls.length → ∃ u, xs[i]? = some u ∧ Ns w u (Ls.getD i [])
theorem Nss.below {w w' : World} {v : Value} {Ls : List (List Int)} (h : Nss w v Ls) (hb : Below w.heap.size w w') : Nss w' v Ls := by
  obtain ⟨xs, h1, h2⟩ := h
  exact ⟨xs, h1.below hb, fun i hi => by obtain ⟨u, hu, hs⟩ := h2 i hi; exact ⟨u, hu, hs.below hb⟩⟩
theorem Nss.open {w : World} {v : Value} {Ls : List (List Int)} (h : Nss w v Ls) : ∃ a cap, v = .slice a Ls.length cap ∧ Ls.length ≤ cap ∧ cap ≤ 9223372036854775807 ∧ (a = none → cap = 0) := by
  obtain ⟨xs, h1, h2⟩ := h
  obtain ⟨a, cap, e, k1, k2, k3, _⟩ := Shows.open h1
  exact ⟨a, cap, e, k1, k2, k3⟩
theorem Nss.cells {w : World} {a : Option Addr} {n cap : Nat} {Ls : List (List Int)} (h : Nss w (.slice a n cap) Ls) (hl : 0 < Ls.length) :
    ∃ b off, a = some ⟨b, off, none⟩ ∧ n = Ls.length ∧ ∀ i, i < Ls.length → ∃ u, w.cell? ⟨b, off + i, none⟩ = some u ∧ Ns w u (Ls.getD i []) := by
  obtain ⟨xs, h1, h2⟩ := h
  have h3 := h1
  obtain ⟨hxl, a', cap', he, -⟩ := h1
  simp only [Value.slice.injEq] at he
  obtain ⟨rfl, rfl, rfl⟩ := he
  obtain ⟨b, off, rfl, hc⟩ := Shows.cells1 h3 (by omega)
  exact ⟨b, off, rfl, rfl, fun i hi => by obtain ⟨u, hu, hs⟩ := h2 i hi; exact ⟨u, hc i u hu, hs⟩⟩

theorem growN_nil (n : Nat) (w : World) (hn : n ≤ 1000000) :
    Calls Tryz.prog 43 #[.slice none 0 0, .int .i64 n] w fun e w' => ∃ v', e = .returned v' ∧ OwnN w' w.heap.size v' [] ∧ Below w.heap.size w w' := by
  by_cases h0 : n = 0
  · subst h0
    go_enter Tryz.func43, Tryz.ntmps43
    go_wp2_with fail
    go_ret
    exact ⟨_, rfl, OwnN.nil _ _, Below.refl _ _⟩
  · have hnI : ¬ (n : Int) < 0 := by omega
    have hnI2 : 0 < (n : Int) := by omega
    obtain ⟨i, hi, hz0, hz1, hz2⟩ := info_parts int_info
    go_enter Tryz.func43, Tryz.ntmps43
    go_wp2_with (at_builtin; refine Lib.wpList_append_run _ rfl (.tmp 20) (.tmp 21) _ _ rfl _ _ rfl rfl _ _ (Lib.run_append_nil_zeros w 23 3 _ 3 i (.int .i64 0) .i64 .i64 Tryz.underlying23 Tryz.underlying3 hi hz0 n (by omega) (by rw [hz1]; omega) (by omega) (by rw [hz2]; omega)) ?_)
    have hc := grownCap_ge w n 0 3
    have hm := grownCap_le_maxLen w n 0 3 (by unfold maxLen; omega)
    generalize grownCap w n 0 3 = C at *
    go_ret
    refine ⟨_, rfl, ?_, ((Below.refl _ _).alloc (Nat.le_refl _) _).drew⟩
    have hs : (Builtin.zeroCells #[Value.int .i64 0] n ++ Builtin.zeroCells #[Value.int .i64 0] (C - n)).size = C * 1 := by
      rw [Array.size_append, size_zeroCells, size_zeroCells]; simp; omega
    exact World.ownsRow_made (base := w.heap.size) (size := 1) (e := 3) w _ C (Nat.le_refl _) hm hs
theorem catN_take (Ls : List (List Int)) (j : Nat) (hj : j < Ls.length) : (Ls.take (j + 1)).flatten = (Ls.take j).flatten ++ Ls.getD j [] := by
  rw [List.take_add_one, List.getElem?_eq_getElem hj, List.flatten_append]
  simp [List.getD, List.getElem?_eq_getElem hj]
theorem catN_le (Ls : List (List Int)) (j : Nat) : (Ls.take j).flatten.length ≤ Ls.flatten.length := by
  have : Ls.flatten = (Ls.take j).flatten ++ (Ls.drop j).flatten := by rw [← List.flatten_append, List.take_append_drop]
  rw [this, List.length_append]; omega
/-- slices.Concat. -/
theorem concatN_any (lv : Value) (Ls : List (List Int)) (w : World) (hs : Nss w lv Ls) (hn : Ls.length ≤ 1000000) (hl : Ls.flatten.length ≤ 1000000) :
    Calls Tryz.prog 23 #[lv] w fun e w' => ∃ v', e = .returned v' ∧ OwnN w' w.heap.size v' Ls.flatten ∧ Below w.heap.size w w' := by
  obtain ⟨a, cap, rfl, g1, g2, g3⟩ := hs.open
  have HS := Lib.hid hs
  have HL := Lib.hid hl
  have HL2 := Lib.hid hl
  clear hs g3
  go_enter Tryz.func23, Tryz.ntmps23
  go_wp2_with fail
  go_loopw [3, 11] (fun n i wr => ∃ j : Nat, j ≤ Ls.length ∧ i = .int .i64 j ∧ n = .int .i64 ((Ls.take j).flatten.length : Int) ∧ wr = w) (fun _ i _ => Ls.length - (intOf i).toNat)
  case atStart => exact ⟨0, by omega, rfl, rfl, rfl⟩
  case round =>
    obtain ⟨j, hj, rfl, rfl, hw⟩ := hrel
    have hw := hw.symm
    subst hw
    by_cases hlt : j < Ls.length
    · have hct := congrArg List.length (catN_take Ls j hlt)
      rw [List.length_append] at hct
      have hle := catN_le Ls (j + 1)
      have HT := Lib.hid hct
      obtain ⟨b, off, rfl, -, hat⟩ := HS.out.cells (by omega)
      obtain ⟨u, hu, hsu⟩ := hat j hlt
      obtain ⟨x, c, rfl, -⟩ := hsu.open
      have hjI : (j : Int) < (Ls.length : Int) := by omega
      have hb : (Ls.take j).flatten.length + (Ls.getD j []).length ≤ 1000000 := by omega
      clear hat hsu hct hle hl
      generalize (Ls.take j).flatten.length = A at *
      generalize (Ls.getD j []).length = B at *
      go_wp2_with fail
      exact ⟨⟨j + 1, by omega, by go_num, by rw [HT.out]; go_num, by trivial⟩, by simp [intOf]; omega⟩
    · obtain rfl : j = Ls.length := by omega
      rw [List.take_length]
      have HL0 := Lib.hid hl
      clear hlt hj
      clear HL HL0
      generalize hTT : Ls.flatten.length = T at *
      have HTT := Lib.hid hTT
      clear hTT
      go_wp2_with (go_at_call 43; refine (growN_nil _ _ hl).mono ?_; rintro e w1 ⟨v1, rfl, ho1, hb1⟩)
      have HO := Lib.hid ho1
      have HB := Lib.hid hb1
      clear ho1 hb1
      go_loopw [6, 27] (fun o i wr => ∃ j : Nat, j ≤ Ls.length ∧ i = .int .i64 j ∧ OwnN wr w.heap.size o (Ls.take j).flatten ∧ Below w.heap.size w wr) (fun _ i _ => Ls.length - (intOf i).toNat)
      case atStart => exact ⟨0, by omega, rfl, HO.out, HB.out⟩
      case round =>
        obtain ⟨j, hj, rfl, ho, hb⟩ := hrel
        by_cases hlt : j < Ls.length
        · have hct := congrArg List.length (catN_take Ls j hlt)
          rw [List.length_append] at hct
          have hle := catN_le Ls (j + 1)
          have HT := Lib.hid (catN_take Ls j hlt)
          obtain ⟨b, off, rfl, -, hat⟩ := HS.out.cells (by omega)
          obtain ⟨u, hu, hsu⟩ := hat j hlt
          have hsu' := hsu.at' hb (Nat.le_refl _)
          have HSU := Lib.hid hsu'
          have hu' := bcell hb hu (blt hu)
          have hjI : (j : Int) < (Ls.length : Int) := by omega
          have hsz : (Ls.take j).flatten.length + (Ls.getD j []).length ≤ 1000000 := by have := HL2.out; have := HTT.out; omega
          have HSZ := Lib.hid hsz
          have HOO := Lib.hid ho
          have HBB := Lib.hid hb
          clear hat hsu hct hle hsz hsu' hu ho hb
          go_wp2_with (at_builtin; refine app_nums (base := w.heap.size) rfl (.tmp 31) (.tmp 32) rfl rfl HOO.out rfl HSU.out (by have := HSZ.out; omega) HBB.out.size ?_; intro v2 w2 ho2 hb2)
          exact ⟨⟨j + 1, by omega, by go_num, by rw [HT.out]; exact ho2, HBB.out.trans hb2⟩, by simp [intOf]; omega⟩
        · obtain rfl : j = Ls.length := by omega
          have hoo := ho
          rw [List.take_length] at hoo
          clear hlt hj
          go_wp2_with fail
          go_ret
          exact ⟨_, rfl, hoo, hb⟩
end Go.Proofs.YticabllkadpmeaaGreatDoor
