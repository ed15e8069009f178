/- Package tree: Sum, Below, Items, Find. (printed by gen/trer.py) -/
import Derived.Test.YticabllkadpmeaaGreatDoorTreB
import Derived.Test.YticabllkadpmeaaGreatDoorTre3
import Derived.Laws.ResultCell
namespace Go.Proofs.YticabllkadpmeaaGreatDoor
set_option linter.unusedVariables false
set_option linter.unusedSimpArgs false
set_option linter.unnecessarySimpa false
open Go.RowKit
open Tre (It)
set_option maxRecDepth 100000
set_option maxHeartbeats 4000000

namespace Tre
/-- The sum at a path. -/
def sumAt (A : List It) : List Int → List UInt8
  | [] => rootAt A
  | [a] => nodeAt A a.toNat
  | [a, b] => leafAt A (4 * a.toNat + b.toNat)
  | _ => nought
theorem leafAt_length (A : List It) (i : Nat) : (leafAt A i).length = 32 := leafSum_length _
theorem nodeAt_length (A : List It) (i : Nat) : (nodeAt A i).length = 32 := joined_length _
theorem rootAt_length (A : List It) : (rootAt A).length = 32 := joined_length _
end Tre
theorem good_cases {P : List Int} (h : goodP P = true) : P = [] ∨ (∃ k : Nat, k < 4 ∧ P = [(k : Int)]) ∨ ∃ k m : Nat, k < 4 ∧ m < 4 ∧ P = [(k : Int), (m : Int)] := by
  have hb : ∀ n : Int, badN n = false → ∃ k : Nat, k < 4 ∧ n = (k : Int) := fun n hn => by
    simp only [badN, Bool.or_eq_false_iff, decide_eq_false_iff_not] at hn
    exact ⟨n.toNat, by omega, by omega⟩
  match P with
  | [] => exact .inl rfl
  | [a] =>
    obtain ⟨k, hk, rfl⟩ := hb a (by simpa [goodP] using h)
    exact .inr (.inl ⟨k, hk, rfl⟩)
  | [a, b] =>
    have h2 : badN a = false ∧ badN b = false := by simpa [goodP] using h
    obtain ⟨k, hk, rfl⟩ := hb a h2.1
    obtain ⟨m, hm, rfl⟩ := hb b h2.2
    exact .inr (.inr ⟨k, m, hk, hm, rfl⟩)
  | a :: b :: c :: r => simp [goodP] at h
/-- What comes back from a box and a slot. -/
theorem ret_cell2 {fn : Func} {p q : Tmp} {ty : TypeId} {d : TypeDesc} (h : fn.results = #[.cell p ty, .tmp q]) {R : Ending → World → Prop} {a : Act} {w : World} (hd : a.defers = []) (g : Nat) (hp : a.tmps.getD p undef = .pointer (some ⟨g, 0, none⟩)) (cs : List Value) (hr : w.rangeAt g 0 cs)
    (hu : Tryz.prog.underlying ty = some d) (hrow : d.isRow) (hs : (Tryz.prog.info? ty).map (·.size) = some cs.length) (hR : R (.returned (.tuple #[.agg cs.toArray, a.tmps.getD q undef])) w) : bodyPost Tryz.prog fn R .ret a w := by
  refine bodyPost_ret (v := .tuple #[.agg cs.toArray, a.tmps.getD q undef]) ?_ hd hR
  have h1 := run_loadVar_mid (P := Tryz.prog) w g 0 ty cs d hr hu hrow hs
  rw [results_cell_tmp h, hp]
  simp [asAddr, h1, Result.andThen]
theorem ret_sum2 {fn : Func} {p q : Tmp} (h : fn.results = #[.cell p 36, .tmp q]) {R : Ending → World → Prop} {a : Act} {w : World} (hd : a.defers = []) (g : Nat) (hp : a.tmps.getD p undef = .pointer (some ⟨g, 0, none⟩)) (t : TypeId) (l : List UInt8) (hr : Row w g t (bytes l)) (hl : l.length = 32)
    (hR : R (.returned (.tuple #[sumV l, a.tmps.getD q undef])) w) : bodyPost Tryz.prog fn R .ret a w :=
  ret_cell2 h hd g hp (bytes l) (fun j v hv => by rw [Nat.zero_add, hr.cell]; exact hv) Tryz.underlying36 rfl (by rw [size_sum]; simp [hl]) hR
theorem ret_item2 {fn : Func} {p q : Tmp} (h : fn.results = #[.cell p 38, .tmp q]) {R : Ending → World → Prop} {a : Act} {w : World} (hd : a.defers = []) (g : Nat) (hp : a.tmps.getD p undef = .pointer (some ⟨g, 0, none⟩)) (t : TypeId) (x : It) (hr : Row w g t (itC x)) (hx : ItOk x)
    (hR : R (.returned (.tuple #[.agg (itC x).toArray, a.tmps.getD q undef])) w) : bodyPost Tryz.prog fn R .ret a w :=
  ret_cell2 h hd g hp (itC x) (fun j v hv => by rw [Nat.zero_add, hr.cell]; exact hv) Tryz.underlying38 rfl (by rw [size_item, itC_length hx]) hR
theorem builtI : Tryz.prog.built 38 [] = some (itC dIt).toArray := by kernel_rfl
theorem build_item {w : World} {ops : Array Oper} {rest : List Oper} {o : Oper} {a : Act} {Q : Exit → Act → World → Prop} (z : It) (hz : z = dIt) (hgd : o.guard = none) (ho : o.op = .build 38 #[])
    (h : wpList Tryz.prog ops Q rest (a.put o.dst (.agg (itC z).toArray)) w) : wpList Tryz.prog ops Q (o :: rest) a w :=
  wpList_plain hgd fun K hK => by
    unfold Oper.wp execOp
    subst hz
    simp only [ho, Sem.run_bind, Array.map_empty, run_build w _ #[] _ builtI, Result.andThen_ok, Sem.run_pure]
    exact hK _ _ h
theorem set_whole {w : World} {g : Nat} {t : TypeId} {x m : List UInt8} (hr : Row w g t (bytes m)) (hx : x.length = 32) (hm : m.length = 32) : Row (w.setCells g 0 (bytes x)) g t (bytes x) := by
  have h1 := Row.setCells (bytes x) 0 hr (by simp [hx, hm])
  have e : splice (bytes m) 0 (bytes x) = bytes x := by unfold splice; simp [hx, hm]
  rw [e] at h1
  exact h1
theorem dit_ok : ItOk dIt := ⟨by decide, by decide, by decide⟩
theorem set_item {w : World} {g : Nat} {t : TypeId} {x y : It} (hr : Row w g t (itC y)) (hx : ItOk x) (hy : ItOk y := by exact dit_ok) : Row (w.setCells g 0 (itC x)) g t (itC x) := by
  have h1 := Row.setCells (itC x) 0 hr (by rw [itC_length hx, itC_length hy]; exact Nat.le_refl _)
  have e : splice (itC y) 0 (itC x) = itC x := by
    unfold splice
    rw [itC_length hx, List.drop_of_length_le (by rw [itC_length hy]; exact Nat.le_refl _)]
    simp
  rw [e] at h1
  exact h1
theorem tre0_len : Tre0.length = 32 := by simp [Tre0]
theorem Sum_bad (w : World) (B b : Nat) (T : TS) (v : Value) (P : List Int) (hg : goodP P = false) (h : Tr w B b T) (hs : Ns w v P) :
    Calls Tryz.prog 36 #[.pointer (some ⟨b, 0, none⟩), v] w fun e w' => e = .returned (.tuple #[sumV Tre.nought, .bool false]) ∧ Below w.heap.size w w' := by
  obtain ⟨xa, ca, rfl, hc1, hc2, hc3, hs2⟩ := hs.open
  have HS := Lib.hid hs2
  have HT := Lib.hid h
  have hbl := h.row.lt
  obtain ⟨W1, hW1, HA, HB1, HZ1⟩ := pre32 w
  have S1 := Lib.hid (HS.out.below HB1.out)
  have hww : w.heap.size < W1.heap.size := HA.out.lt
  have HG := Lib.hid hg
  clear hg h hs hs2 HZ1
  go_enter Tryz.func36, Tryz.ntmps36
  go_upto_region 1 with fail
  clear hW1
  go_wp2_with (first
    | (go_at_call 41; refine (good_any _ P _ S1.out).mono ?_; rw [HG.out]; rintro e w2 ⟨rfl, rfl⟩)
    | (with_reducible refine store_sum rfl (.tmp 4) (.tmp 9) rfl w.heap.size rfl Tre.nought rfl nought_len _ Tre0 HA.out rfl ?_))
  refine ret_sum2 rfl rfl w.heap.size rfl 36 Tre.nought (setRow_heap _ w.heap.size _ _ _ _ HA.out) nought_len ?_
  exact ⟨rfl, below_setRow HB1.out (Nat.le_refl _) _⟩
theorem Sum_0 (w : World) (B b : Nat) (T : TS) (v : Value) (h : Tr w B b T) (hs : Ns w v []) :
    Calls Tryz.prog 36 #[.pointer (some ⟨b, 0, none⟩), v] w fun e w' => e = .returned (.tuple #[sumV T.R, .bool true]) ∧ Below w.heap.size w w' := by
  obtain ⟨xa, ca, rfl, hc1, hc2, hc3, hs2⟩ := hs.open
  have HS := Lib.hid hs2
  have HT := Lib.hid h
  have hbl := h.row.lt
  obtain ⟨W1, hW1, HA, HB1, HZ1⟩ := pre32 w
  have S1 := Lib.hid (HS.out.below HB1.out)
  have hww : w.heap.size < W1.heap.size := HA.out.lt
  have HG : Hid (goodP [] = true) := rfl
  have hrg := Lib.hid (rangeAt_below h.rangeR HB1.out)
  have h32 := Lib.hid h.ok.r32
  clear h hs hs2 HZ1
  go_enter Tryz.func36, Tryz.ntmps36
  go_upto_region 1 with fail
  clear hW1
  go_wp2_with (first
    | (go_at_call 41; refine (good_any _ [] _ S1.out).mono ?_; rw [HG.out]; rintro e w2 ⟨rfl, rfl⟩)
    | (with_reducible refine load_sum_mid rfl (.tmp 16) rfl b 656 rfl T.R h32.out hrg.out ?_)
    | (with_reducible refine store_sum rfl (.tmp 4) (.tmp 17) rfl w.heap.size rfl T.R rfl h32.out _ Tre0 HA.out rfl ?_))
  refine ret_sum2 rfl rfl w.heap.size rfl 36 T.R (setRow_heap _ w.heap.size _ _ _ _ HA.out) h32.out ?_
  exact ⟨rfl, below_setRow HB1.out (Nat.le_refl _) _⟩
theorem Sum_1 (w : World) (B b : Nat) (T : TS) (v : Value) (k : Nat) (hk : k < 4) (h : Tr w B b T) (hs : Ns w v [(k : Int)]) :
    Calls Tryz.prog 36 #[.pointer (some ⟨b, 0, none⟩), v] w fun e w' => e = .returned (.tuple #[sumV (T.A.getD k []), .bool true]) ∧ Below w.heap.size w w' := by
  obtain ⟨xa, ca, rfl, hc1, hc2, hc3, hs2⟩ := hs.open
  have HS := Lib.hid hs2
  have HT := Lib.hid h
  have hbl := h.row.lt
  obtain ⟨W1, hW1, HA, HB1, HZ1⟩ := pre32 w
  have S1 := Lib.hid (HS.out.below HB1.out)
  have hww : w.heap.size < W1.heap.size := HA.out.lt
  have HG : Hid (goodP [(k : Int)] = true) := by show _ = _; simp only [goodP, badN, List.length_singleton, List.any_cons, List.any_nil]; have h1 : decide ((k : Int) < 0) = false := by simp
                                                 have h2 : decide ((4 : Int) ≤ (k : Int)) = false := by simp; omega
                                                 rw [h1, h2]; rfl
  have hrg := Lib.hid (h.rangeA k hk)
  have h32 := Lib.hid (h.ok.A32 k hk)
  obtain ⟨pb, po, rfl, hat⟩ := hs2.at (by simp)
  have hp0 : w.cell? ⟨pb, po, none⟩ = some (.int .i64 (k : Int)) := hat 0 (by simp)
  have hpl := blt hp0
  have hkI : (k : Int) < 4 := by omega
  generalize T.A.getD k [] = X at *
  clear h hs hs2 HZ1 hat
  go_enter Tryz.func36, Tryz.ntmps36
  go_upto_region 1 with fail
  clear hW1
  go_upto_region 7 with (go_at_call 41; refine (good_any _ [(k : Int)] _ S1.out).mono ?_; rw [HG.out]; rintro e w2 ⟨rfl, rfl⟩)
  refine wp_region_held_drew (S := fun w' => Below w.heap.size w w') (by kernel_rfl) (by exact HB1.out.drew) (fun hHeld => ?_)
  refine wpAnyH_take (i := 0) (v := ?_) (by simp only [List.getElem?_toArray, List.getElem?_cons_zero, List.getElem?_cons_succ] <;> rfl) (by kernel_rfl) (by kernel_rfl) (by kernel_rfl) (by intro _ _ _ h; exact h) (Or.inl ⟨by rfl, ?_⟩) (by assumption) ?_
  rotate_left
  · intro w _; go_simp; try with_reducible rfl
  try simp only [Act.put, List.setIfInBounds_toArray, List.set_cons_zero, List.set_cons_succ, Array.replicate]
  refine wpAnyH_take (i := 1) (v := ?_) (by simp only [List.getElem?_toArray, List.getElem?_cons_zero, List.getElem?_cons_succ] <;> rfl) (by kernel_rfl) (by kernel_rfl) (by kernel_rfl) (by intro _ _ _ h; exact h) (Or.inl ⟨by rfl, ?_⟩) (by assumption) ?_
  rotate_left
  · intro w _; go_simp; try with_reducible rfl
  try simp only [Act.put, List.setIfInBounds_toArray, List.set_cons_zero, List.set_cons_succ, Array.replicate]
  refine wpAnyH_take (i := 2) (v := ?_) (by simp only [List.getElem?_toArray, List.getElem?_cons_zero, List.getElem?_cons_succ] <;> rfl) (by kernel_rfl) (by kernel_rfl) (by kernel_rfl) (by intro _ _ _ h; exact h) (Or.inl ⟨by rfl, ?_⟩) (by assumption) ?_
  rotate_left
  · intro w _; go_simp; try with_reducible rfl
  try simp only [Act.put, List.setIfInBounds_toArray, List.set_cons_zero, List.set_cons_succ, Array.replicate]
  refine wpAnyH_take (i := 3) (v := ?_) (by simp only [List.getElem?_toArray, List.getElem?_cons_zero, List.getElem?_cons_succ] <;> rfl) (by kernel_rfl) (by kernel_rfl) (by kernel_rfl) (by intro _ _ _ h; exact h) (Or.inl ⟨by rfl, ?_⟩) (by assumption) ?_
  rotate_left
  · intro w hSS; have q1 := bcell hSS hp0 hpl; go_simp; try with_reducible rfl
  try simp only [Act.put, List.setIfInBounds_toArray, List.set_cons_zero, List.set_cons_succ, Array.replicate]
  refine wpAnyH_take (i := 4) (v := ?_) (by simp only [List.getElem?_toArray, List.getElem?_cons_zero, List.getElem?_cons_succ] <;> rfl) (by kernel_rfl) (by kernel_rfl) (by kernel_rfl) (by intro _ _ _ h; exact h) (Or.inl ⟨by rfl, ?_⟩) (by assumption) ?_
  rotate_left
  · intro w _; go_simp; try with_reducible rfl
  try simp only [Act.put, List.setIfInBounds_toArray, List.set_cons_zero, List.set_cons_succ, Array.replicate]
  refine wpAnyH_take (i := 5) (v := ?_) (by simp only [List.getElem?_toArray, List.getElem?_cons_zero, List.getElem?_cons_succ] <;> rfl) (by kernel_rfl) (by kernel_rfl) (by kernel_rfl) (by intro _ _ _ h; exact h) (Or.inl ⟨by rfl, ?_⟩) (by assumption) ?_
  rotate_left
  · intro w _; go_simp; try with_reducible rfl
  try simp only [Act.put, List.setIfInBounds_toArray, List.set_cons_zero, List.set_cons_succ, Array.replicate]
  refine wpAnyH_take (i := 6) (v := ?_) (by simp only [List.getElem?_toArray, List.getElem?_cons_zero, List.getElem?_cons_succ] <;> rfl) (by kernel_rfl) (by kernel_rfl) (by kernel_rfl) (by intro _ _ _ h; exact h) (Or.inl ⟨by rfl, ?_⟩) (by assumption) ?_
  rotate_left
  · intro w _; go_simp; try with_reducible rfl
  try simp only [Act.put, List.setIfInBounds_toArray, List.set_cons_zero, List.set_cons_succ, Array.replicate]
  refine wpAnyH_take (i := 7) (v := _) (by simp only [List.getElem?_toArray, List.getElem?_cons_zero, List.getElem?_cons_succ] <;> rfl) (by kernel_rfl) (by kernel_rfl) (by kernel_rfl) (by intro _ _ _ h; exact h) (yieldsIf_sum_mid (by with_unfolding_all rfl) (.tmp 26) rfl b _ rfl X h32.out (fun w' hS => rangeAt_below hrg.out hS)) (by assumption) ?_
  try simp only [Act.put, List.setIfInBounds_toArray, List.set_cons_zero, List.set_cons_succ, Array.replicate]
  refine wpAnyH_ready (rs := [8]) (by kernel_rfl) (by simp) ?_
  refine AllReadyH.cons (by simp only [List.getElem?_toArray, List.getElem?_cons_zero, List.getElem?_cons_succ] <;> rfl) (fun K hK => ?_) ?_
  · refine step_sum_mid rfl (.tmp 4) (.tmp 27) rfl w.heap.size 0 rfl X rfl h32.out _ _ (show Row w2.drew w.heap.size 36 (bytes Tre0) from HA.out) (by decide) ?_
    refine hK.out _ _ (below_setCells HB1.out.drew _ _ _ (Nat.le_refl _)) (fun hHeld => ?_)
    clear hK K
    try simp only [Act.put, List.setIfInBounds_toArray, List.set_cons_zero, List.set_cons_succ, Array.replicate]
    refine wpAnyH_take (i := 9) (v := ?_) (by simp only [List.getElem?_toArray, List.getElem?_cons_zero, List.getElem?_cons_succ] <;> rfl) (by kernel_rfl) (by kernel_rfl) (by kernel_rfl) (by intro _ _ _ h; exact h) (Or.inl ⟨by rfl, ?_⟩) (by assumption) ?_
    rotate_left
    · intro w _; go_simp; try with_reducible rfl
    try simp only [Act.put, List.setIfInBounds_toArray, List.set_cons_zero, List.set_cons_succ, Array.replicate]
    refine wpAnyH_done (by kernel_rfl) ?_ _
    go_wp2_with fail
    refine ret_sum2 rfl rfl w.heap.size rfl 36 X (set_whole (show Row w2.drew w.heap.size 36 (bytes Tre0) from HA.out) h32.out tre0_len) h32.out ?_
    exact ⟨rfl, below_setCells HB1.out.drew _ _ _ (Nat.le_refl _)⟩
  exact AllReadyH.nil
theorem Sum_2 (w : World) (B b : Nat) (T : TS) (v : Value) (k m : Nat) (hk : k < 4) (hm : m < 4) (h : Tr w B b T) (hs : Ns w v [(k : Int), (m : Int)]) :
    Calls Tryz.prog 36 #[.pointer (some ⟨b, 0, none⟩), v] w fun e w' => e = .returned (.tuple #[sumV (T.S.getD (4 * k + m) []), .bool true]) ∧ Below w.heap.size w w' := by
  obtain ⟨xa, ca, rfl, hc1, hc2, hc3, hs2⟩ := hs.open
  have HS := Lib.hid hs2
  have HT := Lib.hid h
  have hbl := h.row.lt
  obtain ⟨W1, hW1, HA, HB1, HZ1⟩ := pre32 w
  have S1 := Lib.hid (HS.out.below HB1.out)
  have hww : w.heap.size < W1.heap.size := HA.out.lt
  have HG : Hid (goodP [(k : Int), (m : Int)] = true) := by
    show _ = _
    have h1 : ∀ n : Nat, n < 4 → badN (n : Int) = false := fun n hn => by simp [badN]; omega
    simp [goodP, h1 k hk, h1 m hm]
  have hrg := Lib.hid (h.rangeS (4 * k + m) (by omega))
  have h32 := Lib.hid (h.ok.S32 (4 * k + m) (by omega))
  obtain ⟨pb, po, rfl, hat⟩ := hs2.at (by simp)
  have hp0 : w.cell? ⟨pb, po, none⟩ = some (.int .i64 (k : Int)) := hat 0 (by simp)
  have hp1 : w.cell? ⟨pb, po + 1, none⟩ = some (.int .i64 (m : Int)) := hat 1 (by simp)
  have hpl := blt hp0
  have hpl1 := blt hp1
  have k1 : IntKind.i64.wrap (4 * (k : Int)) = 4 * (k : Int) := IntWalk.i64_in _ ⟨by omega, by omega⟩
  have k2 : IntKind.i64.wrap (4 * (k : Int) + (m : Int)) = 4 * (k : Int) + (m : Int) := IntWalk.i64_in _ ⟨by omega, by omega⟩
  have k3 : 4 * (k : Int) + (m : Int) < 16 := by omega
  have k4 : 0 ≤ 4 * (k : Int) + (m : Int) := by omega
  have k5 : (4 * (k : Int) + (m : Int)).toNat = 4 * k + m := by omega
  generalize T.S.getD (4 * k + m) [] = X at *
  clear h hs hs2 HZ1 hat
  go_enter Tryz.func36, Tryz.ntmps36
  go_upto_region 1 with fail
  clear hW1
  go_upto_region 8 with (go_at_call 41; refine (good_any _ [(k : Int), (m : Int)] _ S1.out).mono ?_; rw [HG.out]; rintro e w2 ⟨rfl, rfl⟩)
  refine wp_region_held_drew (S := fun w' => Below w.heap.size w w') (by kernel_rfl) (by exact HB1.out.drew) (fun hHeld => ?_)
  refine wpAnyH_take (i := 0) (v := ?_) (by simp only [List.getElem?_toArray, List.getElem?_cons_zero, List.getElem?_cons_succ] <;> rfl) (by kernel_rfl) (by kernel_rfl) (by kernel_rfl) (by intro _ _ _ h; exact h) (Or.inl ⟨by rfl, ?_⟩) (by assumption) ?_
  rotate_left
  · intro w _; go_simp; try with_reducible rfl
  try simp only [Act.put, List.setIfInBounds_toArray, List.set_cons_zero, List.set_cons_succ, Array.replicate]
  refine wpAnyH_take (i := 1) (v := ?_) (by simp only [List.getElem?_toArray, List.getElem?_cons_zero, List.getElem?_cons_succ] <;> rfl) (by kernel_rfl) (by kernel_rfl) (by kernel_rfl) (by intro _ _ _ h; exact h) (Or.inl ⟨by rfl, ?_⟩) (by assumption) ?_
  rotate_left
  · intro w _; go_simp; try with_reducible rfl
  try simp only [Act.put, List.setIfInBounds_toArray, List.set_cons_zero, List.set_cons_succ, Array.replicate]
  refine wpAnyH_take (i := 2) (v := ?_) (by simp only [List.getElem?_toArray, List.getElem?_cons_zero, List.getElem?_cons_succ] <;> rfl) (by kernel_rfl) (by kernel_rfl) (by kernel_rfl) (by intro _ _ _ h; exact h) (Or.inl ⟨by rfl, ?_⟩) (by assumption) ?_
  rotate_left
  · intro w _; go_simp; try with_reducible rfl
  try simp only [Act.put, List.setIfInBounds_toArray, List.set_cons_zero, List.set_cons_succ, Array.replicate]
  refine wpAnyH_take (i := 3) (v := ?_) (by simp only [List.getElem?_toArray, List.getElem?_cons_zero, List.getElem?_cons_succ] <;> rfl) (by kernel_rfl) (by kernel_rfl) (by kernel_rfl) (by intro _ _ _ h; exact h) (Or.inl ⟨by rfl, ?_⟩) (by assumption) ?_
  rotate_left
  · intro w hSS; have q1 := bcell hSS hp0 hpl; go_simp; try with_reducible rfl
  try simp only [Act.put, List.setIfInBounds_toArray, List.set_cons_zero, List.set_cons_succ, Array.replicate]
  refine wpAnyH_take (i := 4) (v := ?_) (by simp only [List.getElem?_toArray, List.getElem?_cons_zero, List.getElem?_cons_succ] <;> rfl) (by kernel_rfl) (by kernel_rfl) (by kernel_rfl) (by intro _ _ _ h; exact h) (Or.inl ⟨by rfl, ?_⟩) (by assumption) ?_
  rotate_left
  · intro w _; go_simp; try with_reducible rfl
  try simp only [Act.put, List.setIfInBounds_toArray, List.set_cons_zero, List.set_cons_succ, Array.replicate]
  refine wpAnyH_take (i := 5) (v := ?_) (by simp only [List.getElem?_toArray, List.getElem?_cons_zero, List.getElem?_cons_succ] <;> rfl) (by kernel_rfl) (by kernel_rfl) (by kernel_rfl) (by intro _ _ _ h; exact h) (Or.inl ⟨by rfl, ?_⟩) (by assumption) ?_
  rotate_left
  · intro w _; go_simp; try with_reducible rfl
  try simp only [Act.put, List.setIfInBounds_toArray, List.set_cons_zero, List.set_cons_succ, Array.replicate]
  refine wpAnyH_take (i := 6) (v := ?_) (by simp only [List.getElem?_toArray, List.getElem?_cons_zero, List.getElem?_cons_succ] <;> rfl) (by kernel_rfl) (by kernel_rfl) (by kernel_rfl) (by intro _ _ _ h; exact h) (Or.inl ⟨by rfl, ?_⟩) (by assumption) ?_
  rotate_left
  · intro w _; go_simp; try with_reducible rfl
  try simp only [Act.put, List.setIfInBounds_toArray, List.set_cons_zero, List.set_cons_succ, Array.replicate]
  refine wpAnyH_take (i := 7) (v := ?_) (by simp only [List.getElem?_toArray, List.getElem?_cons_zero, List.getElem?_cons_succ] <;> rfl) (by kernel_rfl) (by kernel_rfl) (by kernel_rfl) (by intro _ _ _ h; exact h) (Or.inl ⟨by rfl, ?_⟩) (by assumption) ?_
  rotate_left
  · intro w hSS; have q1 := bcell hSS hp1 hpl1; go_simp; try with_reducible rfl
  try simp only [Act.put, List.setIfInBounds_toArray, List.set_cons_zero, List.set_cons_succ, Array.replicate]
  refine wpAnyH_take (i := 8) (v := ?_) (by simp only [List.getElem?_toArray, List.getElem?_cons_zero, List.getElem?_cons_succ] <;> rfl) (by kernel_rfl) (by kernel_rfl) (by kernel_rfl) (by intro _ _ _ h; exact h) (Or.inl ⟨by rfl, ?_⟩) (by assumption) ?_
  rotate_left
  · intro w _; go_simp; try with_reducible rfl
  try simp only [Act.put, List.setIfInBounds_toArray, List.set_cons_zero, List.set_cons_succ, Array.replicate]
  refine wpAnyH_take (i := 9) (v := ?_) (by simp only [List.getElem?_toArray, List.getElem?_cons_zero, List.getElem?_cons_succ] <;> rfl) (by kernel_rfl) (by kernel_rfl) (by kernel_rfl) (by intro _ _ _ h; exact h) (Or.inl ⟨by rfl, ?_⟩) (by assumption) ?_
  rotate_left
  · intro w _; go_simp; try with_reducible rfl
  try simp only [Act.put, List.setIfInBounds_toArray, List.set_cons_zero, List.set_cons_succ, Array.replicate]
  refine wpAnyH_take (i := 10) (v := ?_) (by simp only [List.getElem?_toArray, List.getElem?_cons_zero, List.getElem?_cons_succ] <;> rfl) (by kernel_rfl) (by kernel_rfl) (by kernel_rfl) (by intro _ _ _ h; exact h) (Or.inl ⟨by rfl, ?_⟩) (by assumption) ?_
  rotate_left
  · intro w _; go_simp; try with_reducible rfl
  try simp only [Act.put, List.setIfInBounds_toArray, List.set_cons_zero, List.set_cons_succ, Array.replicate]
  refine wpAnyH_take (i := 11) (v := ?_) (by simp only [List.getElem?_toArray, List.getElem?_cons_zero, List.getElem?_cons_succ] <;> rfl) (by kernel_rfl) (by kernel_rfl) (by kernel_rfl) (by intro _ _ _ h; exact h) (Or.inl ⟨by rfl, ?_⟩) (by assumption) ?_
  rotate_left
  · intro w _; go_simp; try with_reducible rfl
  try simp only [Act.put, List.setIfInBounds_toArray, List.set_cons_zero, List.set_cons_succ, Array.replicate]
  refine wpAnyH_take (i := 12) (v := _) (by simp only [List.getElem?_toArray, List.getElem?_cons_zero, List.getElem?_cons_succ] <;> rfl) (by kernel_rfl) (by kernel_rfl) (by kernel_rfl) (by intro _ _ _ h; exact h) (yieldsIf_sum_mid (by with_unfolding_all rfl) (.tmp 39) rfl b _ rfl X h32.out (fun w' hS => rangeAt_below hrg.out hS)) (by assumption) ?_
  try simp only [Act.put, List.setIfInBounds_toArray, List.set_cons_zero, List.set_cons_succ, Array.replicate]
  refine wpAnyH_ready (rs := [13]) (by kernel_rfl) (by simp) ?_
  refine AllReadyH.cons (by simp only [List.getElem?_toArray, List.getElem?_cons_zero, List.getElem?_cons_succ] <;> rfl) (fun K hK => ?_) ?_
  · refine step_sum_mid rfl (.tmp 4) (.tmp 40) rfl w.heap.size 0 rfl X rfl h32.out _ _ (show Row w2.drew w.heap.size 36 (bytes Tre0) from HA.out) (by decide) ?_
    refine hK.out _ _ (below_setCells HB1.out.drew _ _ _ (Nat.le_refl _)) (fun hHeld => ?_)
    clear hK K
    try simp only [Act.put, List.setIfInBounds_toArray, List.set_cons_zero, List.set_cons_succ, Array.replicate]
    refine wpAnyH_take (i := 14) (v := ?_) (by simp only [List.getElem?_toArray, List.getElem?_cons_zero, List.getElem?_cons_succ] <;> rfl) (by kernel_rfl) (by kernel_rfl) (by kernel_rfl) (by intro _ _ _ h; exact h) (Or.inl ⟨by rfl, ?_⟩) (by assumption) ?_
    rotate_left
    · intro w _; go_simp; try with_reducible rfl
    try simp only [Act.put, List.setIfInBounds_toArray, List.set_cons_zero, List.set_cons_succ, Array.replicate]
    refine wpAnyH_done (by kernel_rfl) ?_ _
    go_wp2_with fail
    refine ret_sum2 rfl rfl w.heap.size rfl 36 X (set_whole (show Row w2.drew w.heap.size 36 (bytes Tre0) from HA.out) h32.out tre0_len) h32.out ?_
    exact ⟨rfl, below_setCells HB1.out.drew _ _ _ (Nat.le_refl _)⟩
  exact AllReadyH.nil

/-! ### copies -/
theorem run_nilS (x : Option Addr) (n c : Nat) (w : World) : (binOp .eql 24 (.slice x n c) (.slice none 0 0)).run Tryz.prog w = .ok (.bool x.isNone) w :=
  Lib.run_eql_slice_nil w _ _ x n c 0 0 Tryz.underlying24
theorem run_nilI (x : Option Addr) (n c : Nat) (w : World) : (binOp .eql 22 (.slice x n c) (.slice none 0 0)).run Tryz.prog w = .ok (.bool x.isNone) w :=
  Lib.run_eql_slice_nil w _ _ x n c 0 0 Tryz.underlying22
theorem sum_info : (Tryz.prog.info? 36).map (fun i => (i.zero, i.size, i.bytes)) = some (some (sumV Tre.nought), 32, 32) := by kernel_rfl
theorem app_sums {w : World} {ops : Array Oper} {rest : List Oper} {o : Oper} {a : Act} {Q : Exit → Act → World → Prop} (hgd : o.guard = none) (s x : Operand)
    (ho : o.op = .call { callee := .builtin .append, args := #[s, x], argTypes := #[24, 24] })
    {base : Nat} {v sv : Value} {L M : List (List UInt8)} (hL : L32 L) (hM : L32 M) (hs : a.eval s = v) (hown : w.ownsRow base 36 32 v L.length (sumsC L)) (hx : a.eval x = sv) (hsh : Sms w sv M)
    (hlen : L.length + M.length ≤ 4398046511104) (hbase : base ≤ w.heap.size)
    (h : ∀ v' w', w'.ownsRow base 36 32 v' (L ++ M).length (sumsC (L ++ M)) → Below base w w' → wpList Tryz.prog ops Q rest (a.put o.dst v') w') : wpList Tryz.prog ops Q (o :: rest) a w := by
  obtain ⟨i, hi, hz0, hz1, hz2⟩ := info_parts sum_info
  refine wpList_append_shows hgd s x 24 ho base 36 i (sumV Tre.nought) 32 32 Tryz.underlying24 hi hz0 hz1 hz2 (by kernel_rfl) (by decide) v _ _ hs hown sv _ _ hx hsh ?_ (by unfold maxLen; omega) (by omega) hbase ?_
  · intro u hu
    simp only [sumsC, List.mem_flatMap] at hu
    obtain ⟨y, -, hy⟩ := hu
    exact bytes_one y u hy
  · intro v' w' h1 h2
    refine h v' w' ?_ ((Below.refl _ _).grown h2 hbase fun k hk => (World.ownsRow.lt hown k hk).1)
    rw [List.length_append]
    have : sumsC (L ++ M) = sumsC L ++ sumsC M := by simp [sumsC]
    rw [this]; exact h1
theorem app_items {w : World} {ops : Array Oper} {rest : List Oper} {o : Oper} {a : Act} {Q : Exit → Act → World → Prop} (hgd : o.guard = none) (s x : Operand)
    (ho : o.op = .call { callee := .builtin .append, args := #[s, x], argTypes := #[22, 22] })
    {base : Nat} {v sv : Value} {L M : List It} (hs : a.eval s = v) (hown : OwnI w base v L) (hx : a.eval x = sv) (hsh : Its w sv M)
    (hlen : L.length + M.length ≤ 1000000000) (hbase : base ≤ w.heap.size)
    (h : ∀ v' w', OwnI w' base v' (L ++ M) → Below base w w' → wpList Tryz.prog ops Q rest (a.put o.dst v') w') : wpList Tryz.prog ops Q (o :: rest) a w := by
  obtain ⟨i, hi, hz0, hz1, hz2⟩ := info_parts item_info
  refine wpList_append_shows hgd s x 22 ho base 38 i (.agg (itC dIt).toArray) 34 56 Tryz.underlying22 hi hz0 hz1 hz2 (by kernel_rfl) (by decide) v _ _ hs hown sv _ _ hx hsh (itsC_one M) (by unfold maxLen; omega) (by omega) hbase ?_
  intro v' w' h1 h2
  refine h v' w' ?_ ((Below.refl _ _).grown h2 hbase fun k hk => (World.ownsRow.lt hown k hk).1)
  unfold OwnI
  rw [List.length_append, itsC_append]; exact h1
theorem OwnI.lit0 (w : World) : OwnI (w.alloc (.cells #[] 38)) w.heap.size (.slice (some ⟨w.heap.size, 0, none⟩) 0 0) [] :=
  World.ownsRow_lit (e := 38) (size := 34) (base := w.heap.size) w #[] 0 (Nat.le_refl _) (by decide) (by simp)
theorem cloneS_any (v : Value) (L : List (List UInt8)) (w : World) (h : Sms w v L) (h32 : L32 L) (hl : L.length ≤ 1000000) :
    Calls Tryz.prog 42 #[v] w fun e w' => ∃ v', e = .returned v' ∧ Sms w' v' L ∧ Below w.heap.size w w' := by
  obtain ⟨x, cap, rfl, h1, h2, h3, h4⟩ := h.open
  cases x with
  | none =>
    have e : cap = 0 := h3 rfl
    obtain rfl : L = [] := List.eq_nil_of_length_eq_zero (by omega)
    subst e
    clear h3 h h4
    have hk := run_nilS none 0 0 w
    show Calls _ _ #[.slice none 0 0] _ _
    go_enter Tryz.func42, Tryz.ntmps42
    go_wp2
    go_ret
    exact ⟨_, rfl, Shows.nil _ _, Below.refl _ _⟩
  | some x =>
    have H4 := Lib.hid h4
    have H32 := Lib.hid h32
    clear h h4 h3 h32
    have hk := run_nilS (some x) L.length cap w
    go_enter Tryz.func42, Tryz.ntmps42
    go_wp2_with (at_builtin; refine app_sums (base := w.heap.size) rfl (.tmp 5) (.tmp 6) rfl (L := []) (fun y hy => by cases hy) H32.out rfl (World.ownsRow_lit (e := 36) (size := 32) (base := w.heap.size) w #[] 0 (Nat.le_refl _) (by decide) (by simp)) rfl (H4.out.below ((Below.refl _ _).alloc (Nat.le_refl _) _)) (by simp; omega) (by simp) ?_; intro v' w' ho hb)
    go_ret
    exact ⟨v', rfl, Shows.of_own ho, ((Below.refl _ _).alloc (Nat.le_refl _) _).trans hb⟩
theorem cloneI_any (v : Value) (L : List It) (w : World) (h : Its w v L) (hl : L.length ≤ 1000000) :
    Calls Tryz.prog 59 #[v] w fun e w' => ∃ v', e = .returned v' ∧ OwnI w' w.heap.size v' L ∧ Below w.heap.size w w' := by
  obtain ⟨x, cap, rfl, h1, h2, h3, h4⟩ := h.open
  cases x with
  | none =>
    have e : cap = 0 := h3 rfl
    obtain rfl : L = [] := List.eq_nil_of_length_eq_zero (by omega)
    subst e
    clear h3 h h4
    have hk := run_nilI none 0 0 w
    show Calls _ _ #[.slice none 0 0] _ _
    go_enter Tryz.func59, Tryz.ntmps59
    go_wp2
    go_ret
    exact ⟨_, rfl, OwnI.nil _ _, Below.refl _ _⟩
  | some x =>
    have H4 := Lib.hid h4
    clear h h4 h3
    have hk := run_nilI (some x) L.length cap w
    go_enter Tryz.func59, Tryz.ntmps59
    go_wp2_with (at_builtin; refine app_items (base := w.heap.size) rfl (.tmp 5) (.tmp 6) rfl (L := []) rfl (OwnI.lit0 w) rfl (H4.out.below ((Below.refl _ _).alloc (Nat.le_refl _) _)) (by simp; omega) (by simp) ?_; intro v' w' ho hb)
    go_ret
    exact ⟨v', rfl, by simpa using ho, ((Below.refl _ _).alloc (Nat.le_refl _) _).trans hb⟩

/-! ### Below -/
/-- What 'Below' leaves. -/
def SmsQ (w : World) (L : List (List UInt8)) (ok : Bool) (e : Ending) (w' : World) : Prop := ∃ v', e = .returned (.tuple #[v', .bool ok]) ∧ Sms w' v' L ∧ Below w.heap.size w w'
def ItsQ (w : World) (L : List It) (ok : Bool) (e : Ending) (w' : World) : Prop := ∃ v', e = .returned (.tuple #[v', .bool ok]) ∧ Its w' v' L ∧ Below w.heap.size w w'
def ItsO (w : World) (L : List It) (ok : Bool) (e : Ending) (w' : World) : Prop := ∃ v', e = .returned (.tuple #[v', .bool ok]) ∧ OwnI w' w.heap.size v' L ∧ Below w.heap.size w w'
theorem Below_bad (w : World) (B b : Nat) (T : TS) (v : Value) (P : List Int) (hg : goodP P = false) (h : Tr w B b T) (hs : Ns w v P) :
    Calls Tryz.prog 22 #[.pointer (some ⟨b, 0, none⟩), v] w (SmsQ w [] false) := by
  obtain ⟨xa, ca, rfl, hc1, hc2, hc3, hs2⟩ := hs.open
  have S1 := Lib.hid hs2
  have HT := Lib.hid h
  have hbl := h.row.lt
  have HG := Lib.hid hg
  clear hg h hs hs2
  go_enter Tryz.func22, Tryz.ntmps22
  go_wp2_with (go_at_call 41; refine (good_any _ P _ S1.out).mono ?_; rw [HG.out]; rintro e w2 ⟨rfl, rfl⟩)
  go_ret2
  exact ⟨_, rfl, Shows.nil _ _, Below.refl _ _⟩
theorem Items_bad (w : World) (B b : Nat) (T : TS) (v : Value) (P : List Int) (hg : goodP P = false) (h : Tr w B b T) (hs : Ns w v P) :
    Calls Tryz.prog 37 #[.pointer (some ⟨b, 0, none⟩), v] w (ItsQ w [] false) := by
  obtain ⟨xa, ca, rfl, hc1, hc2, hc3, hs2⟩ := hs.open
  have S1 := Lib.hid hs2
  have HT := Lib.hid h
  have hbl := h.row.lt
  have HG := Lib.hid hg
  clear hg h hs hs2
  go_enter Tryz.func37, Tryz.ntmps37
  go_wp2_with (go_at_call 41; refine (good_any _ P _ S1.out).mono ?_; rw [HG.out]; rintro e w2 ⟨rfl, rfl⟩)
  go_ret2
  exact ⟨_, rfl, Its.nil _, Below.refl _ _⟩
theorem Below_2 (w : World) (B b : Nat) (T : TS) (v : Value) (k m : Nat) (hk : k < 4) (hm : m < 4) (h : Tr w B b T) (hs : Ns w v [(k : Int), (m : Int)]) :
    Calls Tryz.prog 22 #[.pointer (some ⟨b, 0, none⟩), v] w (SmsQ w [] false) := by
  obtain ⟨xa, ca, rfl, hc1, hc2, hc3, hs2⟩ := hs.open
  have S1 := Lib.hid hs2
  have HT := Lib.hid h
  have hbl := h.row.lt
  have HG : Hid (goodP [(k : Int), (m : Int)] = true) := by
    show _ = _
    have h1 : ∀ n : Nat, n < 4 → badN (n : Int) = false := fun n hn => by simp [badN]; omega
    simp [goodP, h1 k hk, h1 m hm]
  clear h hs hs2
  go_enter Tryz.func22, Tryz.ntmps22
  go_wp2_with (go_at_call 41; refine (good_any _ [(k : Int), (m : Int)] _ S1.out).mono ?_; rw [HG.out]; rintro e w2 ⟨rfl, rfl⟩)
  go_ret2
  exact ⟨_, rfl, Shows.nil _ _, Below.refl _ _⟩
theorem Items_0o (w : World) (B b : Nat) (T : TS) (v : Value) (h : Tr w B b T) (hs : Ns w v []) :
    Calls Tryz.prog 37 #[.pointer (some ⟨b, 0, none⟩), v] w (ItsO w [] false) := by
  obtain ⟨xa, ca, rfl, hc1, hc2, hc3, hs2⟩ := hs.open
  have S1 := Lib.hid hs2
  have HT := Lib.hid h
  have hbl := h.row.lt
  have HG : Hid (goodP [] = true) := rfl
  clear h hs hs2
  go_enter Tryz.func37, Tryz.ntmps37
  go_wp2_with (go_at_call 41; refine (good_any _ [] _ S1.out).mono ?_; rw [HG.out]; rintro e w2 ⟨rfl, rfl⟩)
  go_ret2
  exact ⟨_, rfl, OwnI.nil _ _, Below.refl _ _⟩
theorem Items_1o (w : World) (B b : Nat) (T : TS) (v : Value) (k : Nat) (hk : k < 4) (h : Tr w B b T) (hs : Ns w v [(k : Int)]) :
    Calls Tryz.prog 37 #[.pointer (some ⟨b, 0, none⟩), v] w (ItsO w [] false) := by
  obtain ⟨xa, ca, rfl, hc1, hc2, hc3, hs2⟩ := hs.open
  have S1 := Lib.hid hs2
  have HT := Lib.hid h
  have hbl := h.row.lt
  have HG : Hid (goodP [(k : Int)] = true) := by
    show _ = _
    have h1 : ∀ n : Nat, n < 4 → badN (n : Int) = false := fun n hn => by simp [badN]; omega
    simp [goodP, h1 k hk]
  clear h hs hs2
  go_enter Tryz.func37, Tryz.ntmps37
  go_wp2_with (go_at_call 41; refine (good_any _ [(k : Int)] _ S1.out).mono ?_; rw [HG.out]; rintro e w2 ⟨rfl, rfl⟩)
  go_ret2
  exact ⟨_, rfl, OwnI.nil _ _, Below.refl _ _⟩
theorem Items_0 (w : World) (B b : Nat) (T : TS) (v : Value) (h : Tr w B b T) (hs : Ns w v []) :
    Calls Tryz.prog 37 #[.pointer (some ⟨b, 0, none⟩), v] w (ItsQ w [] false) :=
  (Items_0o w B b T v h hs).mono fun e w' ⟨v', he, ho, hb⟩ => ⟨v', he, ho.its, hb⟩
theorem Items_1 (w : World) (B b : Nat) (T : TS) (v : Value) (k : Nat) (hk : k < 4) (h : Tr w B b T) (hs : Ns w v [(k : Int)]) :
    Calls Tryz.prog 37 #[.pointer (some ⟨b, 0, none⟩), v] w (ItsQ w [] false) :=
  (Items_1o w B b T v k hk h hs).mono fun e w' ⟨v', he, ho, hb⟩ => ⟨v', he, ho.its, hb⟩
theorem Below_0 (w : World) (B b : Nat) (T : TS) (v : Value) (h : Tr w B b T) (hs : Ns w v []) :
    Calls Tryz.prog 22 #[.pointer (some ⟨b, 0, none⟩), v] w (SmsQ w T.A true) := by
  obtain ⟨xa, ca, rfl, hc1, hc2, hc3, hs2⟩ := hs.open
  have S1 := Lib.hid hs2
  have HT := Lib.hid h
  have hbl := h.row.lt
  have HG : Hid (goodP [] = true) := rfl
  have HA := Lib.hid h.smsA
  have H32 := Lib.hid h.ok.a32
  have HN := Lib.hid (show T.A.length ≤ 1000000 by rw [h.ok.nA]; decide)
  generalize T.A = L at *
  clear h hs hs2
  go_enter Tryz.func22, Tryz.ntmps22
  go_wp2_with (first
    | (go_at_call 41; refine (good_any _ [] _ S1.out).mono ?_; rw [HG.out]; rintro e w2 ⟨rfl, rfl⟩)
    | (go_at_call 42; refine (cloneS_any _ L _ HA.out H32.out HN.out).mono ?_; rintro e w3 ⟨v3, rfl, hs3, hb3⟩; have S3 := Lib.hid hs3; have B3 := Lib.hid hb3; clear hs3 hb3))
  go_ret2
  exact ⟨_, rfl, S3.out, B3.out⟩
theorem Below_1 (w : World) (B b : Nat) (T : TS) (v : Value) (k : Nat) (hk : k < 4) (h : Tr w B b T) (hs : Ns w v [(k : Int)]) :
    Calls Tryz.prog 22 #[.pointer (some ⟨b, 0, none⟩), v] w (SmsQ w (T.four k) true) := by
  obtain ⟨xa, ca, rfl, hc1, hc2, hc3, hs2⟩ := hs.open
  have S1 := Lib.hid hs2
  have HT := Lib.hid h
  have hbl := h.row.lt
  have HG : Hid (goodP [(k : Int)] = true) := by
    show _ = _
    have h1 : ∀ n : Nat, n < 4 → badN (n : Int) = false := fun n hn => by simp [badN]; omega
    simp [goodP, h1 k hk]
  have HA : Hid (Sms w.drew (.slice (some ⟨b, 16 + 4 * k * 32, none⟩) 4 (16 - 4 * k)) (T.four k)) := Shows.drew (h.sms4 k hk)
  have H32 : Hid (L32 (T.four k)) := h.ok.four32 k
  have HN := Lib.hid (show (T.four k).length ≤ 1000000 by rw [TS.four_length h.ok k hk]; decide)
  obtain ⟨pb, po, rfl, hat⟩ := hs2.at (by simp)
  have hp0 : w.cell? ⟨pb, po, none⟩ = some (.int .i64 (k : Int)) := hat 0 (by simp)
  have hpl := blt hp0
  generalize T.four k = L at *
  clear h hs hs2 hat
  have k1 : IntKind.i64.wrap ((k : Int) + 1) = (k : Int) + 1 := IntWalk.i64_in _ ⟨by omega, by omega⟩
  have k2 : IntKind.i64.wrap (4 * (k : Int)) = 4 * (k : Int) := IntWalk.i64_in _ ⟨by omega, by omega⟩
  have k3 : IntKind.i64.wrap (4 * ((k : Int) + 1)) = 4 * ((k : Int) + 1) := IntWalk.i64_in _ ⟨by omega, by omega⟩
  have k4 : (0 : Int) ≤ 4 * (k : Int) := by omega
  have k5 : 4 * (k : Int) ≤ 4 * ((k : Int) + 1) := by omega
  have k6 : 4 * ((k : Int) + 1) ≤ 16 := by omega
  have k7 : (4 * (k : Int)).toNat = 4 * k := by omega
  have k8 : (4 * ((k : Int) + 1)).toNat = 4 * k + 4 := by omega
  have k9 : ¬ 16 = 4 * k := by omega
  have ka : 4 * k + 4 - 4 * k = 4 := by omega
  have kb : (k : Int) < 4 := by omega
  have hsl : ∀ w', (Instr.sliceAt 41 (.pointer (some ⟨b, 16, none⟩)) (some (.int .i64 (4 * (k : Int)))) (some (.int .i64 (4 * ((k : Int) + 1)))) none).run Tryz.prog w' = .ok (.slice (some ⟨b, 16 + 4 * k * 32, none⟩) 4 (16 - 4 * k)) w' := fun w' => by
    have ha : Tryz.prog.arrayLen 41 = 16 := by kernel_rfl
    have he : Tryz.prog.elem 41 = 36 := by kernel_rfl
    have hs : (sizeOf 36).run Tryz.prog w' = .ok 32 w' := by
      have := size_sum
      cases hi : Tryz.prog.info? 36 with
      | none => simp [hi] at this
      | some i => simp [hi] at this; simp [sizeOf, typeInfo, hi, this]
    have := run_sliceAt_array_lh (P := Tryz.prog) w' 41 ⟨b, 16, none⟩ (by rw [ha, he]; exact Tryz.underlying41) .i64 .i64 (4 * (k : Int)) (4 * ((k : Int) + 1)) (by omega) (by omega) (by rw [ha]; omega)
    rw [this, ha, he, hs]
    simp only [Result.andThen_ok, slicedAt, k7, k8, ka]
    rw [if_neg k9, Addr.add_lit]
  go_enter Tryz.func22, Tryz.ntmps22
  go_upto_region 5 with (go_at_call 41; refine (good_any _ [(k : Int)] _ S1.out).mono ?_; rw [HG.out]; rintro e w ⟨rfl, rfl⟩)
  refine wp_region_held_drew (S := fun w' => Below w.heap.size w w') (by kernel_rfl) (by exact (Below.refl _ _).drew) (fun hHeld => ?_)
  refine wpAnyH_take (i := 0) (v := ?_) (by simp only [List.getElem?_toArray, List.getElem?_cons_zero, List.getElem?_cons_succ] <;> rfl) (by kernel_rfl) (by kernel_rfl) (by kernel_rfl) (by intro _ _ _ h; exact h) (Or.inl ⟨by rfl, ?_⟩) (by assumption) ?_
  rotate_left
  · intro w _; go_simp; try with_reducible rfl
  try simp only [Act.put, List.setIfInBounds_toArray, List.set_cons_zero, List.set_cons_succ, Array.replicate]
  refine wpAnyH_take (i := 1) (v := ?_) (by simp only [List.getElem?_toArray, List.getElem?_cons_zero, List.getElem?_cons_succ] <;> rfl) (by kernel_rfl) (by kernel_rfl) (by kernel_rfl) (by intro _ _ _ h; exact h) (Or.inl ⟨by rfl, ?_⟩) (by assumption) ?_
  rotate_left
  · intro w _; go_simp; try with_reducible rfl
  try simp only [Act.put, List.setIfInBounds_toArray, List.set_cons_zero, List.set_cons_succ, Array.replicate]
  refine wpAnyH_take (i := 2) (v := ?_) (by simp only [List.getElem?_toArray, List.getElem?_cons_zero, List.getElem?_cons_succ] <;> rfl) (by kernel_rfl) (by kernel_rfl) (by kernel_rfl) (by intro _ _ _ h; exact h) (Or.inl ⟨by rfl, ?_⟩) (by assumption) ?_
  rotate_left
  · intro w _; go_simp; try with_reducible rfl
  try simp only [Act.put, List.setIfInBounds_toArray, List.set_cons_zero, List.set_cons_succ, Array.replicate]
  refine wpAnyH_take (i := 3) (v := ?_) (by simp only [List.getElem?_toArray, List.getElem?_cons_zero, List.getElem?_cons_succ] <;> rfl) (by kernel_rfl) (by kernel_rfl) (by kernel_rfl) (by intro _ _ _ h; exact h) (Or.inl ⟨by rfl, ?_⟩) (by assumption) ?_
  rotate_left
  · intro w _; go_simp; try with_reducible rfl
  try simp only [Act.put, List.setIfInBounds_toArray, List.set_cons_zero, List.set_cons_succ, Array.replicate]
  refine wpAnyH_take (i := 4) (v := ?_) (by simp only [List.getElem?_toArray, List.getElem?_cons_zero, List.getElem?_cons_succ] <;> rfl) (by kernel_rfl) (by kernel_rfl) (by kernel_rfl) (by intro _ _ _ h; exact h) (Or.inl ⟨by rfl, ?_⟩) (by assumption) ?_
  rotate_left
  · intro w _; go_simp; try with_reducible rfl
  try simp only [Act.put, List.setIfInBounds_toArray, List.set_cons_zero, List.set_cons_succ, Array.replicate]
  refine wpAnyH_take (i := 5) (v := ?_) (by simp only [List.getElem?_toArray, List.getElem?_cons_zero, List.getElem?_cons_succ] <;> rfl) (by kernel_rfl) (by kernel_rfl) (by kernel_rfl) (by intro _ _ _ h; exact h) (Or.inl ⟨by rfl, ?_⟩) (by assumption) ?_
  rotate_left
  · intro w hSS; have q1 := bcell hSS hp0 hpl; go_simp; try with_reducible rfl
  try simp only [Act.put, List.setIfInBounds_toArray, List.set_cons_zero, List.set_cons_succ, Array.replicate]
  refine wpAnyH_take (i := 6) (v := ?_) (by simp only [List.getElem?_toArray, List.getElem?_cons_zero, List.getElem?_cons_succ] <;> rfl) (by kernel_rfl) (by kernel_rfl) (by kernel_rfl) (by intro _ _ _ h; exact h) (Or.inl ⟨by rfl, ?_⟩) (by assumption) ?_
  rotate_left
  · intro w _; go_simp; try with_reducible rfl
  try simp only [Act.put, List.setIfInBounds_toArray, List.set_cons_zero, List.set_cons_succ, Array.replicate]
  refine wpAnyH_take (i := 7) (v := ?_) (by simp only [List.getElem?_toArray, List.getElem?_cons_zero, List.getElem?_cons_succ] <;> rfl) (by kernel_rfl) (by kernel_rfl) (by kernel_rfl) (by intro _ _ _ h; exact h) (Or.inl ⟨by rfl, ?_⟩) (by assumption) ?_
  rotate_left
  · intro w _; go_simp; try with_reducible rfl
  try simp only [Act.put, List.setIfInBounds_toArray, List.set_cons_zero, List.set_cons_succ, Array.replicate]
  refine wpAnyH_take (i := 8) (v := ?_) (by simp only [List.getElem?_toArray, List.getElem?_cons_zero, List.getElem?_cons_succ] <;> rfl) (by kernel_rfl) (by kernel_rfl) (by kernel_rfl) (by intro _ _ _ h; exact h) (Or.inl ⟨by rfl, ?_⟩) (by assumption) ?_
  rotate_left
  · intro w _; go_simp; try with_reducible rfl
  try simp only [Act.put, List.setIfInBounds_toArray, List.set_cons_zero, List.set_cons_succ, Array.replicate]
  refine wpAnyH_take (i := 9) (v := ?_) (by simp only [List.getElem?_toArray, List.getElem?_cons_zero, List.getElem?_cons_succ] <;> rfl) (by kernel_rfl) (by kernel_rfl) (by kernel_rfl) (by intro _ _ _ h; exact h) (Or.inl ⟨by rfl, ?_⟩) (by assumption) ?_
  rotate_left
  · intro w hSS; have q1 := bcell hSS hp0 hpl; go_simp; try with_reducible rfl
  try simp only [Act.put, List.setIfInBounds_toArray, List.set_cons_zero, List.set_cons_succ, Array.replicate]
  refine wpAnyH_take (i := 10) (v := ?_) (by simp only [List.getElem?_toArray, List.getElem?_cons_zero, List.getElem?_cons_succ] <;> rfl) (by kernel_rfl) (by kernel_rfl) (by kernel_rfl) (by intro _ _ _ h; exact h) (Or.inl ⟨by rfl, ?_⟩) (by assumption) ?_
  rotate_left
  · intro w _; go_simp; try with_reducible rfl
  try simp only [Act.put, List.setIfInBounds_toArray, List.set_cons_zero, List.set_cons_succ, Array.replicate]
  refine wpAnyH_take (i := 11) (v := ?_) (by simp only [List.getElem?_toArray, List.getElem?_cons_zero, List.getElem?_cons_succ] <;> rfl) (by kernel_rfl) (by kernel_rfl) (by kernel_rfl) (by intro _ _ _ h; exact h) (Or.inl ⟨by rfl, ?_⟩) (by assumption) ?_
  rotate_left
  · intro w _; go_simp; try with_reducible rfl
  try simp only [Act.put, List.setIfInBounds_toArray, List.set_cons_zero, List.set_cons_succ, Array.replicate]
  refine wpAnyH_take (i := 12) (v := ?_) (by simp only [List.getElem?_toArray, List.getElem?_cons_zero, List.getElem?_cons_succ] <;> rfl) (by kernel_rfl) (by kernel_rfl) (by kernel_rfl) (by intro _ _ _ h; exact h) (Or.inl ⟨by rfl, ?_⟩) (by assumption) ?_
  rotate_left
  · intro w _; go_simp; try with_reducible rfl
  try simp only [Act.put, List.setIfInBounds_toArray, List.set_cons_zero, List.set_cons_succ, Array.replicate]
  refine wpAnyH_ready (rs := [13]) (by kernel_rfl) (by simp) ?_
  refine AllReadyH.cons (by simp only [List.getElem?_toArray, List.getElem?_cons_zero, List.getElem?_cons_succ] <;> rfl) (fun K hK => ?_) ?_
  · go_simp; go_at_call 42; with_reducible refine (cloneS_any _ L _ HA.out H32.out HN.out).mono ?_; rintro e w3 ⟨v3, rfl, hs3, hb3⟩; have S3 := Lib.hid hs3; try go_simp
    refine hK.out _ _ ((Below.refl _ _).drew.trans hb3) (fun hHeld => ?_)
    clear hK K
    try simp only [Act.put, List.setIfInBounds_toArray, List.set_cons_zero, List.set_cons_succ, Array.replicate]
    refine wpAnyH_take (i := 14) (v := ?_) (by simp only [List.getElem?_toArray, List.getElem?_cons_zero, List.getElem?_cons_succ] <;> rfl) (by kernel_rfl) (by kernel_rfl) (by kernel_rfl) (by intro _ _ _ h; exact h) (Or.inl ⟨by rfl, ?_⟩) (by assumption) ?_
    rotate_left
    · intro w _; go_simp; try with_reducible rfl
    try simp only [Act.put, List.setIfInBounds_toArray, List.set_cons_zero, List.set_cons_succ, Array.replicate]
    refine wpAnyH_take (i := 15) (v := ?_) (by simp only [List.getElem?_toArray, List.getElem?_cons_zero, List.getElem?_cons_succ] <;> rfl) (by kernel_rfl) (by kernel_rfl) (by kernel_rfl) (by intro _ _ _ h; exact h) (Or.inl ⟨by rfl, ?_⟩) (by assumption) ?_
    rotate_left
    · intro w _; go_simp; try with_reducible rfl
    try simp only [Act.put, List.setIfInBounds_toArray, List.set_cons_zero, List.set_cons_succ, Array.replicate]
    refine wpAnyH_done (by kernel_rfl) ?_ _
    go_wp2_with fail
    go_ret2
    exact ⟨_, rfl, S3.out, (Below.refl _ _).drew.trans hb3⟩
  exact AllReadyH.nil
theorem Items_2o (w : World) (B b : Nat) (T : TS) (v : Value) (k m : Nat) (hk : k < 4) (hm : m < 4) (h : Tr w B b T) (hs : Ns w v [(k : Int), (m : Int)]) :
    Calls Tryz.prog 37 #[.pointer (some ⟨b, 0, none⟩), v] w (ItsO w (T.L.getD (4 * k + m) []) true) := by
  obtain ⟨xa, ca, rfl, hc1, hc2, hc3, hs2⟩ := hs.open
  have S1 := Lib.hid hs2
  have HT := Lib.hid h
  have hbl := h.row.lt
  have HG : Hid (goodP [(k : Int), (m : Int)] = true) := by
    show _ = _
    have h1 : ∀ n : Nat, n < 4 → badN (n : Int) = false := fun n hn => by simp [badN]; omega
    simp [goodP, h1 k hk, h1 m hm]
  have hi : 4 * k + m < 16 := by omega
  have hc := h.slice (4 * k + m) hi
  have HA : Hid (Its w.drew (T.vs.getD (4 * k + m) undef) (T.L.getD (4 * k + m) [])) := Shows.drew (h.its (4 * k + m) hi)
  have HN := Lib.hid (Nat.le_trans (h.ok.few _ (h.ok.leaf (4 * k + m) hi)) h.ok.small)
  obtain ⟨pb, po, rfl, hat⟩ := hs2.at (by simp)
  have hp0 : w.cell? ⟨pb, po, none⟩ = some (.int .i64 (k : Int)) := hat 0 (by simp)
  have hp1 : w.cell? ⟨pb, po + 1, none⟩ = some (.int .i64 (m : Int)) := hat 1 (by simp)
  have hpl := blt hp0
  have hpl1 := blt hp1
  have k1 : IntKind.i64.wrap (4 * (k : Int)) = 4 * (k : Int) := IntWalk.i64_in _ ⟨by omega, by omega⟩
  have k2 : IntKind.i64.wrap (4 * (k : Int) + (m : Int)) = 4 * (k : Int) + (m : Int) := IntWalk.i64_in _ ⟨by omega, by omega⟩
  have k3 : 4 * (k : Int) + (m : Int) < 16 := by omega
  have k4 : 0 ≤ 4 * (k : Int) + (m : Int) := by omega
  have k5 : (4 * (k : Int) + (m : Int)).toNat = 4 * k + m := by omega
  generalize T.L.getD (4 * k + m) [] = L at *
  generalize T.vs.getD (4 * k + m) undef = u at *
  clear h hs hs2 hat
  go_enter Tryz.func37, Tryz.ntmps37
  go_upto_region 3 with (go_at_call 41; refine (good_any _ [(k : Int), (m : Int)] _ S1.out).mono ?_; rw [HG.out]; rintro e w ⟨rfl, rfl⟩)
  refine wp_region_held_drew (S := fun w' => Below w.heap.size w w') (by kernel_rfl) (by exact (Below.refl _ _).drew) (fun hHeld => ?_)
  refine wpAnyH_take (i := 0) (v := ?_) (by simp only [List.getElem?_toArray, List.getElem?_cons_zero, List.getElem?_cons_succ] <;> rfl) (by kernel_rfl) (by kernel_rfl) (by kernel_rfl) (by intro _ _ _ h; exact h) (Or.inl ⟨by rfl, ?_⟩) (by assumption) ?_
  rotate_left
  · intro w _; go_simp; try with_reducible rfl
  try simp only [Act.put, List.setIfInBounds_toArray, List.set_cons_zero, List.set_cons_succ, Array.replicate]
  refine wpAnyH_take (i := 1) (v := ?_) (by simp only [List.getElem?_toArray, List.getElem?_cons_zero, List.getElem?_cons_succ] <;> rfl) (by kernel_rfl) (by kernel_rfl) (by kernel_rfl) (by intro _ _ _ h; exact h) (Or.inl ⟨by rfl, ?_⟩) (by assumption) ?_
  rotate_left
  · intro w _; go_simp; try with_reducible rfl
  try simp only [Act.put, List.setIfInBounds_toArray, List.set_cons_zero, List.set_cons_succ, Array.replicate]
  refine wpAnyH_take (i := 2) (v := ?_) (by simp only [List.getElem?_toArray, List.getElem?_cons_zero, List.getElem?_cons_succ] <;> rfl) (by kernel_rfl) (by kernel_rfl) (by kernel_rfl) (by intro _ _ _ h; exact h) (Or.inl ⟨by rfl, ?_⟩) (by assumption) ?_
  rotate_left
  · intro w _; go_simp; try with_reducible rfl
  try simp only [Act.put, List.setIfInBounds_toArray, List.set_cons_zero, List.set_cons_succ, Array.replicate]
  refine wpAnyH_take (i := 3) (v := ?_) (by simp only [List.getElem?_toArray, List.getElem?_cons_zero, List.getElem?_cons_succ] <;> rfl) (by kernel_rfl) (by kernel_rfl) (by kernel_rfl) (by intro _ _ _ h; exact h) (Or.inl ⟨by rfl, ?_⟩) (by assumption) ?_
  rotate_left
  · intro w hSS; have q1 := bcell hSS hp0 hpl; go_simp; try with_reducible rfl
  try simp only [Act.put, List.setIfInBounds_toArray, List.set_cons_zero, List.set_cons_succ, Array.replicate]
  refine wpAnyH_take (i := 4) (v := ?_) (by simp only [List.getElem?_toArray, List.getElem?_cons_zero, List.getElem?_cons_succ] <;> rfl) (by kernel_rfl) (by kernel_rfl) (by kernel_rfl) (by intro _ _ _ h; exact h) (Or.inl ⟨by rfl, ?_⟩) (by assumption) ?_
  rotate_left
  · intro w _; go_simp; try with_reducible rfl
  try simp only [Act.put, List.setIfInBounds_toArray, List.set_cons_zero, List.set_cons_succ, Array.replicate]
  refine wpAnyH_take (i := 5) (v := ?_) (by simp only [List.getElem?_toArray, List.getElem?_cons_zero, List.getElem?_cons_succ] <;> rfl) (by kernel_rfl) (by kernel_rfl) (by kernel_rfl) (by intro _ _ _ h; exact h) (Or.inl ⟨by rfl, ?_⟩) (by assumption) ?_
  rotate_left
  · intro w _; go_simp; try with_reducible rfl
  try simp only [Act.put, List.setIfInBounds_toArray, List.set_cons_zero, List.set_cons_succ, Array.replicate]
  refine wpAnyH_take (i := 6) (v := ?_) (by simp only [List.getElem?_toArray, List.getElem?_cons_zero, List.getElem?_cons_succ] <;> rfl) (by kernel_rfl) (by kernel_rfl) (by kernel_rfl) (by intro _ _ _ h; exact h) (Or.inl ⟨by rfl, ?_⟩) (by assumption) ?_
  rotate_left
  · intro w _; go_simp; try with_reducible rfl
  try simp only [Act.put, List.setIfInBounds_toArray, List.set_cons_zero, List.set_cons_succ, Array.replicate]
  refine wpAnyH_take (i := 7) (v := ?_) (by simp only [List.getElem?_toArray, List.getElem?_cons_zero, List.getElem?_cons_succ] <;> rfl) (by kernel_rfl) (by kernel_rfl) (by kernel_rfl) (by intro _ _ _ h; exact h) (Or.inl ⟨by rfl, ?_⟩) (by assumption) ?_
  rotate_left
  · intro w hSS; have q1 := bcell hSS hp1 hpl1; go_simp; try with_reducible rfl
  try simp only [Act.put, List.setIfInBounds_toArray, List.set_cons_zero, List.set_cons_succ, Array.replicate]
  refine wpAnyH_take (i := 8) (v := ?_) (by simp only [List.getElem?_toArray, List.getElem?_cons_zero, List.getElem?_cons_succ] <;> rfl) (by kernel_rfl) (by kernel_rfl) (by kernel_rfl) (by intro _ _ _ h; exact h) (Or.inl ⟨by rfl, ?_⟩) (by assumption) ?_
  rotate_left
  · intro w _; go_simp; try with_reducible rfl
  try simp only [Act.put, List.setIfInBounds_toArray, List.set_cons_zero, List.set_cons_succ, Array.replicate]
  refine wpAnyH_take (i := 9) (v := ?_) (by simp only [List.getElem?_toArray, List.getElem?_cons_zero, List.getElem?_cons_succ] <;> rfl) (by kernel_rfl) (by kernel_rfl) (by kernel_rfl) (by intro _ _ _ h; exact h) (Or.inl ⟨by rfl, ?_⟩) (by assumption) ?_
  rotate_left
  · intro w _; go_simp; try with_reducible rfl
  try simp only [Act.put, List.setIfInBounds_toArray, List.set_cons_zero, List.set_cons_succ, Array.replicate]
  refine wpAnyH_take (i := 10) (v := ?_) (by simp only [List.getElem?_toArray, List.getElem?_cons_zero, List.getElem?_cons_succ] <;> rfl) (by kernel_rfl) (by kernel_rfl) (by kernel_rfl) (by intro _ _ _ h; exact h) (Or.inl ⟨by rfl, ?_⟩) (by assumption) ?_
  rotate_left
  · intro w _; go_simp; try with_reducible rfl
  try simp only [Act.put, List.setIfInBounds_toArray, List.set_cons_zero, List.set_cons_succ, Array.replicate]
  refine wpAnyH_take (i := 11) (v := ?_) (by simp only [List.getElem?_toArray, List.getElem?_cons_zero, List.getElem?_cons_succ] <;> rfl) (by kernel_rfl) (by kernel_rfl) (by kernel_rfl) (by intro _ _ _ h; exact h) (Or.inl ⟨by rfl, ?_⟩) (by assumption) ?_
  rotate_left
  · intro w _; go_simp; try with_reducible rfl
  try simp only [Act.put, List.setIfInBounds_toArray, List.set_cons_zero, List.set_cons_succ, Array.replicate]
  refine wpAnyH_take (i := 12) (v := ?_) (by simp only [List.getElem?_toArray, List.getElem?_cons_zero, List.getElem?_cons_succ] <;> rfl) (by kernel_rfl) (by kernel_rfl) (by kernel_rfl) (by intro _ _ _ h; exact h) (Or.inl ⟨by rfl, ?_⟩) (by assumption) ?_
  rotate_left
  · intro w hSS; have q1 := bcell hSS hc hbl; go_simp; try with_reducible rfl
  try simp only [Act.put, List.setIfInBounds_toArray, List.set_cons_zero, List.set_cons_succ, Array.replicate]
  refine wpAnyH_ready (rs := [13]) (by kernel_rfl) (by simp) ?_
  refine AllReadyH.cons (by simp only [List.getElem?_toArray, List.getElem?_cons_zero, List.getElem?_cons_succ] <;> rfl) (fun K hK => ?_) ?_
  · go_simp; go_at_call 59; with_reducible refine (cloneI_any _ L _ HA.out HN.out).mono ?_; rintro e w3 ⟨v3, rfl, hs3, hb3⟩; have S3 := Lib.hid hs3; try go_simp
    refine hK.out _ _ ((Below.refl _ _).drew.trans hb3) (fun hHeld => ?_)
    clear hK K
    try simp only [Act.put, List.setIfInBounds_toArray, List.set_cons_zero, List.set_cons_succ, Array.replicate]
    refine wpAnyH_take (i := 14) (v := ?_) (by simp only [List.getElem?_toArray, List.getElem?_cons_zero, List.getElem?_cons_succ] <;> rfl) (by kernel_rfl) (by kernel_rfl) (by kernel_rfl) (by intro _ _ _ h; exact h) (Or.inl ⟨by rfl, ?_⟩) (by assumption) ?_
    rotate_left
    · intro w _; go_simp; try with_reducible rfl
    try simp only [Act.put, List.setIfInBounds_toArray, List.set_cons_zero, List.set_cons_succ, Array.replicate]
    refine wpAnyH_take (i := 15) (v := ?_) (by simp only [List.getElem?_toArray, List.getElem?_cons_zero, List.getElem?_cons_succ] <;> rfl) (by kernel_rfl) (by kernel_rfl) (by kernel_rfl) (by intro _ _ _ h; exact h) (Or.inl ⟨by rfl, ?_⟩) (by assumption) ?_
    rotate_left
    · intro w _; go_simp; try with_reducible rfl
    try simp only [Act.put, List.setIfInBounds_toArray, List.set_cons_zero, List.set_cons_succ, Array.replicate]
    refine wpAnyH_done (by kernel_rfl) ?_ _
    go_wp2_with fail
    go_ret2
    exact ⟨_, rfl, S3.out, (Below.refl _ _).drew.trans hb3⟩
  exact AllReadyH.nil
theorem Items_2 (w : World) (B b : Nat) (T : TS) (v : Value) (k m : Nat) (hk : k < 4) (hm : m < 4) (h : Tr w B b T) (hs : Ns w v [(k : Int), (m : Int)]) :
    Calls Tryz.prog 37 #[.pointer (some ⟨b, 0, none⟩), v] w (ItsQ w (T.L.getD (4 * k + m) []) true) :=
  (Items_2o w B b T v k m hk hm h hs).mono fun e w' ⟨v', he, ho, hb⟩ => ⟨v', he, ho.its, hb⟩
/-- The item that is found, or none. -/
def optIt : Option It → It
  | some x => x
  | none => dIt
end Go.Proofs.YticabllkadpmeaaGreatDoor
