/- Package tree: node, find, put. (printed by gen/tren.py) -/
import Derived.Test.YticabllkadpmeaaGreatDoorTreM
import Derived.Test.YticabllkadpmeaaGreatDoorTre8
import Derived.Test.YticabllkadpmeaaGreatDoorPfxS
import Derived.Test.YticabllkadpmeaaGreatDoorOrdk
import Derived.RegionTactic
import Derived.IntWalk
import Derived.Deep.Cut
namespace Go.Proofs.YticabllkadpmeaaGreatDoor
set_option linter.unusedVariables false
set_option linter.unusedSimpArgs false
set_option linter.unnecessarySimpa false
open Go.RowKit
open Tre (It)
set_option maxRecDepth 100000
set_option maxHeartbeats 4000000

/-- The sums below a node. -/
def TS.four (T : TS) (i : Nat) : List (List UInt8) := (T.S.drop (4 * i)).take 4
theorem TS.four_length {T : TS} (h : T.Ok) (i : Nat) (hi : i < 4) : (T.four i).length = 4 := by
  unfold TS.four; rw [List.length_take, List.length_drop, h.nS]; omega
theorem node_any (w : World) (B b : Nat) (T : TS) (i : Nat) (hg : Glob w) (h : Tr w B b T) (hi : i < 4) (hB : 3 ≤ B) :
    Calls Tryz.prog 15 #[.pointer (some ⟨b, 0, none⟩), .int .i64 (i : Int)] w fun e w' => e = .returned (.tuple #[]) ∧ Tr w' B b (T.setA i (Tre.joined (T.four i))) ∧ Below B w w' ∧ Kpt St w w' := by
  have HS : Hid (Sms w.drew (.slice (some ⟨b, 16 + 4 * i * 32, none⟩) 4 (16 - 4 * i)) (T.four i)) := Shows.drew (h.sms4 i hi)
  have H32 : Hid (L32 (T.four i)) := h.ok.four32 i
  have H4 : Hid ((T.four i).length = 4) := TS.four_length h.ok i hi
  have HG : Hid (Glob w.drew) := hg
  have HT := Lib.hid h
  have hsz := h.row.lt
  have hbB := h.hb
  have k1 : IntKind.i64.wrap ((i : Int) + 1) = (i : Int) + 1 := IntWalk.i64_in _ ⟨by omega, by omega⟩
  have k2 : IntKind.i64.wrap (4 * (i : Int)) = 4 * (i : Int) := IntWalk.i64_in _ ⟨by omega, by omega⟩
  have k3 : IntKind.i64.wrap (4 * ((i : Int) + 1)) = 4 * ((i : Int) + 1) := IntWalk.i64_in _ ⟨by omega, by omega⟩
  have k4 : (0 : Int) ≤ 4 * (i : Int) := by omega
  have k5 : 4 * (i : Int) ≤ 4 * ((i : Int) + 1) := by omega
  have k6 : 4 * ((i : Int) + 1) ≤ 16 := by omega
  have k7 : (4 * (i : Int)).toNat = 4 * i := by omega
  have k8 : (4 * ((i : Int) + 1)).toNat = 4 * i + 4 := by omega
  have k9 : ¬ 16 = 4 * i := by omega
  have ka : 4 * i + 4 - 4 * i = 4 := by omega
  have kb : (i : Int) < 4 := by omega
  have hsl : ∀ w', (Instr.sliceAt 41 (.pointer (some ⟨b, 16, none⟩)) (some (.int .i64 (4 * (i : Int)))) (some (.int .i64 (4 * ((i : Int) + 1)))) none).run Tryz.prog w' = .ok (.slice (some ⟨b, 16 + 4 * i * 32, none⟩) 4 (16 - 4 * i)) w' := fun w' => by
    have ha : Tryz.prog.arrayLen 41 = 16 := by kernel_rfl
    have he : Tryz.prog.elem 41 = 36 := by kernel_rfl
    have hs : (sizeOf 36).run Tryz.prog w' = .ok 32 w' := by
      have := size_sum
      cases hi : Tryz.prog.info? 36 with
      | none => simp [hi] at this
      | some i => simp [hi] at this; simp [sizeOf, typeInfo, hi, this]
    have := run_sliceAt_array_lh (P := Tryz.prog) w' 41 ⟨b, 16, none⟩ (by rw [ha, he]; exact Tryz.underlying41) .i64 .i64 (4 * (i : Int)) (4 * ((i : Int) + 1)) (by omega) (by omega) (by rw [ha]; omega)
    rw [this, ha, he, hs]
    simp only [Result.andThen_ok, slicedAt, k7, k8, ka]
    rw [if_neg k9, Addr.add_lit]
  clear h hg
  go_enter Tryz.func15, Tryz.ntmps15
  refine wp_region_any (by kernel_rfl) ?_
  try (change wpAny _ _ _ _ _ _ _ (World.drew _))
  refine wpAny_take (i := 0) (v := ?_) (by simp only [List.getElem?_toArray, List.getElem?_cons_zero, List.getElem?_cons_succ] <;> rfl) (by kernel_rfl) (by kernel_rfl) (by kernel_rfl) (by intro _ _ _ h; exact h) (Or.inl ⟨by rfl, ?_⟩) ?_
  rotate_left
  · intro w; go_simp; try with_reducible rfl
  try simp only [Act.put, List.setIfInBounds_toArray, List.set_cons_zero, List.set_cons_succ, Array.replicate]
  refine wpAny_take (i := 1) (v := ?_) (by simp only [List.getElem?_toArray, List.getElem?_cons_zero, List.getElem?_cons_succ] <;> rfl) (by kernel_rfl) (by kernel_rfl) (by kernel_rfl) (by intro _ _ _ h; exact h) (Or.inl ⟨by rfl, ?_⟩) ?_
  rotate_left
  · intro w; go_simp; try with_reducible rfl
  try simp only [Act.put, List.setIfInBounds_toArray, List.set_cons_zero, List.set_cons_succ, Array.replicate]
  refine wpAny_take (i := 2) (v := ?_) (by simp only [List.getElem?_toArray, List.getElem?_cons_zero, List.getElem?_cons_succ] <;> rfl) (by kernel_rfl) (by kernel_rfl) (by kernel_rfl) (by intro _ _ _ h; exact h) (Or.inl ⟨by rfl, ?_⟩) ?_
  rotate_left
  · intro w; go_simp; try with_reducible rfl
  try simp only [Act.put, List.setIfInBounds_toArray, List.set_cons_zero, List.set_cons_succ, Array.replicate]
  refine wpAny_take (i := 3) (v := ?_) (by simp only [List.getElem?_toArray, List.getElem?_cons_zero, List.getElem?_cons_succ] <;> rfl) (by kernel_rfl) (by kernel_rfl) (by kernel_rfl) (by intro _ _ _ h; exact h) (Or.inl ⟨by rfl, ?_⟩) ?_
  rotate_left
  · intro w; go_simp; try with_reducible rfl
  try simp only [Act.put, List.setIfInBounds_toArray, List.set_cons_zero, List.set_cons_succ, Array.replicate]
  refine wpAny_take (i := 4) (v := ?_) (by simp only [List.getElem?_toArray, List.getElem?_cons_zero, List.getElem?_cons_succ] <;> rfl) (by kernel_rfl) (by kernel_rfl) (by kernel_rfl) (by intro _ _ _ h; exact h) (Or.inl ⟨by rfl, ?_⟩) ?_
  rotate_left
  · intro w; go_simp; try with_reducible rfl
  try simp only [Act.put, List.setIfInBounds_toArray, List.set_cons_zero, List.set_cons_succ, Array.replicate]
  refine wpAny_take (i := 5) (v := ?_) (by simp only [List.getElem?_toArray, List.getElem?_cons_zero, List.getElem?_cons_succ] <;> rfl) (by kernel_rfl) (by kernel_rfl) (by kernel_rfl) (by intro _ _ _ h; exact h) (Or.inl ⟨by rfl, ?_⟩) ?_
  rotate_left
  · intro w; go_simp; try with_reducible rfl
  try simp only [Act.put, List.setIfInBounds_toArray, List.set_cons_zero, List.set_cons_succ, Array.replicate]
  refine wpAny_take (i := 6) (v := ?_) (by simp only [List.getElem?_toArray, List.getElem?_cons_zero, List.getElem?_cons_succ] <;> rfl) (by kernel_rfl) (by kernel_rfl) (by kernel_rfl) (by intro _ _ _ h; exact h) (Or.inl ⟨by rfl, ?_⟩) ?_
  rotate_left
  · intro w; go_simp; try with_reducible rfl
  try simp only [Act.put, List.setIfInBounds_toArray, List.set_cons_zero, List.set_cons_succ, Array.replicate]
  refine wpAny_take (i := 7) (v := ?_) (by simp only [List.getElem?_toArray, List.getElem?_cons_zero, List.getElem?_cons_succ] <;> rfl) (by kernel_rfl) (by kernel_rfl) (by kernel_rfl) (by intro _ _ _ h; exact h) (Or.inl ⟨by rfl, ?_⟩) ?_
  rotate_left
  · intro w; go_simp; try with_reducible rfl
  try simp only [Act.put, List.setIfInBounds_toArray, List.set_cons_zero, List.set_cons_succ, Array.replicate]
  refine wpAny_take (i := 8) (v := ?_) (by simp only [List.getElem?_toArray, List.getElem?_cons_zero, List.getElem?_cons_succ] <;> rfl) (by kernel_rfl) (by kernel_rfl) (by kernel_rfl) (by intro _ _ _ h; exact h) (Or.inl ⟨by rfl, ?_⟩) ?_
  rotate_left
  · intro w; go_simp; try with_reducible rfl
  try simp only [Act.put, List.setIfInBounds_toArray, List.set_cons_zero, List.set_cons_succ, Array.replicate]
  refine wpAny_take (i := 9) (v := ?_) (by simp only [List.getElem?_toArray, List.getElem?_cons_zero, List.getElem?_cons_succ] <;> rfl) (by kernel_rfl) (by kernel_rfl) (by kernel_rfl) (by intro _ _ _ h; exact h) (Or.inl ⟨by rfl, ?_⟩) ?_
  rotate_left
  · intro w; go_simp; try with_reducible rfl
  try simp only [Act.put, List.setIfInBounds_toArray, List.set_cons_zero, List.set_cons_succ, Array.replicate]
  refine wpAny_take (i := 10) (v := ?_) (by simp only [List.getElem?_toArray, List.getElem?_cons_zero, List.getElem?_cons_succ] <;> rfl) (by kernel_rfl) (by kernel_rfl) (by kernel_rfl) (by intro _ _ _ h; exact h) (Or.inl ⟨by rfl, ?_⟩) ?_
  rotate_left
  · intro w; go_simp; try with_reducible rfl
  try simp only [Act.put, List.setIfInBounds_toArray, List.set_cons_zero, List.set_cons_succ, Array.replicate]
  refine wpAny_take (i := 12) (v := ?_) (by simp only [List.getElem?_toArray, List.getElem?_cons_zero, List.getElem?_cons_succ] <;> rfl) (by kernel_rfl) (by kernel_rfl) (by kernel_rfl) (by intro _ _ _ h; exact h) (Or.inl ⟨by rfl, ?_⟩) ?_
  rotate_left
  · intro w; go_simp; try with_reducible rfl
  try simp only [Act.put, List.setIfInBounds_toArray, List.set_cons_zero, List.set_cons_succ, Array.replicate]
  refine wpAny_take (i := 13) (v := ?_) (by simp only [List.getElem?_toArray, List.getElem?_cons_zero, List.getElem?_cons_succ] <;> rfl) (by kernel_rfl) (by kernel_rfl) (by kernel_rfl) (by intro _ _ _ h; exact h) (Or.inl ⟨by rfl, ?_⟩) ?_
  rotate_left
  · intro w; go_simp; try with_reducible rfl
  try simp only [Act.put, List.setIfInBounds_toArray, List.set_cons_zero, List.set_cons_succ, Array.replicate]
  refine wpAny_ready (rs := [11]) (by kernel_rfl) (by simp) ?_
  refine AllReady.cons (by simp only [List.getElem?_toArray, List.getElem?_cons_zero, List.getElem?_cons_succ] <;> rfl) (fun K hK => ?_) ?_
  · go_simp; go_at_call 16; with_reducible refine (join_any _ (T.four i) _ HG.out HS.out H32.out (by rw [H4.out]; decide)).mono ?_; rintro e w1 ⟨rfl, hb1⟩; try go_simp
    refine hK _ _ ?_
    clear hK K
    try simp only [Act.put, List.setIfInBounds_toArray, List.set_cons_zero, List.set_cons_succ, Array.replicate]
    refine wpAny_take (i := 14) (v := ?_) (by simp only [List.getElem?_toArray, List.getElem?_cons_zero, List.getElem?_cons_succ] <;> rfl) (by kernel_rfl) (by kernel_rfl) (by kernel_rfl) (by intro _ _ _ h; exact h) (Or.inl ⟨by rfl, ?_⟩) ?_
    rotate_left
    · intro w; go_simp; try with_reducible rfl
    try simp only [Act.put, List.setIfInBounds_toArray, List.set_cons_zero, List.set_cons_succ, Array.replicate]
    refine wpAny_ready (rs := [15]) (by kernel_rfl) (by simp) ?_
    refine AllReady.cons (by simp only [List.getElem?_toArray, List.getElem?_cons_zero, List.getElem?_cons_succ] <;> rfl) (fun K hK => ?_) ?_
    · have hb2 : Below w.heap.size w w1 := (Below.refl _ w).drew.trans hb1; have hT1 := HT.out.below hb2 (Nat.le_refl _); refine step_sum_mid rfl (.tmp 18) (.tmp 15) rfl b (528 + i * 32) rfl (Tre.joined (T.four i)) rfl (Tre.joined_length _) _ _ hT1.row (by rw [hT1.ok.len]; omega) ?_; have HF := Lib.hid (hT1.storeA i hi (Tre.joined (T.four i)) (Tre.joined_length _)); have HBe : Hid (Below B w (w1.setCells b (528 + i * 32) (bytes (Tre.joined (T.four i))))) := below_setCells (hb2.mono (by omega)) b _ _ (by omega); have HKe : Hid (Kpt St w (w1.setCells b (528 + i * 32) (bytes (Tre.joined (T.four i))))) := (Kpt.of_below hb2).trans (kpt_setCells hT1.row st_tree _ _); clear hT1 hb2
      refine hK _ _ ?_
      clear hK K
      try simp only [Act.put, List.setIfInBounds_toArray, List.set_cons_zero, List.set_cons_succ, Array.replicate]
      refine wpAny_done (by kernel_rfl) ?_ _
      go_end0
      exact ⟨rfl, HF.out, HBe.out, HKe.out⟩
    exact AllReady.nil
  exact AllReady.nil

theorem find_any (w : World) (B b : Nat) (T : TS) (i : Nat) (n : ByteArray) (h : Tr w B b T) (hi : i < 16) :
    Calls Tryz.prog 25 #[.pointer (some ⟨b, 0, none⟩), .int .i64 (i : Int), .string n] w fun e w' => e = .returned (.tuple #[.int .i64 (Tre.ahead (T.L.getD i []) n.data.toList : Int), .bool (Tre.has (T.L.getD i []) n.data.toList)]) ∧ Below w.heap.size w w' := by
  have hc := h.slice i hi
  have hiI : (i : Int) < 16 := by omega
  have hL := h.ok.leaf i hi
  have HI := Lib.hid (h.its i hi)
  have HO := Lib.hid (ItS.oks (h.ok.its _ hL))
  have HR := Lib.hid (h.ok.rise _ hL)
  have HN := Lib.hid (Nat.le_trans (h.ok.few _ hL) h.ok.small)
  generalize T.L.getD i [] = L at *
  generalize T.vs.getD i undef = v at *
  clear h hL
  go_enter Tryz.func25, Tryz.ntmps25
  go_wp2_with (go_at_call 45; refine (search_any v L n _ HI.out HO.out HR.out HN.out).mono ?_; rintro e w1 ⟨rfl, hb1⟩)
  go_ret2
  exact ⟨rfl, hb1⟩
/-- Other items in a leaf, wherever they lie. -/
theorem Tr.setW {w w2 : World} {B b : Nat} {T : TS} (h : Tr w B b T) (i : Nat) (hi : i < 16) (v : Value) (l : List It) (hrow : Row w2 b 44 (T.cells.set i v)) (hg : ∀ k, k < w.heap.size → k ≠ b → some k ≠ (T.vs.getD i undef).ownBlock → w2.heap[k]? = w.heap[k]?)
    (ho : OwnI w2 B v l) (hv : v.ownBlock = (T.vs.getD i undef).ownBlock ∨ ∃ k, v.ownBlock = some k ∧ w.heap.size ≤ k) (hok : (T.setL i v l).Ok) : Tr w2 B b (T.setL i v l) := by
  have hget : ∀ j, j ≠ i → (T.vs.set i v).getD j undef = T.vs.getD j undef := fun j hj => by simp [List.getD, List.getElem?_set, Ne.symm hj]
  have hgeti : (T.vs.set i v).getD i undef = v := by simp [List.getD, List.getElem?_set, h.ok.nv, hi]
  have hgetL : ∀ j, j ≠ i → (T.L.set i l).getD j [] = T.L.getD j [] := fun j hj => by simp [List.getD, List.getElem?_set, Ne.symm hj]
  have hgetLi : (T.L.set i l).getD i [] = l := by simp [List.getD, List.getElem?_set, h.ok.nL, hi]
  refine ⟨?_, h.hb, hok, fun j hj => ?_, fun j k q hj hk hjk e => ?_⟩
  · have e : T.cells.set i v = (T.setL i v l).cells := by
      unfold TS.cells TS.setL
      rw [List.set_append_left _ _ (by rw [h.ok.nv]; exact hi)]
    rw [← e]; exact hrow
  · show OwnI _ B ((T.vs.set i v).getD j undef) ((T.L.set i l).getD j [])
    by_cases hji : j = i
    · subst hji
      rw [hgeti, hgetLi]
      exact ho
    · rw [hget j hji, hgetL j hji]
      have h0 := h.own j hj
      refine ⟨h0.1, ?_⟩
      rcases h0.2 with hv | ⟨g, cap, cur, hv, h1, h2, h3⟩
      · exact .inl hv
      · have hvb : (T.vs.getD j undef).ownBlock = some g := by rw [hv]; rfl
        refine .inr ⟨g, cap, cur, hv, h1, (hg g (Array.getElem?_eq_some_iff.1 h2).1 (fun e => h.noblock j hj (by rw [hvb, e])) fun e => ?_).trans h2, h3⟩
        exact h.apart j i g hj hi hji hvb e.symm
  · show ((T.vs.set i v).getD k undef).ownBlock ≠ some q
    have e' : ((T.vs.set i v).getD j undef).ownBlock = some q := e
    by_cases hji : j = i
    · subst hji
      rw [hgeti] at e'
      rw [hget k (Ne.symm hjk)]
      intro e2
      rcases hv with e3 | ⟨q', e3, hq⟩
      · exact h.apart k j q hk hj (Ne.symm hjk) e2 (by rw [← e3]; exact e')
      · have := (h.own k hk).lt q e2
        rw [e3] at e'
        cases e'
        omega
    · rw [hget j hji] at e'
      by_cases hki : k = i
      · subst hki
        rw [hgeti]
        intro e2
        rcases hv with e3 | ⟨q', e3, hq⟩
        · exact h.apart j k q hj hk hjk e' (by rw [← e3]; exact e2)
        · have := (h.own j hj).lt q e'
          rw [e3] at e2
          cases e2
          omega
      · rw [hget k hki]
        exact h.apart j k q hj hk hjk e'
/-- What 'put' leaves. -/
def PutQ (w : World) (B b : Nat) (T : TS) (x : It) (e : Ending) (w' : World) : Prop :=
  ∃ v, e = .returned (.int .i64 (Tre.slot x.nm : Int)) ∧ Tr w' B b (T.setL (Tre.slot x.nm) v (Tre.put (T.L.getD (Tre.slot x.nm) []) x)) ∧ Below B w w' ∧ Kpt St w w'
theorem put_its {l : List It} {x : It} (h : ∀ y ∈ l, ItS y) (hx : ItS x) : ∀ y ∈ Tre.put l x, ItS y := fun y hy => by
  rcases Tre.mem_put l x y hy with rfl | h1
  · exact hx
  · exact h y h1
theorem TS.Ok.put {T : TS} (h : T.Ok) (i : Nat) (hi : i < 16) (v : Value) (x : It) (hx : ItS x) (hN : T.N + 1 ≤ 1000000) : (T.setL i v (Tre.put (T.L.getD i []) x)).Ok := by
  have hL := h.leaf i hi
  refine h.setL i v _ (put_its (h.its _ hL) hx) (Tre.put_rise _ _ (h.rise _ hL)) ?_ hN
  have := Tre.put_length (T.L.getD i []) x
  have := h.few _ hL
  omega
theorem cells_set_self {T : TS} (h : T.Ok) (i : Nat) (hi : i < 16) : T.cells.set i (T.vs.getD i undef) = T.cells := by
  have h1 := h.slice i hi
  apply List.ext_getElem?
  intro j
  rw [List.getElem?_set]
  by_cases hj : i = j
  · subst hj; rw [if_pos rfl, if_pos (by rw [h.len]; omega), h1]
  · rw [if_neg hj]
theorem OwnI.form {w : World} {B : Nat} {v : Value} {l : List It} (h : OwnI w B v l) : ∃ a n c, v = .slice a n c := by
  rcases h.2 with ⟨h, -⟩ | ⟨g, cap, cur, h, -⟩
  · exact ⟨_, _, _, h⟩
  · exact ⟨_, _, _, h⟩
theorem OwnI.block {w : World} {B : Nat} {v : Value} {l : List It} (h : OwnI w B v l) (r : Nat) (hr : v.ownBlock = some r) : ∃ cs f, w.heap[r]? = some (.cells cs 38 f) := by
  rcases h.2 with ⟨hv, -⟩ | ⟨g, cap, cur, hv, a1, a2, a3⟩
  · rw [hv] at hr; cases hr
  · rw [hv] at hr
    have : g = r := by simpa [Value.ownBlock] using hr
    subst this
    exact ⟨_, _, a2⟩
theorem put_in_place {w : World} {B b : Nat} {T : TS} (h : Tr w B b T) (i : Nat) (hi : i < 16) (g n cap : Nat) (hvv : T.vs.getD i undef = .slice (some ⟨g, 0, none⟩) n cap) (j : Nat) (hj : j < (T.L.getD i []).length) (x : It) (hx : ItS x) (hN : T.N + 1 ≤ 1000000)
    (hput : Tre.put (T.L.getD i []) x = (T.L.getD i []).set j x) :
    Tr (w.drew.setCells g (j * 34) (itC x)) B b (T.setL i (T.vs.getD i undef) (Tre.put (T.L.getD i []) x)) ∧ B ≤ g ∧ (∃ C, Row w.drew g 38 C ∧ j * 34 + 34 ≤ C.length) ∧ Kpt St w (w.drew.setCells g (j * 34) (itC x)) := by
  have hL := h.ok.leaf i hi
  have ho := h.own i hi
  have hgb : (T.vs.getD i undef).ownBlock = some g := by rw [hvv]; rfl
  have hgl := ho.lt g hgb
  have hne : b ≠ g := fun e => h.noblock i hi (by rw [hgb, e])
  rw [hvv] at ho
  obtain ⟨ho4, C4, hr4, hc4⟩ := OwnI.set (w := w.drew) ho (ItS.oks (h.ok.its _ hL)) j hj x hx.1
  have hgr := grown_setCells g (itC x) (j * 34) w.drew
  refine ⟨h.setW i hi _ _ ?_ (fun k hk hkb hkg => ?_) ?_ (.inl rfl) (h.ok.put i hi _ x hx hN), hgl.1, ⟨C4, hr4, hc4⟩, (Kpt.of_below (Below.refl _ w).drew).trans (kpt_setCells hr4 st_item _ _)⟩
  · rw [cells_set_self h.ok i hi]
    exact (hgr.block b h.row.lt (fun e => hne (by cases e; rfl))).trans h.row
  · rw [hgb] at hkg
    exact hgr.block k hk hkg
  · rw [hput, hvv]; exact ho4
theorem put_new {w w3 : World} {B b : Nat} {T : TS} (h : Tr w B b T) (i : Nat) (hi : i < 16) (x : It) (hx : ItS x) (hN : T.N + 1 ≤ 1000000) (v' : Value) (ho : OwnI w3 B v' (Tre.put (T.L.getD i []) x)) (hg : w.grownBy w3 (T.vs.getD i undef).ownBlock)
    (hv : v'.ownBlock = (T.vs.getD i undef).ownBlock ∨ ∃ k, v'.ownBlock = some k ∧ w.heap.size ≤ k) : Tr (w3.setCell ⟨b, i, none⟩ v') B b (T.setL i v' (Tre.put (T.L.getD i []) x)) ∧ Below B w w3 ∧ Below B w (w3.setCell ⟨b, i, none⟩ v') ∧ Kpt St w (w3.setCell ⟨b, i, none⟩ v') := by
  have hb : Below B w w3 := (Below.refl _ w).grown hg (by have := h.row.lt; have := h.hb; omega) (fun k hk => ((h.own i hi).lt k hk).1)
  refine ⟨h.setV i hi v' _ w3 hg ho hv (h.ok.put i hi v' x hx hN), hb, hb.setCell h.hb _, ?_⟩
  have hr3 : Row w3 b 44 T.cells := (hg.block b h.row.lt (fun e => h.noblock i hi e.symm)).trans h.row
  exact (Kpt.grown hg (fun r hr => (h.own i hi).block r hr) st_item).trans (Kpt.setCell hr3 st_tree _)
theorem tput_any (w : World) (B b : Nat) (T : TS) (x : It) (hg : Glob w) (h : Tr w B b T) (hx : ItS x) (hN : T.N + 1 ≤ 1000000) (hB : 3 ≤ B) :
    Calls Tryz.prog 13 #[.pointer (some ⟨b, 0, none⟩), itV x] w (PutQ w B b T x) := by
  obtain ⟨W0, hW0⟩ : ∃ W0, w.alloc (.cells (itC x).toArray 38) = W0 := ⟨_, rfl⟩
  have hrx : Row W0 w.heap.size 38 (itC x) := by rw [← hW0]; exact Row.new w 38 (itC x)
  have hb0 : Below w.heap.size w W0 := by rw [← hW0]; exact balloc (Below.refl _ _) _
  have hc : W0.cell? ⟨w.heap.size, 0, none⟩ = some (.string x.name) := Row.cell hrx 0
  have hbs := h.row.lt
  have hbB := h.hb
  have HG := Lib.hid (Glob.below hg hb0 (by omega))
  have HT := Lib.hid h
  have HT0 := Lib.hid (h.below hb0 (Nat.le_refl _))
  have hnm := hx.2
  have HX := Lib.hid hx
  obtain ⟨i, hid⟩ : ∃ i, Tre.slot x.name.data.toList = i := ⟨_, rfl⟩
  have hi : i < 16 := by rw [← hid]; exact Tre.slot_lt _
  have HSL := Lib.hid hid
  have HRX := Lib.hid hrx
  have HB0 := Lib.hid hb0
  have hw0 := hrx.lt
  clear hrx hb0 hid hx h hg
  have hN2 := Lib.hid hN
  obtain ⟨q, hq⟩ : ∃ q, Tre.has (T.L.getD i []) x.name.data.toList = q := ⟨_, rfl⟩
  obtain ⟨at_, hat⟩ : ∃ at_, Tre.ahead (T.L.getD i []) x.name.data.toList = at_ := ⟨_, rfl⟩
  have HQ := Lib.hid hq
  have HA := Lib.hid hat
  clear hq hat hN
  go_enter Tryz.func13, Tryz.ntmps13
  go_upto_region 1 with fail
  clear hW0
  go_upto_if 19 with (first
    | (go_at_call 24; refine (slot_any x.name _ HG.out (by omega)).mono ?_; rw [HSL.out]; rintro e w1 ⟨rfl, hb1⟩; have B1 := Lib.hid hb1; have T1 := Lib.hid (HT0.out.below hb1 (Nat.le_refl _)); have X1 := Lib.hid (HRX.out.below hb1 hw0); have hc1 := bcell hb1 hc hw0; clear hb1)
    | (go_at_call 25; refine (find_any _ B b T i x.name T1.out hi).mono ?_; rw [HQ.out, HA.out]; rintro e w2 ⟨rfl, hb2⟩; have hw1 := B1.out.size; have B2 := Lib.hid hb2; have T2 := Lib.hid (T1.out.below hb2 (Nat.le_refl _)); have X2 := Lib.hid (X1.out.below hb2 (by omega)); clear hb2))
  have hw2 := B2.out.size
  have hcv := T2.out.slice i hi
  have hrg : Hid (w2.rangeAt w.heap.size 0 (itC x)) := fun j v hv => by rw [Nat.zero_add, X2.out.cell]; exact hv
  have HOKx := HX.out.1
  have HBW : Hid (Below w.heap.size w w2) := HB0.out.trans ((B1.out.mono (Nat.le_of_lt hw0)).trans (B2.out.mono (by omega)))
  have hiI : (i : Int) < 16 := by omega
  have hb2 : b < w2.heap.size := by omega
  have hL := T2.out.ok.leaf i hi
  have HRISE := Lib.hid (T2.out.ok.rise _ hL)
  have HITS := Lib.hid (T2.out.ok.its _ hL)
  have HLEN := Lib.hid (Nat.le_trans (T2.out.ok.few _ hL) T2.out.ok.small)
  have HOWN := Lib.hid (T2.out.own i hi)
  have HPA := Lib.hid (Tre.put_at (T.L.getD i []) x HRISE.out)
  have HAH := Lib.hid (has_at (T.L.getD i []) x.name.data.toList HRISE.out at_ HA.out)
  have HAL : at_ ≤ (T.L.getD i []).length := by rw [← HA.out]; exact Tre.ahead_le _ _
  clear hL hc hc1
  cases q with
  | true =>
    have hat : at_ < (T.L.getD i []).length := by
      have := HAH.out
      rw [HQ.out] at this
      exact (of_decide_eq_true this.symm).1
    obtain ⟨g, n, cap, hvv⟩ : ∃ g n cap, T.vs.getD i undef = .slice (some ⟨g, 0, none⟩) n cap ∧ n = (T.L.getD i []).length := by
      rcases HOWN.out.2 with ⟨-, h0⟩ | ⟨g, cap, cur, hv, -⟩
      · omega
      · exact ⟨g, _, cap, hv, rfl⟩
    obtain ⟨hvv, hn⟩ := hvv
    have hatI : (at_ : Int) < (n : Int) := by omega
    rw [hvv] at hcv
    have HOWN2 := HOWN.out
    rw [hvv] at HOWN2
    have HO2 := Lib.hid HOWN2
    have HVV := Lib.hid hvv
    have HNN := Lib.hid hn
    have hput : Tre.put (T.L.getD i []) x = (T.L.getD i []).set at_ x := by
      have h1 := HPA.out
      rw [if_pos (show Tre.has (T.L.getD i []) x.nm = true from HQ.out)] at h1
      rw [h1]
      exact congrArg (fun k => (T.L.getD i []).set k x) HA.out
    obtain ⟨hf4, hg4, ⟨C4, hr4, hc4⟩, hk4⟩ := put_in_place T2.out i hi g n cap hvv at_ hat x HX.out hN2.out hput
    have HF4 := Lib.hid hf4
    have HR4 := Lib.hid hr4
    have HKF := Lib.hid ((Kpt.of_below HBW.out).trans hk4)
    have hb4 : Below B w2 (w2.drew.setCells g (at_ * 34) (itC x)) := below_setCells ((Below.refl _ w2).drew.mono (by omega)) g _ _ hg4
    have HBF := Lib.hid ((HBW.out.mono (by omega)).trans hb4)
    clear HOWN2 hvv hn hput hf4 hr4 hb4 hk4
    go_upto_region 4 with fail
    refine wp_region_L (S := Held2 9 (fun w' => Below w2.heap.size w2 w') 9 (fun _ => True)) (by kernel_rfl) ⟨fun _ => (by exact (Below.refl _ _).drew), fun _ => trivial⟩ (fun hHeld => ?_)
    refine wpAnyL_take (i := 0) (ms := []) (Si := fun _ => True) (v := ?_) (by simp only [List.getElem?_toArray, List.getElem?_cons_zero, List.getElem?_cons_succ] <;> rfl) (by kernel_rfl) (by kernel_rfl) (by kernel_rfl) (by intro _ _ _ h; exact h) trivial (by intro m hm; cases hm) (Held2.set (by decide) (by decide)) (fun _ _ _ _ => trivial) (by intro m hm; cases hm) (Or.inl ⟨by rfl, ?_⟩) (by assumption) ?_
    rotate_left
    · intro w _; go_simp; try with_reducible rfl
    try simp only [Act.put, List.setIfInBounds_toArray, List.set_cons_zero, List.set_cons_succ, Array.replicate]
    refine wpAnyL_take (i := 1) (ms := []) (Si := fun _ => True) (v := ?_) (by simp only [List.getElem?_toArray, List.getElem?_cons_zero, List.getElem?_cons_succ] <;> rfl) (by kernel_rfl) (by kernel_rfl) (by kernel_rfl) (by intro _ _ _ h; exact h) trivial (by intro m hm; cases hm) (Held2.set (by decide) (by decide)) (fun _ _ _ _ => trivial) (by intro m hm; cases hm) (Or.inl ⟨by rfl, ?_⟩) (by assumption) ?_
    rotate_left
    · intro w _; go_simp; try with_reducible rfl
    try simp only [Act.put, List.setIfInBounds_toArray, List.set_cons_zero, List.set_cons_succ, Array.replicate]
    refine wpAnyL_take (i := 2) (ms := []) (Si := fun _ => True) (v := ?_) (by simp only [List.getElem?_toArray, List.getElem?_cons_zero, List.getElem?_cons_succ] <;> rfl) (by kernel_rfl) (by kernel_rfl) (by kernel_rfl) (by intro _ _ _ h; exact h) trivial (by intro m hm; cases hm) (Held2.set (by decide) (by decide)) (fun _ _ _ _ => trivial) (by intro m hm; cases hm) (Or.inl ⟨by rfl, ?_⟩) (by assumption) ?_
    rotate_left
    · intro w _; go_simp; try with_reducible rfl
    try simp only [Act.put, List.setIfInBounds_toArray, List.set_cons_zero, List.set_cons_succ, Array.replicate]
    refine wpAnyL_take (i := 3) (ms := []) (Si := fun _ => True) (v := ?_) (by simp only [List.getElem?_toArray, List.getElem?_cons_zero, List.getElem?_cons_succ] <;> rfl) (by kernel_rfl) (by kernel_rfl) (by kernel_rfl) (by intro _ _ _ h; exact h) trivial (by intro m hm; cases hm) (Held2.set (by decide) (by decide)) (fun _ _ _ _ => trivial) (by intro m hm; cases hm) (Or.inl ⟨by rfl, ?_⟩) (by assumption) ?_
    rotate_left
    · intro w _; go_simp; try with_reducible rfl
    try simp only [Act.put, List.setIfInBounds_toArray, List.set_cons_zero, List.set_cons_succ, Array.replicate]
    refine wpAnyL_take (i := 4) (ms := []) (Si := fun _ => True) (v := ?_) (by simp only [List.getElem?_toArray, List.getElem?_cons_zero, List.getElem?_cons_succ] <;> rfl) (by kernel_rfl) (by kernel_rfl) (by kernel_rfl) (by intro _ _ _ h; exact h) trivial (by intro m hm; cases hm) (Held2.set (by decide) (by decide)) (fun _ _ _ _ => trivial) (by intro m hm; cases hm) (Or.inl ⟨by rfl, ?_⟩) (by assumption) ?_
    rotate_left
    · intro w _; go_simp; try with_reducible rfl
    try simp only [Act.put, List.setIfInBounds_toArray, List.set_cons_zero, List.set_cons_succ, Array.replicate]
    refine wpAnyL_take (i := 5) (ms := [9]) (Si := (fun w' => Below w2.heap.size w2 w')) (v := ?_) (by simp only [List.getElem?_toArray, List.getElem?_cons_zero, List.getElem?_cons_succ] <;> rfl) (by kernel_rfl) (by kernel_rfl) (by kernel_rfl) (by intro _ _ _ h; exact h) (Chain.of (by kernel_rfl)) (by decide) (Held2.set (by decide) (by decide)) (fun l w hu hS => hS.1 (hu 9 (by simp))) (Un.of (by kernel_rfl)) (Or.inl ⟨by rfl, ?_⟩) (by assumption) ?_
    rotate_left
    · intro w hSS; have hq := bcell hSS hcv hb2; go_simp; try with_reducible rfl
    try simp only [Act.put, List.setIfInBounds_toArray, List.set_cons_zero, List.set_cons_succ, Array.replicate]
    refine wpAnyL_take (i := 6) (ms := []) (Si := fun _ => True) (v := ?_) (by simp only [List.getElem?_toArray, List.getElem?_cons_zero, List.getElem?_cons_succ] <;> rfl) (by kernel_rfl) (by kernel_rfl) (by kernel_rfl) (by intro _ _ _ h; exact h) trivial (by intro m hm; cases hm) (Held2.set (by decide) (by decide)) (fun _ _ _ _ => trivial) (by intro m hm; cases hm) (Or.inl ⟨by rfl, ?_⟩) (by assumption) ?_
    rotate_left
    · intro w _; go_simp; try with_reducible rfl
    try simp only [Act.put, List.setIfInBounds_toArray, List.set_cons_zero, List.set_cons_succ, Array.replicate]
    refine wpAnyL_take (i := 7) (ms := [9]) (Si := (fun w' => Below w2.heap.size w2 w')) (v := _) (by simp only [List.getElem?_toArray, List.getElem?_cons_zero, List.getElem?_cons_succ] <;> rfl) (by kernel_rfl) (by kernel_rfl) (by kernel_rfl) (by intro _ _ _ h; exact h) (Chain.of (by kernel_rfl)) (by decide) (Held2.set (by decide) (by decide)) (fun l w hu hS => hS.1 (hu 9 (by simp))) (Un.of (by kernel_rfl)) (yieldsIf_item_mid (by with_unfolding_all rfl) (.tmp 3) rfl w.heap.size 0 rfl x HOKx (fun w' hS => rangeAt_below hrg.out hS)) (by assumption) ?_
    try simp only [Act.put, List.setIfInBounds_toArray, List.set_cons_zero, List.set_cons_succ, Array.replicate]
    refine wpAnyL_take (i := 8) (ms := []) (Si := fun _ => True) (v := ?_) (by simp only [List.getElem?_toArray, List.getElem?_cons_zero, List.getElem?_cons_succ] <;> rfl) (by kernel_rfl) (by kernel_rfl) (by kernel_rfl) (by intro _ _ _ h; exact h) trivial (by intro m hm; cases hm) (Held2.set (by decide) (by decide)) (fun _ _ _ _ => trivial) (by intro m hm; cases hm) (Or.inl ⟨by rfl, ?_⟩) (by assumption) ?_
    rotate_left
    · intro w _; go_simp; try with_reducible rfl
    try simp only [Act.put, List.setIfInBounds_toArray, List.set_cons_zero, List.set_cons_succ, Array.replicate]
    refine wpAnyL_ready (rs := [9]) (by kernel_rfl) (by simp) ?_
    refine AllReadyL.cons (by simp only [List.getElem?_toArray, List.getElem?_cons_zero, List.getElem?_cons_succ] <;> rfl) (fun K hK => ?_) ?_
    · refine step_item_mid rfl (.tmp 28) (.tmp 27) rfl g (at_ * 34) rfl x rfl HOKx _ C4 HR4.out hc4 ?_
      refine hK.out _ _ ⟨(fun h => by cases (show true = false from h)), (fun h => by cases (show true = false from h))⟩ (fun hHeld => ?_)
      clear hK K
      try simp only [Act.put, List.setIfInBounds_toArray, List.set_cons_zero, List.set_cons_succ, Array.replicate]
      refine wpAnyL_done (by kernel_rfl) ?_ _
      go_wp2_with fail
      go_ret
      refine ⟨T.vs.getD i undef, ?_, ?_, HBF.out, HKF.out⟩
      · show _ = Ending.returned (.int .i64 (Tre.slot x.name.data.toList : Int))
        rw [HSL.out]; rfl
      · show Tr _ B b (T.setL (Tre.slot x.name.data.toList) _ (Tre.put (T.L.getD (Tre.slot x.name.data.toList) []) x))
        rw [HSL.out]
        exact HF4.out
    exact AllReadyL.nil
  | false =>
    obtain ⟨v, hvd⟩ : ∃ v, T.vs.getD i undef = v := ⟨_, rfl⟩
    rw [hvd] at hcv
    have HO2 := HOWN.out
    rw [hvd] at HO2
    have HO2 := Lib.hid HO2
    have HVD := Lib.hid hvd
    have hput : Tre.put (T.L.getD i []) x = (T.L.getD i []).take at_ ++ x :: (T.L.getD i []).drop at_ := by
      have h1 := HPA.out
      rw [if_neg (by rw [show Tre.has (T.L.getD i []) x.nm = false from HQ.out]; simp)] at h1
      rw [h1]
      exact congrArg (fun k => (T.L.getD i []).take k ++ x :: (T.L.getD i []).drop k) HA.out
    have HPUT := Lib.hid hput
    have halI : (at_ : Int) ≤ ((T.L.getD i []).length : Int) := by omega
    clear hvd hput
    obtain ⟨W5, hW5⟩ : ∃ W5, w2.drew.alloc (.cells (itC x).toArray 38) = W5 := ⟨_, rfl⟩
    have hb5 : Below w2.heap.size w2 W5 := by rw [← hW5]; exact (Below.refl _ w2).drew.alloc (Nat.le_refl _) _
    have HR5 : Hid (Row W5 w2.heap.size 38 (itC x)) := by rw [← hW5]; exact Row.new w2.drew 38 (itC x)
    have HO5 := Lib.hid (HO2.out.below hb5 (Nat.le_refl _))
    have hvn : Hid (v.ownBlock ≠ some w2.heap.size) := fun e => by have := HO2.out.lt _ e; omega
    have HT5 := Lib.hid (T2.out.below hb5 (Nat.le_refl _))
    have HB5 := Lib.hid hb5
    have hs5 := HR5.out.lt
    have HW5 := Lib.hid hW5
    clear hb5 hW5
    go_upto_region 5 with fail
    refine wp_region_L (S := Held2 11 (fun w' => Below w2.heap.size w2 w') 11 (fun _ => True)) (by kernel_rfl) ⟨fun _ => (by exact (Below.refl _ _).drew), fun _ => trivial⟩ (fun hHeld => ?_)
    refine wpAnyL_take (i := 0) (ms := []) (Si := fun _ => True) (v := ?_) (by simp only [List.getElem?_toArray, List.getElem?_cons_zero, List.getElem?_cons_succ] <;> rfl) (by kernel_rfl) (by kernel_rfl) (by kernel_rfl) (by intro _ _ _ h; exact h) trivial (by intro m hm; cases hm) (Held2.set (by decide) (by decide)) (fun _ _ _ _ => trivial) (by intro m hm; cases hm) (Or.inl ⟨by rfl, ?_⟩) (by assumption) ?_
    rotate_left
    · intro w _; go_simp; try with_reducible rfl
    try simp only [Act.put, List.setIfInBounds_toArray, List.set_cons_zero, List.set_cons_succ, Array.replicate]
    refine wpAnyL_take (i := 1) (ms := []) (Si := fun _ => True) (v := ?_) (by simp only [List.getElem?_toArray, List.getElem?_cons_zero, List.getElem?_cons_succ] <;> rfl) (by kernel_rfl) (by kernel_rfl) (by kernel_rfl) (by intro _ _ _ h; exact h) trivial (by intro m hm; cases hm) (Held2.set (by decide) (by decide)) (fun _ _ _ _ => trivial) (by intro m hm; cases hm) (Or.inl ⟨by rfl, ?_⟩) (by assumption) ?_
    rotate_left
    · intro w _; go_simp; try with_reducible rfl
    try simp only [Act.put, List.setIfInBounds_toArray, List.set_cons_zero, List.set_cons_succ, Array.replicate]
    refine wpAnyL_take (i := 2) (ms := []) (Si := fun _ => True) (v := ?_) (by simp only [List.getElem?_toArray, List.getElem?_cons_zero, List.getElem?_cons_succ] <;> rfl) (by kernel_rfl) (by kernel_rfl) (by kernel_rfl) (by intro _ _ _ h; exact h) trivial (by intro m hm; cases hm) (Held2.set (by decide) (by decide)) (fun _ _ _ _ => trivial) (by intro m hm; cases hm) (Or.inl ⟨by rfl, ?_⟩) (by assumption) ?_
    rotate_left
    · intro w _; go_simp; try with_reducible rfl
    try simp only [Act.put, List.setIfInBounds_toArray, List.set_cons_zero, List.set_cons_succ, Array.replicate]
    refine wpAnyL_take (i := 3) (ms := []) (Si := fun _ => True) (v := ?_) (by simp only [List.getElem?_toArray, List.getElem?_cons_zero, List.getElem?_cons_succ] <;> rfl) (by kernel_rfl) (by kernel_rfl) (by kernel_rfl) (by intro _ _ _ h; exact h) trivial (by intro m hm; cases hm) (Held2.set (by decide) (by decide)) (fun _ _ _ _ => trivial) (by intro m hm; cases hm) (Or.inl ⟨by rfl, ?_⟩) (by assumption) ?_
    rotate_left
    · intro w _; go_simp; try with_reducible rfl
    try simp only [Act.put, List.setIfInBounds_toArray, List.set_cons_zero, List.set_cons_succ, Array.replicate]
    refine wpAnyL_take (i := 4) (ms := []) (Si := fun _ => True) (v := ?_) (by simp only [List.getElem?_toArray, List.getElem?_cons_zero, List.getElem?_cons_succ] <;> rfl) (by kernel_rfl) (by kernel_rfl) (by kernel_rfl) (by intro _ _ _ h; exact h) trivial (by intro m hm; cases hm) (Held2.set (by decide) (by decide)) (fun _ _ _ _ => trivial) (by intro m hm; cases hm) (Or.inl ⟨by rfl, ?_⟩) (by assumption) ?_
    rotate_left
    · intro w _; go_simp; try with_reducible rfl
    try simp only [Act.put, List.setIfInBounds_toArray, List.set_cons_zero, List.set_cons_succ, Array.replicate]
    refine wpAnyL_take (i := 5) (ms := []) (Si := fun _ => True) (v := ?_) (by simp only [List.getElem?_toArray, List.getElem?_cons_zero, List.getElem?_cons_succ] <;> rfl) (by kernel_rfl) (by kernel_rfl) (by kernel_rfl) (by intro _ _ _ h; exact h) trivial (by intro m hm; cases hm) (Held2.set (by decide) (by decide)) (fun _ _ _ _ => trivial) (by intro m hm; cases hm) (Or.inl ⟨by rfl, ?_⟩) (by assumption) ?_
    rotate_left
    · intro w _; go_simp; try with_reducible rfl
    try simp only [Act.put, List.setIfInBounds_toArray, List.set_cons_zero, List.set_cons_succ, Array.replicate]
    refine wpAnyL_take (i := 6) (ms := []) (Si := fun _ => True) (v := ?_) (by simp only [List.getElem?_toArray, List.getElem?_cons_zero, List.getElem?_cons_succ] <;> rfl) (by kernel_rfl) (by kernel_rfl) (by kernel_rfl) (by intro _ _ _ h; exact h) trivial (by intro m hm; cases hm) (Held2.set (by decide) (by decide)) (fun _ _ _ _ => trivial) (by intro m hm; cases hm) (Or.inl ⟨by rfl, ?_⟩) (by assumption) ?_
    rotate_left
    · intro w _; go_simp; try with_reducible rfl
    try simp only [Act.put, List.setIfInBounds_toArray, List.set_cons_zero, List.set_cons_succ, Array.replicate]
    refine wpAnyL_take (i := 7) (ms := [11]) (Si := (fun w' => Below w2.heap.size w2 w')) (v := ?_) (by simp only [List.getElem?_toArray, List.getElem?_cons_zero, List.getElem?_cons_succ] <;> rfl) (by kernel_rfl) (by kernel_rfl) (by kernel_rfl) (by intro _ _ _ h; exact h) (Chain.of (by kernel_rfl)) (by decide) (Held2.set (by decide) (by decide)) (fun l w hu hS => hS.1 (hu 11 (by simp))) (Un.of (by kernel_rfl)) (Or.inl ⟨by rfl, ?_⟩) (by assumption) ?_
    rotate_left
    · intro w hSS; have hq := bcell hSS hcv hb2; go_simp; try with_reducible rfl
    try simp only [Act.put, List.setIfInBounds_toArray, List.set_cons_zero, List.set_cons_succ, Array.replicate]
    refine wpAnyL_take (i := 8) (ms := []) (Si := fun _ => True) (v := ?_) (by simp only [List.getElem?_toArray, List.getElem?_cons_zero, List.getElem?_cons_succ] <;> rfl) (by kernel_rfl) (by kernel_rfl) (by kernel_rfl) (by intro _ _ _ h; exact h) trivial (by intro m hm; cases hm) (Held2.set (by decide) (by decide)) (fun _ _ _ _ => trivial) (by intro m hm; cases hm) (Or.inl ⟨by rfl, ?_⟩) (by assumption) ?_
    rotate_left
    · intro w _; go_simp; try with_reducible rfl
    try simp only [Act.put, List.setIfInBounds_toArray, List.set_cons_zero, List.set_cons_succ, Array.replicate]
    refine wpAnyL_take (i := 9) (ms := [10, 11]) (Si := (fun w' => Below w2.heap.size w2 w')) (v := _) (by simp only [List.getElem?_toArray, List.getElem?_cons_zero, List.getElem?_cons_succ] <;> rfl) (by kernel_rfl) (by kernel_rfl) (by kernel_rfl) (by intro _ _ _ h; exact h) (Chain.of (by kernel_rfl)) (by decide) (Held2.set (by decide) (by decide)) (fun l w hu hS => hS.1 (hu 11 (by simp))) (Un.of (by kernel_rfl)) (yieldsIf_item_mid (by with_unfolding_all rfl) (.tmp 3) rfl w.heap.size 0 rfl x HOKx (fun w' hS => rangeAt_below hrg.out hS)) (by assumption) ?_
    try simp only [Act.put, List.setIfInBounds_toArray, List.set_cons_zero, List.set_cons_succ, Array.replicate]
    refine wpAnyL_take (i := 12) (ms := []) (Si := fun _ => True) (v := ?_) (by simp only [List.getElem?_toArray, List.getElem?_cons_zero, List.getElem?_cons_succ] <;> rfl) (by kernel_rfl) (by kernel_rfl) (by kernel_rfl) (by intro _ _ _ h; exact h) trivial (by intro m hm; cases hm) (Held2.set (by decide) (by decide)) (fun _ _ _ _ => trivial) (by intro m hm; cases hm) (Or.inl ⟨by rfl, ?_⟩) (by assumption) ?_
    rotate_left
    · intro w _; go_simp; try with_reducible rfl
    try simp only [Act.put, List.setIfInBounds_toArray, List.set_cons_zero, List.set_cons_succ, Array.replicate]
    refine wpAnyL_take (i := 13) (ms := []) (Si := fun _ => True) (v := ?_) (by simp only [List.getElem?_toArray, List.getElem?_cons_zero, List.getElem?_cons_succ] <;> rfl) (by kernel_rfl) (by kernel_rfl) (by kernel_rfl) (by intro _ _ _ h; exact h) trivial (by intro m hm; cases hm) (Held2.set (by decide) (by decide)) (fun _ _ _ _ => trivial) (by intro m hm; cases hm) (Or.inl ⟨by rfl, ?_⟩) (by assumption) ?_
    rotate_left
    · intro w _; go_simp; try with_reducible rfl
    try simp only [Act.put, List.setIfInBounds_toArray, List.set_cons_zero, List.set_cons_succ, Array.replicate]
    refine wpAnyL_ready (rs := [10]) (by kernel_rfl) (by simp) ?_
    refine AllReadyL.cons (by simp only [List.getElem?_toArray, List.getElem?_cons_zero, List.getElem?_cons_succ] <;> rfl) (fun K hK => ?_) ?_
    · refine step_build_item rfl (.tmp 38) rfl x HOKx rfl ?_
      refine hK.out _ _ ⟨(fun _ => ((Below.refl _ _).drew.alloc (by exact Nat.le_refl _) _)), (fun _ => trivial)⟩ (fun hHeld => ?_)
      clear hK K
      try simp only [Act.put, List.setIfInBounds_toArray, List.set_cons_zero, List.set_cons_succ, Array.replicate]
      rw [HW5.out]
      refine wpAnyL_ready (rs := [11]) (by kernel_rfl) (by simp) ?_
      refine AllReadyL.cons (by simp only [List.getElem?_toArray, List.getElem?_cons_zero, List.getElem?_cons_succ] <;> rfl) (fun K hK => ?_) ?_
      · go_simp; go_at_call 26; refine (ins_any W5 B v (T.L.getD i []) at_ x w2.heap.size HO5.out (ItS.oks HITS.out) HOKx HLEN.out HAL HR5.out hvn.out (by omega)).mono ?_; rintro e w5 ⟨v', rfl, ho5, hg5, hv5⟩; rw [← HPUT.out] at ho5; rw [← HVD.out] at hg5 hv5; obtain ⟨a5, n5, c5, hv5e⟩ := ho5.form; subst hv5e; obtain ⟨hf6, hb6, hb7, hk7⟩ := put_new HT5.out i hi x HX.out hN2.out _ ho5 hg5 hv5; have hr6 := (hg5.block b (by omega) (fun e => HT5.out.noblock i hi e.symm)).trans HT5.out.row; have hc6 := (Row.cell (show Row w5 b 44 T.cells from hr6) i).trans (HT5.out.ok.slice i hi); have hz6 := Row.frozen (show Row w5 b 44 T.cells from hr6) i; have HF6 := Lib.hid hf6; have HB6 := Lib.hid ((HBW.out.trans (HB5.out.mono (by omega))).mono (by omega) |>.trans hb7); have HK6 := Lib.hid ((Kpt.of_below HBW.out).trans ((Kpt.of_below HB5.out).trans hk7)); clear hf6 hb6 hb7 hk7 hr6 ho5 hg5 hv5; try go_simp
        refine hK.out _ _ ⟨(fun h => by cases (show true = false from h)), (fun h => by cases (show true = false from h))⟩ (fun hHeld => ?_)
        clear hK K
        try simp only [Act.put, List.setIfInBounds_toArray, List.set_cons_zero, List.set_cons_succ, Array.replicate]
        refine wpAnyL_take (i := 14) (ms := []) (Si := fun _ => True) (v := ?_) (by simp only [List.getElem?_toArray, List.getElem?_cons_zero, List.getElem?_cons_succ] <;> rfl) (by kernel_rfl) (by kernel_rfl) (by kernel_rfl) (by intro _ _ _ h; exact h) trivial (by intro m hm; cases hm) (Held2.set (by decide) (by decide)) (fun _ _ _ _ => trivial) (by intro m hm; cases hm) (Or.inl ⟨by rfl, ?_⟩) (by assumption) ?_
        rotate_left
        · intro w _; go_simp; try with_reducible rfl
        try simp only [Act.put, List.setIfInBounds_toArray, List.set_cons_zero, List.set_cons_succ, Array.replicate]
        refine wpAnyL_ready (rs := [15]) (by kernel_rfl) (by simp) ?_
        refine AllReadyL.cons (by simp only [List.getElem?_toArray, List.getElem?_cons_zero, List.getElem?_cons_succ] <;> rfl) (fun K hK => ?_) ?_
        · go_simp
          refine hK.out _ _ ⟨(fun h => by cases (show true = false from h)), (fun h => by cases (show true = false from h))⟩ (fun hHeld => ?_)
          clear hK K
          try simp only [Act.put, List.setIfInBounds_toArray, List.set_cons_zero, List.set_cons_succ, Array.replicate]
          refine wpAnyL_done (by kernel_rfl) ?_ _
          go_wp2_with fail
          go_ret
          refine ⟨.slice a5 n5 c5, ?_, ?_, HB6.out, HK6.out⟩
          · show _ = Ending.returned (.int .i64 (Tre.slot x.name.data.toList : Int))
            rw [HSL.out]; rfl
          · show Tr _ B b (T.setL (Tre.slot x.name.data.toList) _ (Tre.put (T.L.getD (Tre.slot x.name.data.toList) []) x))
            rw [HSL.out]
            exact HF6.out
        exact AllReadyL.nil
      exact AllReadyL.nil
    exact AllReadyL.nil
end Go.Proofs.YticabllkadpmeaaGreatDoor
