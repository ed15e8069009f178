/- ref28.Parse. (printed by gen/rshl2.py) -/
import Derived.Test.YtojoeaaodomfnaaGreatDoorRShl1
import Derived.Test.YtojoeaaodomfnaaGreatDoorShl5
namespace Go.Proofs.YtojoeaaodomfnaaGreatDoor
set_option linter.unusedVariables false
set_option linter.unusedSimpArgs false
set_option linter.unnecessarySimpa false
open Go.RowKit
set_option maxRecDepth 100000
set_option maxHeartbeats 8000000

/-- What the document's 'Parse' comes to. -/
def rparseV : Nat ⊕ Shl.Ev → Value
  | .inl n => .tuple #[evV ev00, .int .i64 (n : Int)]
  | .inr e => .tuple #[evV e, .int .i64 0]
theorem pol_cells (w : World) : ∀ j, j < 7 → (w.alloc (.cells (strs (Shl.pols.map bs)).toArray 9)).cell? ⟨w.heap.size, 0 + j, none⟩ = some (.string (bs (Shl.pols.getD j []))) := fun j hj => by
  rw [Nat.zero_add, Row.cell (Row.new w 9 (strs (Shl.pols.map bs)))]
  have hl : j < Shl.pols.length := hj
  unfold strs
  rw [List.getElem?_map, List.getElem?_map, List.getElem?_eq_getElem hl]
  simp [List.getD, List.getElem?_eq_getElem hl]
/-- A verb's name. -/
def verbs_nm (j : Nat) : List UInt8 := (Shl.verbs.getD j ⟨[], 0, 0, []⟩).name
theorem fit0 (x1 x2 x3 : List UInt8) (r : List (List UInt8)) : Shl.fin (Shl.verbs.getD 0 ⟨[], 0, 0, []⟩) (x1 :: x2 :: x3 :: r) = match Shl.numL x1 with | none => .inl 4 | some a => .inr ⟨0, (a : Int), 0, 0, x2, Shl.joinL (x3 :: r), 0⟩ := by
  have hf : Shl.fitW (Shl.verbs.getD 0 ⟨[], 0, 0, []⟩) (x1 :: x2 :: x3 :: r) = [x1, x2, Shl.joinL (x3 :: r)] := by
    unfold Shl.fitW
    cases r with
    | nil => rfl
    | cons y r => rw [if_pos ⟨rfl, by show 3 < _; simp⟩]; rfl
  unfold Shl.fin
  rw [hf]
  show (match Shl.setAll [114, 115, 116] [x1, x2, Shl.joinL (x3 :: r)] (Shl.ev0 (Shl.verbs.getD 0 ⟨[], 0, 0, []⟩)) with | none => _ | some e => _) = _
  simp only [Shl.setAll, Shl.setE_r, Shl.setE_s, Shl.setE_t]
  cases Shl.numL x1 <;> rfl
theorem at_pols (x : List UInt8) : atL Shl.pols x = match Shl.placeL x with | some p => (p : Int) | none => -1 := by
  cases h : Shl.placeL x with
  | some p =>
    obtain ⟨h1, h2⟩ := Shl.place_some h
    refine atL_eq _ _ p h1 (fun k hk he => ?_) h2
    have key : ∀ i, i < 7 → ∀ j, j < 7 → Shl.pols.getD i [] = Shl.pols.getD j [] → i = j := by decide
    have := key k (by omega) p h1 (he.trans h2.symm)
    omega
  | none =>
    refine atL_none _ _ (fun k hk he => ?_)
    unfold Shl.placeL at h
    rw [List.find?_eq_none] at h
    exact h k (List.mem_range.2 hk) (by simpa using he)
theorem dn_cells (w : World) : ∀ j, j < 16 → (w.alloc (.cells (strs (Shl.dnames.map bs)).toArray 9)).cell? ⟨w.heap.size, 0 + j, none⟩ = some (.string (bs (Shl.dnames.getD j []))) := fun j hj => by
  rw [Nat.zero_add, Row.cell (Row.new w 9 (strs (Shl.dnames.map bs)))]
  have hl : j < Shl.dnames.length := hj
  unfold strs
  rw [List.getElem?_map, List.getElem?_map, List.getElem?_eq_getElem hl]
  simp [List.getD, List.getElem?_eq_getElem hl]
theorem rparse_bad (s : ByteArray) (hs : s.size < 4294967281) (w : World) (k : Int) (hk : k = -1 ∨ k = 7) (hi : atL Shl.dnames ((Shl.wordsL s.data.toList).headD []) = k) :
    Calls Tryz.prog 10 #[.string s] w fun e w' => e = .returned (rparseV (.inl 5)) ∧ Below w.heap.size w w' := by
  obtain ⟨hd, hhd⟩ : ∃ hd, (Shl.wordsL s.data.toList).headD [] = hd := ⟨_, rfl⟩
  rw [hhd] at hi
  have HI := Lib.hid hi
  have hwl : 1 ≤ (wordsB s).length := wordsB_pos s
  have HW0 : Hid ((strs (wordsB s))[0]? = some (.string (bs hd))) := by
    show _ = _
    unfold strs wordsB
    rw [Shl.words_head_tail, hhd]
    rfl
  have Z1 := Lib.hid (Row.new w 28 (evC ev00))
  have Z2 : Hid (Below w.heap.size w (w.alloc (.cells (evC ev00).toArray 28))) := balloc (Below.refl _ _) _
  clear hi hhd
  go_enter Tryz.func10, Tryz.ntmps10
  go_upto_region 2 with (go_at_call 13; refine (rwords_any s hs _).mono ?_; rintro e w1 ⟨v1, rfl, ho1, hb1⟩; have O1 := Lib.hid ho1; have B1 := Lib.hid (Z2.out.trans (hb1.mono Z2.out.size)); have R1 := Lib.hid (Z1.out.keep hb1); have hs1 : w.heap.size < w1.heap.size := (by have := hb1.size; simp at this; omega); clear ho1 hb1)
  obtain ⟨ov, oc, hv1, hoc1, hoc2, -, hsh1⟩ := O1.out.shows.open
  subst hv1
  obtain ⟨ob, oo, hov, hcs⟩ := hsh1.cells1 (by rw [strs_length]; omega)
  subst hov
  have HCS := Lib.hid hcs
  have hsl : (strs (wordsB s)).length = (wordsB s).length := strs_length _
  rw [hsl] at hoc1 ⊢
  have hc0 := HCS.out 0 _ HW0.out
  rw [Nat.add_zero] at hc0
  have hl0 := blt hc0
  have hbd : Below w1.heap.size w1 (w1.alloc (.cells (strs (Shl.dnames.map bs)).toArray 9)) := balloc (Below.refl _ _) _
  generalize hLL : (wordsB s).length = L at *
  have HLL := Lib.hid hLL
  clear hcs hsh1 hLL hsl
  go_upto_region 3 with (go_at_call 21; refine (rat_any w1.heap.size 0 16 16 Shl.dnames rfl (bs hd) (by omega) _ (dn_cells w1)).mono ?_; rw [bs_data, HI.out]; rintro e w2 ⟨rfl, rfl⟩)
  obtain ⟨W2, hW2⟩ : ∃ W2, w1.alloc (.cells (strs (Shl.dnames.map bs)).toArray 9) = W2 := ⟨_, rfl⟩
  rw [hW2] at hbd ⊢
  have B2 := Lib.hid (B1.out.trans (hbd.mono B1.out.size))
  have R2 := Lib.hid (R1.out.keep hbd)
  have HC2 : Hid (∀ j u, (strs (wordsB s))[j]? = some u → W2.cell? ⟨ob, oo + j, none⟩ = some u) := fun j u hu => bkeep hbd (HCS.out j u hu)
  have hs2 : w.heap.size < W2.heap.size := by have := hbd.size; omega
  have hl2 : ob < W2.heap.size := by have := hbd.size; omega
  clear hW2 hbd B1 R1 HCS O1 hc0 hl0 Z1 Z2
  have hkI : k < 0 ∨ k = 7 := by omega
  clear hk
  rcases hkI with hk | hk
  · go_wp2_with (refine store_box rfl 28 (.tmp 2) (.tmp 25) (by rfl) w.heap.size (by rfl) (evC ev00) (by rfl) 28 (evC ev00) R2.out rfl (evSz _) (evOne _) ?_; intro w9 hr9 hu9; have R9 := Lib.hid hr9; have B9 := Lib.hid (Upd.below' B2.out hu9 (Nat.le_refl _) B2.out.size); clear hr9 hu9)
    refine ret_box rfl rfl w.heap.size rfl (evC ev00) R9.out Tryz.underlying28 rfl (evSz _) ?_
    exact ⟨rfl, B9.out⟩
  · subst hk
    go_wp2_with (refine store_box rfl 28 (.tmp 2) (.tmp 25) (by rfl) w.heap.size (by rfl) (evC ev00) (by rfl) 28 (evC ev00) R2.out rfl (evSz _) (evOne _) ?_; intro w9 hr9 hu9; have R9 := Lib.hid hr9; have B9 := Lib.hid (Upd.below' B2.out hu9 (Nat.le_refl _) B2.out.size); clear hr9 hu9)
    refine ret_box rfl rfl w.heap.size rfl (evC ev00) R9.out Tryz.underlying28 rfl (evSz _) ?_
    exact ⟨rfl, B9.out⟩
end Go.Proofs.YtojoeaaodomfnaaGreatDoor
