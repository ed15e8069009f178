/- The laws' model of a log. (printed by gen/wal7.py) -/
import Derived.Test.YtkghkpkiodghiaaWal6
import Derived.Test.YtkghkpkiodghiaaOpenW
import Derived.Test.YtkghkpkiodghiaaFrm8
namespace Go.Proofs.Ytkghkpkiodghiaa
set_option linter.unusedVariables false
set_option linter.unusedSimpArgs false
set_option linter.unnecessarySimpa false
open Go.RowKit
set_option maxRecDepth 100000
set_option maxHeartbeats 4000000

/-- An act's bytes. -/
def WD.by (a : WD) : List UInt8 := a.B.take 3000
theorem WD.by_len (a : WD) : a.by.length ≤ 3000 := by unfold WD.by; rw [List.length_take]; omega
theorem Sh.taken {w : World} {x : Option Addr} {c : Nat} {l : List UInt8} (h : Sh w (.slice x l.length c) l) : Sh w (.slice x (l.take 3000).length c) (l.take 3000) := by
  by_cases hb : 3000 ≤ l.length
  · have := h.take 3000 hb
    rwa [show (l.take 3000).length = 3000 by rw [List.length_take]; omega]
  · rw [List.take_of_length_le (by omega)]; exact h
theorem bytes_act (K N : Int) (x : Option Addr) (c : Nat) (l : List UInt8) (w : World) (hl : Sh w (.slice x l.length c) l) (hlen : l.length ≤ 140737488355328) :
    Calls Try.prog 9 #[.agg #[.int .i64 K, .int .i64 N, .slice x l.length c]] w fun e w' => e = .returned (.slice x (l.take 3000).length c) ∧ Below w.heap.size w w' := by
  obtain ⟨x', c', he, g1, g2, g3, -⟩ := hl.open
  simp only [Value.slice.injEq, true_and] at he
  obtain ⟨rfl, rfl⟩ := he
  clear hl
  by_cases hb : 3000 < l.length
  · have hbI : (3000 : Int) < (l.length : Int) := by omega
    rw [show (l.take 3000).length = 3000 by rw [List.length_take]; omega]
    go_enter Try.func9, Try.ntmps9
    go_wp2_with fail
    go_ret
    exact ⟨rfl, balloc (Below.refl _ _) _⟩
  · have hbI : ¬ (3000 : Int) < (l.length : Int) := by omega
    rw [List.take_of_length_le (by omega)]
    go_enter Try.func9, Try.ntmps9
    go_wp2_with fail
    go_ret
    exact ⟨rfl, balloc (Below.refl _ _) _⟩
theorem balloc2 {n : Nat} {a b : World} (h : Below n a b) (o : Obj) (hn : n ≤ a.heap.size := by omega) : Below n a (b.alloc o) := h.trans ((balloc (Below.refl b.heap.size b) o).mono (by have := h.size; omega))
/-- A model's records: the row is the program's own, the records are what the arguments hold. -/
def ModL (w0 wr : World) (v : Value) (rs : List (List UInt8)) : Prop := ∃ us, Own1 wr 0 27 v us ∧ us.length = rs.length ∧ ∀ i, i < rs.length → ∃ u, us[i]? = some u ∧ Sh w0 u (rs.getD i [])
theorem ModL.nil (w0 wr : World) : ModL w0 wr (.slice none 0 0) [] := ⟨[], Own1.nil _ _ _, rfl, fun i hi => by simp at hi⟩
theorem ModL.open {w0 wr : World} {v : Value} {rs : List (List UInt8)} (h : ModL w0 wr v rs) : ∃ x c, v = .slice x rs.length c := by
  obtain ⟨us, h1, h2, -⟩ := h
  obtain ⟨x, c, he, -⟩ := Shows.open h1.shows
  exact ⟨x, c, by rw [← h2]; exact he⟩
theorem ModL.bss {w0 wr : World} {v : Value} {rs : List (List UInt8)} (h : ModL w0 wr v rs) (hb : Below w0.heap.size w0 wr) : Bss wr v rs := by
  obtain ⟨us, h1, h2, h3⟩ := h
  refine ⟨us, by rw [← h2]; exact h1.shows, fun i hi => ?_⟩
  obtain ⟨u, hu, hs⟩ := h3 i hi
  exact ⟨u, hu, hs.at' hb (Nat.le_refl _)⟩
theorem ModL.below {w0 wr ws : World} {v : Value} {rs : List (List UInt8)} (h : ModL w0 wr v rs) (hb : Below wr.heap.size wr ws) : ModL w0 ws v rs := by
  obtain ⟨us, h1, h2, h3⟩ := h
  exact ⟨us, h1.below hb, h2, h3⟩
theorem ModL.upd {w0 wr ws : World} {p t : Nat} {C : List Value} {v : Value} {rs : List (List UInt8)} (h : ModL w0 wr v rs) (hu : Upd p wr ws) (hr : Row wr p t C) (ht : 27 ≠ t) : ModL w0 ws v rs := by
  obtain ⟨us, h1, h2, h3⟩ := h
  exact ⟨us, hu.rowOwn h1 hr ht, h2, h3⟩
theorem ModL.one {w0 wr : World} {v : Value} {rs : List (List UInt8)} {us : List Value} (hs : Own1 wr 0 27 v us) (h3 : ∀ i, i < rs.length → ∃ u, us[i]? = some u ∧ Sh w0 u (rs.getD i [])) (h2 : us.length = rs.length) : ∀ u ∈ us, u.oneCell' = true := by
  intro u hu
  obtain ⟨i, hi, rfl⟩ := List.getElem_of_mem hu
  obtain ⟨u', hu', hs'⟩ := h3 i (by omega)
  rw [List.getElem?_eq_getElem hi, Option.some.injEq] at hu'
  obtain ⟨_, _, e, -⟩ := hs'.open
  rw [hu', e]; rfl
theorem Own1.mono0 {wr : World} {B e : Nat} {v : Value} {us : List Value} (h : Own1 wr B e v us) : Own1 wr 0 e v us := by
  refine ⟨h.1, ?_⟩
  rcases h.2 with k | ⟨g, cap, cur, e1, e2, e3⟩
  · exact .inl k
  · exact .inr ⟨g, cap, cur, e1, Nat.zero_le _, e3⟩
theorem ModL.snoc {w0 wf : World} {B : Nat} {xo x11 : Option Addr} {co c11 : Nat} {l : List UInt8} {rs : List (List UInt8)} {us : List Value} (hus : ∀ i, i < rs.length → ∃ u, us[i]? = some u ∧ Sh w0 u (rs.getD i [])) (hxl : us.length = rs.length) (hl : Sh w0 (.slice xo l.length co) l)
    (ho : World.ownsRow wf B 27 1 (.slice x11 (us ++ [Value.slice xo (min 3000 l.length) co]).length c11) ([] ++ us ++ [Value.slice xo (min 3000 l.length) co]).length ([] ++ us ++ [Value.slice xo (min 3000 l.length) co])) :
    ModL w0 wf (.slice x11 (us.length + 1) c11) (rs ++ [l.take 3000]) := by
  have h := Own1.mono0 (show Own1 wf B 27 _ _ from ho)
  simp only [List.nil_append, List.length_append, List.length_cons, List.length_nil] at h
  refine ⟨us ++ [Value.slice xo (min 3000 l.length) co], h, by simp [hxl], fun i hi => ?_⟩
  by_cases hil : i < rs.length
  · obtain ⟨u, hu, hs⟩ := hus i hil
    refine ⟨u, by rw [List.getElem?_append_left (by omega)]; exact hu, ?_⟩
    have : (rs ++ [l.take 3000]).getD i [] = rs.getD i [] := by simp [List.getD, List.getElem?_append_left hil]
    rw [this]
    exact hs
  · obtain rfl : i = rs.length := by simp at hi; omega
    refine ⟨Value.slice xo (min 3000 l.length) co, by rw [List.getElem?_append_right (by omega)]; simp [hxl], ?_⟩
    have : (rs ++ [l.take 3000]).getD rs.length [] = l.take 3000 := by simp [List.getD]
    rw [this, ← List.length_take]
    exact hl.taken
theorem after0 (w0 : World) (N : Int) (xo xs xr : Option Addr) (co ns cs cr : Nat) (has : Bool) (l : List UInt8) (rs : List (List UInt8)) (w : World) (hl : Sh w (.slice xo l.length co) l) (hlen : l.length ≤ 140737488355328) (hr : ModL w0 w (.slice xr rs.length cr) rs) (hl0 : Sh w0 (.slice xo l.length co) l) (hn : rs.length ≤ 1000000) :
    Calls Try.prog 10 #[.agg #[.bool has, .slice xs ns cs, .slice xr rs.length cr], .agg #[.int .i64 0, .int .i64 N, .slice xo l.length co]] w fun e w' => ∃ v', e = .returned (.agg #[.bool has, .slice xs ns cs, v']) ∧ ModL w0 w' v' (rs ++ [l.take 3000]) ∧ Below w.heap.size w w' := by
  have HO := Lib.hid hl
  have HR := Lib.hid hr
  clear hl hr
  go_enter Try.func10, Try.ntmps10
  go_wp2_with fail
  generalize hg : w.heap.size = g at *
  obtain ⟨W, hW⟩ : ∃ W, W = ((w.alloc (.cells #[.bool has, .slice xs ns cs, .slice xr rs.length cr] 36)).alloc (.cells #[.int .i64 0, .int .i64 N, .slice xo l.length co] 38)).alloc (.cells #[.bool false, .slice none 0 0, .slice none 0 0] 36) := ⟨_, rfl⟩
  rw [← hW]
  have hWs : W.heap.size = g + 3 := by rw [hW, ← hg]; simp
  have R0 : Row W g 36 [.bool has, .slice xs ns cs, .slice xr rs.length cr] := by
    rw [hW, ← hg]; exact Row.alloc (Row.alloc (Row.new w _ [.bool has, .slice xs ns cs, .slice xr rs.length cr]) _) _
  have R1 : Row W (g + 1) 38 [.int .i64 0, .int .i64 N, .slice xo l.length co] := by
    have := Row.alloc (Row.new (w.alloc (.cells #[.bool has, .slice xs ns cs, .slice xr rs.length cr] 36)) 38 [.int .i64 0, .int .i64 N, .slice xo l.length co]) (.cells #[.bool false, .slice none 0 0, .slice none 0 0] 36)
    rw [World.size_alloc, hg] at this
    rw [hW]; exact this
  have R2' : Row W (g + 2) 36 [.bool false, .slice none 0 0, .slice none 0 0] := by
    have := Row.new ((w.alloc (.cells #[.bool has, .slice xs ns cs, .slice xr rs.length cr] 36)).alloc (.cells #[.int .i64 0, .int .i64 N, .slice xo l.length co] 38)) 36 [.bool false, .slice none 0 0, .slice none 0 0]
    rw [World.size_alloc, World.size_alloc, hg] at this
    rw [hW]; exact this
  have HB0 : Hid (Below g w W) := Lib.hid (by rw [hW, ← hg]; exact balloc (balloc (balloc (Below.refl _ _) _) _) _)
  have c00 := Row.cell R0 0; have c01 := Row.cell R0 1; have c02 := Row.cell R0 2; have c10 := Row.cell R1 0; have c11 := Row.cell R1 1; have c12 := Row.cell R1 2
  simp only [List.getElem?_cons_succ, List.getElem?_cons_zero] at c00 c01 c02 c10 c11 c12
  clear hW R0 R1
  have R2 := Lib.hid R2'
  clear R2'
  obtain ⟨us, HOW, hxl, hus⟩ := HR.out
  have HSH' : Shows w 1 (.slice xr rs.length cr) rs.length us := by rw [← hxl]; rw [← hxl] at HOW; exact HOW.shows
  have HUS := Lib.hid hus
  have HXL := Lib.hid hxl
  have HX1 : Hid (∀ u ∈ us, u.oneCell' = true) := Lib.hid (ModL.one HOW hus hxl)
  have HL0 := Lib.hid hl0
  have HSH := Lib.hid HSH'
  clear HSH' hus hxl HOW hl0
  refine wp_region_held_drew (S := fun w' => Below (g + 2) W w') (by kernel_rfl) (by exact (Below.refl _ _).drew) (fun hHeld => ?_)
  have hW0s : W.drew.heap.size = g + 3 := hWs; have R2d := Lib.hid (Row.drew R2.out); generalize W.drew = W0 at *
  refine wpAnyH_take (i := 0) (v := ?_) (by simp only [List.getElem?_toArray, List.getElem?_cons_zero, List.getElem?_cons_succ] <;> rfl) (by kernel_rfl) (by kernel_rfl) (by kernel_rfl) (by intro _ _ _ h; exact h) (Or.inl ⟨by rfl, ?_⟩) (by assumption) ?_
  rotate_left
  · intro w _; go_simp; try with_reducible rfl
  try simp only [Act.put, List.setIfInBounds_toArray, List.set_cons_zero, List.set_cons_succ, Array.replicate]
  refine wpAnyH_take (i := 2) (v := ?_) (by simp only [List.getElem?_toArray, List.getElem?_cons_zero, List.getElem?_cons_succ] <;> rfl) (by kernel_rfl) (by kernel_rfl) (by kernel_rfl) (by intro _ _ _ h; exact h) (Or.inl ⟨by rfl, ?_⟩) (by assumption) ?_
  rotate_left
  · intro w _; go_simp; try with_reducible rfl
  try simp only [Act.put, List.setIfInBounds_toArray, List.set_cons_zero, List.set_cons_succ, Array.replicate]
  refine wpAnyH_take (i := 5) (v := ?_) (by simp only [List.getElem?_toArray, List.getElem?_cons_zero, List.getElem?_cons_succ] <;> rfl) (by kernel_rfl) (by kernel_rfl) (by kernel_rfl) (by intro _ _ _ h; exact h) (Or.inl ⟨by rfl, ?_⟩) (by assumption) ?_
  rotate_left
  · intro w _; go_simp; try with_reducible rfl
  try simp only [Act.put, List.setIfInBounds_toArray, List.set_cons_zero, List.set_cons_succ, Array.replicate]
  refine wpAnyH_take (i := 1) (v := ?_) (by simp only [List.getElem?_toArray, List.getElem?_cons_zero, List.getElem?_cons_succ] <;> rfl) (by kernel_rfl) (by kernel_rfl) (by kernel_rfl) (by intro _ _ _ h; exact h) (Or.inl ⟨by rfl, ?_⟩) (by assumption) ?_
  rotate_left
  · intro w hSS; have q0 := bcell hSS c00 (by dsimp only; omega); go_simp; try with_reducible rfl
  try simp only [Act.put, List.setIfInBounds_toArray, List.set_cons_zero, List.set_cons_succ, Array.replicate]
  refine wpAnyH_take (i := 3) (v := ?_) (by simp only [List.getElem?_toArray, List.getElem?_cons_zero, List.getElem?_cons_succ] <;> rfl) (by kernel_rfl) (by kernel_rfl) (by kernel_rfl) (by intro _ _ _ h; exact h) (Or.inl ⟨by rfl, ?_⟩) (by assumption) ?_
  rotate_left
  · intro w hSS; have q0 := bcell hSS c01 (by dsimp only; omega); go_simp; try with_reducible rfl
  try simp only [Act.put, List.setIfInBounds_toArray, List.set_cons_zero, List.set_cons_succ, Array.replicate]
  refine wpAnyH_take (i := 6) (v := ?_) (by simp only [List.getElem?_toArray, List.getElem?_cons_zero, List.getElem?_cons_succ] <;> rfl) (by kernel_rfl) (by kernel_rfl) (by kernel_rfl) (by intro _ _ _ h; exact h) (Or.inl ⟨by rfl, ?_⟩) (by assumption) ?_
  rotate_left
  · intro w hSS; have q0 := bcell hSS c02 (by dsimp only; omega); go_simp; try with_reducible rfl
  try simp only [Act.put, List.setIfInBounds_toArray, List.set_cons_zero, List.set_cons_succ, Array.replicate]
  refine wpAnyH_take (i := 8) (v := ?_) (by simp only [List.getElem?_toArray, List.getElem?_cons_zero, List.getElem?_cons_succ] <;> rfl) (by kernel_rfl) (by kernel_rfl) (by kernel_rfl) (by intro _ _ _ h; exact h) (Or.inl ⟨by rfl, ?_⟩) (by assumption) ?_
  rotate_left
  · intro w hSS; have q0 := bcell hSS c10 (by dsimp only; omega); have q1 := bcell hSS c11 (by dsimp only; omega); have q2 := bcell hSS c12 (by dsimp only; omega); go_simp; try with_reducible rfl
  try simp only [Act.put, List.setIfInBounds_toArray, List.set_cons_zero, List.set_cons_succ, Array.replicate]
  refine wpAnyH_ready (rs := [4]) (by kernel_rfl) (by simp) ?_
  refine AllReadyH.cons (by simp only [List.getElem?_toArray, List.getElem?_cons_zero, List.getElem?_cons_succ] <;> rfl) (fun K hK => ?_) ?_
  · go_simp
    refine hK.out _ _ (by exact balloc2 hHeld _) (fun hHeld => ?_)
    clear hK K
    try simp only [Act.put, List.setIfInBounds_toArray, List.set_cons_zero, List.set_cons_succ, Array.replicate]
    refine wpAnyH_ready (rs := [7]) (by kernel_rfl) (by simp) ?_
    refine AllReadyH.cons (by simp only [List.getElem?_toArray, List.getElem?_cons_zero, List.getElem?_cons_succ] <;> rfl) (fun K hK => ?_) ?_
    · have HSH7 := Lib.hid (show Shows (W0.alloc (.cells #[] 27)) 1 (.slice xr rs.length cr) us.length us from by rw [HXL.out]; exact Shows.at' HSH.out (HB0.out.trans (hHeld.mono (by omega))) (by omega)); refine step_app_one (base := g + 3) (l := []) (m := us) Try.underlying28 info_slice rfl rfl (.tmp 15) (.tmp 17) rfl rfl (by have h := Own1.lit W0 27 []; rw [hW0s] at h; exact h) rfl HSH7.out HX1.out (by rw [HXL.out]; simp; omega) (by rw [HXL.out]; simp; omega) (by rw [World.size_alloc]; omega) ?_; intro v7 w7 ho7 hb7; have O7 := Lib.hid ho7; have hS7 := Below.trans hHeld (hb7.mono (by omega)); have R7 := Lib.hid (Row.below (Row.alloc R2d.out _) hb7 (by omega)); clear ho7
      refine hK.out _ _ (by exact hS7) (fun hHeld => ?_)
      clear hK K
      try simp only [Act.put, List.setIfInBounds_toArray, List.set_cons_zero, List.set_cons_succ, Array.replicate]
      refine wpAnyH_ready (rs := [9]) (by kernel_rfl) (by simp) ?_
      refine AllReadyH.cons (by simp only [List.getElem?_toArray, List.getElem?_cons_zero, List.getElem?_cons_succ] <;> rfl) (fun K hK => ?_) ?_
      · go_simp; go_at_call 9; with_reducible refine (bytes_act 0 N xo co l _ (HO.out.at' (HB0.out.trans (hHeld.mono (by omega))) (by omega)) hlen).mono ?_; rintro e w9 ⟨rfl, hb9⟩; have hS9 := Below.trans hHeld (hb9.mono (by have := hHeld.size; omega)); have O9 := Lib.hid (O7.out.below hb9); have R9 := Lib.hid (R7.out.keep hb9); have hs79 := hb9.size; try go_simp
        refine hK.out _ _ (by exact hS9) (fun hHeld => ?_)
        clear hK K
        try simp only [Act.put, List.setIfInBounds_toArray, List.set_cons_zero, List.set_cons_succ, Array.replicate]
        refine wpAnyH_ready (rs := [10]) (by kernel_rfl) (by simp) ?_
        refine AllReadyH.cons (by simp only [List.getElem?_toArray, List.getElem?_cons_zero, List.getElem?_cons_succ] <;> rfl) (fun K hK => ?_) ?_
        · go_simp
          refine hK.out _ _ (by exact balloc2 hHeld _) (fun hHeld => ?_)
          clear hK K
          try simp only [Act.put, List.setIfInBounds_toArray, List.set_cons_zero, List.set_cons_succ, Array.replicate]
          refine wpAnyH_ready (rs := [11]) (by kernel_rfl) (by simp) ?_
          refine AllReadyH.cons (by simp only [List.getElem?_toArray, List.getElem?_cons_zero, List.getElem?_cons_succ] <;> rfl) (fun K hK => ?_) ?_
          · refine step_app_one (base := g + 3) (l := [] ++ us) (m := [Value.slice xo (min 3000 l.length) co]) Try.underlying28 info_slice rfl rfl (.tmp 18) (.tmp 21) rfl rfl (O9.out.alloc _) rfl (Own1.lit _ 27 [_]).shows (by intro u hu; simp only [List.mem_singleton] at hu; subst hu; rfl) (by simp [HXL.out]; omega) (by simp [HXL.out]; omega) (by have := hb7.size; simp at this ⊢; omega) ?_; intro v11 w11 ho11 hb11; have hS11 := Below.trans hHeld (hb11.mono (by omega)); have R11 := Lib.hid (Row.below (Row.alloc R9.out _) hb11 (by omega)); have O11 := Lib.hid ho11; obtain ⟨x11, c11, he11, -, -, -, -⟩ := Shows.open (ho11.shows); simp only [List.nil_append] at he11; subst he11; have z0 := Row.cell R11.out 0; have z1 := Row.cell R11.out 1; have z2 := Row.cell R11.out 2; simp only [List.getElem?_cons_succ, List.getElem?_cons_zero] at z0 z1 z2; have f0 := Row.frozen R11.out 0; have f1 := Row.frozen R11.out 1; have f2 := Row.frozen R11.out 2
            refine hK.out _ _ (by exact hS11) (fun hHeld => ?_)
            clear hK K
            try simp only [Act.put, List.setIfInBounds_toArray, List.set_cons_zero, List.set_cons_succ, Array.replicate]
            refine wpAnyH_take (i := 12) (v := ?_) (by simp only [List.getElem?_toArray, List.getElem?_cons_zero, List.getElem?_cons_succ] <;> rfl) (by kernel_rfl) (by kernel_rfl) (by kernel_rfl) (by intro _ _ _ h; exact h) (Or.inl ⟨by rfl, ?_⟩) (by assumption) ?_
            rotate_left
            · intro w _; go_simp; try with_reducible rfl
            try simp only [Act.put, List.setIfInBounds_toArray, List.set_cons_zero, List.set_cons_succ, Array.replicate]
            refine wpAnyH_ready (rs := [13]) (by kernel_rfl) (by simp) ?_
            refine AllReadyH.cons (by simp only [List.getElem?_toArray, List.getElem?_cons_zero, List.getElem?_cons_succ] <;> rfl) (fun K hK => ?_) ?_
            · go_simp
              refine hK.out _ _ (by exact hHeld.trans (((((Upd.set (g + 2) 0 w11 _).trans (Upd.set (g + 2) 1 _ _)).trans (Upd.set (g + 2) 2 _ _))).below (Nat.le_refl _) (by have := hHeld.size; omega))) (fun hHeld => ?_)
              clear hK K
              try simp only [Act.put, List.setIfInBounds_toArray, List.set_cons_zero, List.set_cons_succ, Array.replicate]
              refine wpAnyH_done (by kernel_rfl) ?_ _
              go_wp2_with fail
              have U := (((Upd.set (g + 2) 0 w11 (.bool has)).trans (Upd.set (g + 2) 1 _ (.slice xs ns cs))).trans (Upd.set (g + 2) 2 _ (.slice x11 (us.length + 1) c11)))
              have RF := Row.set (Row.set (Row.set R11.out 0 (.bool has)) 1 (.slice xs ns cs)) 2 (.slice x11 (us.length + 1) c11)
              have OF := (U.rowOwn O11.out R11.out (by decide))
              have hB := HB0.out.trans (hHeld.mono (show g ≤ g + 2 by omega))
              refine bodyPost_ret (v := .agg #[.bool has, .slice xs ns cs, .slice x11 (us.length + 1) c11]) (results_cell_row rfl _ _ (g + 2) _ #[.bool has, .slice xs ns cs, .slice x11 (us.length + 1) c11] (0, 0) _ rfl RF Try.underlying36 rfl (by kernel_rfl)) rfl ?_
              rw [hg]
              exact ⟨_, rfl, ModL.snoc HUS.out HXL.out HL0.out OF, hB⟩
            exact AllReadyH.nil
          exact AllReadyH.nil
        exact AllReadyH.nil
      exact AllReadyH.nil
    exact AllReadyH.nil
  exact AllReadyH.nil
theorem is_yes (has : Bool) (sv sv2 rv rv2 : Value) (nx : Int) (s : List UInt8) (rs : List (List UInt8)) (w : World) (h1 : Sh w sv s) (h2 : Sh w sv2 s) (h3 : Bss w rv rs) (h4 : Bss w rv2 rs) :
    Calls Try.prog 11 #[.agg #[.bool has, sv, rv], .agg #[.bool has, sv2, rv2, .int .u64 nx]] w fun e w' => e = .returned (.bool true) ∧ Below w.heap.size w w' := by
  obtain ⟨x1, c1, rfl, -⟩ := h1.open
  obtain ⟨x2, c2, rfl, -⟩ := h2.open
  obtain ⟨x3, c3, rfl, -⟩ := h3.open
  obtain ⟨x4, c4, rfl, -⟩ := h4.open
  have H1 := Lib.hid h1
  have H2 := Lib.hid h2
  have H3 := Lib.hid h3
  have H4 := Lib.hid h4
  clear h1 h2 h3 h4
  have hba : Below w.heap.size w ((w.alloc (.cells #[.bool has, .slice x1 s.length c1, .slice x3 rs.length c3] 36)).alloc (.cells #[.bool has, .slice x2 s.length c2, .slice x4 rs.length c4, .int .u64 nx] 31)) := balloc (balloc (Below.refl _ _) _) _
  have hc1 := conv_run (H1.out.below hba)
  have hc2 := conv_run (H2.out.below hba)
  go_enter Try.func11, Try.ntmps11
  go_wp2_with (go_at_call 29; refine (Same_any _ _ rs _ (H3.out.below hba) (H4.out.below hba)).mono ?_; rintro e w3 ⟨rfl, hb3⟩)
  go_ret
  exact ⟨rfl, bthen hba hb3 (Nat.le_refl _)⟩
end Go.Proofs.Ytkghkpkiodghiaa
