/- Package tree: Paths. -/
import Derived.Test.YticabllkadpmeaaDoorPth
namespace Go.Proofs.YticabllkadpmeaaDoor
set_option linter.unusedVariables false
set_option linter.unusedSimpArgs false
set_option linter.unnecessarySimpa false
open Go.RowKit Go.Shelf
set_option maxRecDepth 100000
set_option maxHeartbeats 4000000
attribute [local go_sem] Oper.semAt_some

/-- The call owns the row behind v, of slices of numbers: the lists Ps. -/
def PL (w : World) (B : Nat) (v : Value) (Ps : List (List Int)) : Prop :=
  ∃ vs : List Value, w.ownsRow B 79 1 v vs.length vs ∧ vs.length = Ps.length ∧ ∀ j, j < vs.length → OwnN w 0 (vs.getD j undef) (Ps.getD j [])
theorem PL.nil (w : World) (B : Nat) : PL w B (.slice none 0 0) [] := ⟨[], World.ownsRow_nil _ _ _ _, rfl, fun j hj => by simp at hj⟩
theorem PL.cel {A B : World} {base : Nat} {v : Value} {Ps : List (List Int)} (h : PL A base v Ps) (hk : Cel A B) : PL B base v Ps := by
  obtain ⟨vs, h1, h2, h3⟩ := h
  refine ⟨vs, ⟨h1.1, ?_⟩, h2, fun j hj => (h3 j hj).cel hk⟩
  rcases h1.2 with hv | ⟨g, cap, cur, hv, a1, a2, a3⟩
  · exact .inl hv
  · exact .inr ⟨g, cap, cur, hv, a1, hk.same g _ a2 rfl, a3⟩
theorem PL.below {A B : World} {base N : Nat} {v : Value} {Ps : List (List Int)} (h : PL A base v Ps) (hb : Below N A B) (hN : A.heap.size ≤ N) : PL B base v Ps := h.cel (Cel.of_below (hb.mono hN))
theorem own_form1 {w : World} {B e : Nat} {v : Value} {n : Nat} {xs : List Value} (h : w.ownsRow B e 1 v n xs) : ∃ a n c, v = .slice a n c := by
  rcases h.2 with ⟨h, -⟩ | ⟨g, cap, cur, h, -⟩
  · exact ⟨_, _, _, h⟩
  · exact ⟨_, _, _, h⟩
theorem slice_info : (Tryd.prog.info? 79).map (fun i => (i.zero, i.size, i.bytes)) = some (some (.slice none 0 0), 1, 24) := by kernel_rfl
/-- One more list, at the end: what lies where behind it. -/
theorem PL.snoc {w w' : World} {B : Nat} {v v' : Value} {Ps : List (List Int)} {vs : List Value} {x : Value} {P : List Int} (h1 : w.ownsRow B 79 1 v vs.length vs) (h2 : vs.length = Ps.length) (h3 : ∀ j, j < vs.length → OwnN w 0 (vs.getD j undef) (Ps.getD j [])) (hx : OwnN w 0 x P)
    (h4 : w'.ownsRow B 79 1 v' (vs.length + 1) (vs ++ [x])) (hk : Kpt Sp w w') : PL w' B v' (Ps ++ [P]) := by
  have ho : ∀ {v : Value} {l : List Int}, OwnN w 0 v l → OwnN w' 0 v l := fun {v l} h => by
    refine ⟨h.1, ?_⟩
    rcases h.2 with hv | ⟨g, cap, cur, hv, a1, a2, a3⟩
    · exact .inl hv
    · exact .inr ⟨g, cap, cur, hv, a1, hk.rows g cur _ (by unfold Sp; decide) a2, a3⟩
  refine ⟨vs ++ [x], by simpa using h4, by simp [h2], fun j hj => ?_⟩
  by_cases hjl : j < vs.length
  · rw [show (vs ++ [x]).getD j undef = vs.getD j undef from by simp [List.getD, List.getElem?_append_left hjl], show (Ps ++ [P]).getD j [] = Ps.getD j [] from by simp [List.getD, List.getElem?_append_left (show j < Ps.length by omega)]]
    exact ho (h3 j hjl)
  · have : j = vs.length := by simp at hj; omega
    subst this
    rw [show (vs ++ [x]).getD vs.length undef = x from by simp [List.getD], show (Ps ++ [P]).getD vs.length [] = P from by rw [h2]; simp [List.getD]]
    exact ho hx
theorem own_setBox {w : World} {B e b t : Nat} {v u : Value} {n : Nat} {xs C : List Value} (h : w.ownsRow B e 1 v n xs) (hr : Row w b t C) (ht : t ≠ e) : (w.setCell ⟨b, 0, none⟩ u).ownsRow B e 1 v n xs := by
  refine ⟨h.1, ?_⟩
  rcases h.2 with hv | ⟨g, cap, cur, hv, a1, a2, a3⟩
  · exact .inl hv
  · refine .inr ⟨g, cap, cur, hv, a1, (heap_setCell_other w ⟨b, 0, none⟩ g u ?_).trans a2, a3⟩
    rintro rfl
    unfold Row at hr
    rw [a2] at hr
    simp only [Option.some.injEq, Obj.cells.injEq] at hr
    exact ht hr.2.1.symm
theorem own_apart {w : World} {B e b t : Nat} {v : Value} {n : Nat} {xs C : List Value} (h : w.ownsRow B e 1 v n xs) (hr : Row w b t C) (ht : t ≠ e) : some b ≠ v.ownBlock := fun hb => by
  rcases h.2 with ⟨hv, -⟩ | ⟨g, cap, cur, hv, a1, a2, a3⟩
  · rw [hv] at hb; cases hb
  · rw [hv] at hb
    have : b = g := by simpa [Value.ownBlock] using hb
    subst this
    unfold Row at hr
    rw [a2] at hr
    simp only [Option.some.injEq, Obj.cells.injEq] at hr
    exact ht hr.2.1.symm
theorem own_block {w : World} {B e : Nat} {v : Value} {n : Nat} {xs : List Value} (h : w.ownsRow B e 1 v n xs) : ∀ r, v.ownBlock = some r → ∃ cs f, w.heap[r]? = some (.cells cs e f) := fun r hr => by
  rcases h.2 with ⟨hv, -⟩ | ⟨g, cap, cur, hv, a1, a2, a3⟩
  · rw [hv] at hr; cases hr
  · rw [hv] at hr
    have : g = r := by simpa [Value.ownBlock] using hr
    subst this
    exact ⟨_, _, a2⟩
theorem append_any (v : Value) (Ps : List (List Int)) (B g m : Nat) (lb : Array Value) (P : Nat → List Int) (w : World) (hs : PL w B v Ps) (hB : B ≤ w.heap.size) (eg : ∀ args w, (callFunc g args).run Tryd.prog w = .ok (.enter g args) w)
    (hseq : ∀ W, Below w.heap.size w W → Gives Tryd.prog Sp g lb m (fun k u W => OwnN W 0 u (P k)) W) (hN : Ps.length + m ≤ 1000000) :
    Calls Tryd.prog 67 #[v, .func (.func g) #[] lb] w fun e w' => ∃ v', e = .returned v' ∧ PL w' B v' (Ps ++ (List.range m).map P) ∧ Below B w w' := by
  obtain ⟨bs, hbs⟩ : ∃ bs, w.heap.size = bs := ⟨_, rfl⟩
  obtain ⟨va, vn, vc, rfl⟩ : ∃ a n c, v = .slice a n c := by obtain ⟨vs, h1, -⟩ := hs; exact own_form1 h1
  obtain ⟨W0, hW0⟩ : ∃ W0, w.alloc (.cells #[.slice va vn vc] 78) = W0 := ⟨_, rfl⟩
  have hb0 : Below w.heap.size w W0 := by rw [← hW0]; exact (Below.refl _ _).alloc (Nat.le_refl _) _
  have hr0 : Row W0 w.heap.size 78 [.slice va vn vc] := by rw [← hW0]; exact Row.new w _ _
  have HSEQ := Lib.hid (hseq W0 hb0)
  have HP := Lib.hid (hs.below hb0 (Nat.le_refl _))
  rw [hbs] at hb0 hr0 hB
  have hw0 := hr0.lt
  have HR0 := Lib.hid hr0
  have HB0 := Lib.hid (hb0.mono hB)
  clear hb0 hr0 hseq hs
  refine (callsIn_wide (n := 3)).1 ?_
  refine callsIn_of_wp_marks Tryd.func67 rfl trivial ?_ rfl
  simp only [Tryd.ntmps67, List.size_toArray, List.length_cons, List.length_nil, Nat.reduceAdd, Nat.reduceSub, Array.replicate_succ, Array.replicate_zero, List.push_toArray, List.append_toArray, List.nil_append, List.cons_append]
  gi_wp2
  clear hbs hW0
  refine wpIn_range (S := Sp) (gf := g) (lb := lb) rfl eg HSEQ.out (Below.refl _ _) rfl (fun k v A B h hc => h.cel hc)
    (fun k W' => ∃ u, Row W' bs 78 [u] ∧ PL W' B u (Ps ++ (List.range k).map P) ∧ Below B w W')
    (fun k A C h hc hb => by obtain ⟨u, h1, h2, h3⟩ := h; exact ⟨u, h1.cel hc, h2.cel hc, h3.trans (hb.mono (by omega))⟩) ⟨_, HR0.out, by simpa using HP.out, HB0.out⟩
    (fun v => { tmps := #[.slice va vn vc, .func (.func g) #[] lb, .pointer (some ⟨bs, 0, none⟩), undef, .slice none 0 0, v, .func (.func g) #[] lb, v, undef, undef, undef, undef, undef], defers := [] }) ?assign ?body ?done
  case assign =>
    intro n' l' k v W' hK
    gi_wp2
    exact hK
  case body =>
    intro n' l' k v W' hk hI hG
    obtain ⟨u, hr, ⟨vs, h1, h2, h3⟩, hb⟩ := hI
    obtain ⟨ua, un, uc, rfl⟩ := own_form1 h1
    obtain ⟨xa, xn, xc, rfl⟩ := hG.form
    obtain ⟨Wn, hWn⟩ : ∃ Wn, W'.alloc (.cells #[.slice xa xn xc] 79) = Wn := ⟨_, rfl⟩
    have hbn : Below W'.heap.size W' Wn := by rw [← hWn]; exact (Below.refl _ _).alloc (Nat.le_refl _) _
    have hnews : ∀ j u, ([.slice xa xn xc] : List Value)[j]? = some u → Wn.cell? ((⟨W'.heap.size, 0, none⟩ : Addr).add j) = some u := fun j u hu => by
      rw [Addr.add_lit, Nat.zero_add, ← hWn, Row.cell (Row.new W' 79 [.slice xa xn xc]) j]; exact hu
    have hrl := hr.lt
    have hc0 : W'.cell? ⟨bs, 0, none⟩ = some (.slice ua un uc) := Row.cell hr 0
    have H1 := Lib.hid (show Wn.ownsRow B 79 1 (.slice ua un uc) vs.length vs by rw [← hWn]; exact World.ownsRow.alloc h1 _)
    have HRn := Lib.hid (hr.keep hbn)
    have HN := Lib.hid hnews
    have HBn := Lib.hid (hb.trans (hbn.mono (show B ≤ W'.heap.size by omega)))
    have HKn := Lib.hid (Kpt.of_below (S := Sp) hbn)
    have H2 := Lib.hid h2
    have H3 := Lib.hid (fun j hj => (h3 j hj).cel (Cel.of_below hbn))
    have HGn := Lib.hid (hG.cel (Cel.of_below hbn))
    have hbnn := hbn.size
    have hvl : vs.length = Ps.length + k := by rw [h2]; simp
    have HVL := Lib.hid hvl
    obtain ⟨i0, hi0, hz0, hz1, hz2⟩ := info_parts slice_info
    have HI0 := Lib.hid hi0
    have HZ0 := Lib.hid hz0
    have HZ1 := Lib.hid hz1
    have HZ2 := Lib.hid hz2
    clear h1 h2 h3 hr hb hbn hnews hG hvl hi0 hz0 hz1 hz2 HSEQ HP HR0 HB0
    gi_wp2_with (gi_at_builtin; refine wpListIn_append_own _ rfl (.tmp 8) (.tmp 10) 78 rfl B 79 i0 (.slice none 0 0) 1 24 Tryd.underlying78 HI0.out HZ0.out HZ1.out HZ2.out rfl (by decide) (.slice ua un uc) vs.length vs rfl H1.out ⟨W'.heap.size, 0, none⟩ 1 1 [.slice xa xn xc] rfl rfl HN.out (by intro u hu; simp at hu; subst hu; rfl) (by have := HVL.out; unfold maxLen; omega) (by have := HVL.out; omega) (by omega) ?_; intro v3 w3 ho3 hg3 _; obtain ⟨a3, n3, c3, hv3⟩ := own_form1 ho3; subst hv3; have hr3 : Row w3 bs 78 [.slice ua un uc] := (hg3.block bs (by omega) (own_apart H1.out HRn.out (by decide))).trans HRn.out; have hc3 := Row.cell hr3 0; have hf3 := Row.frozen hr3 0; have HO3 := Lib.hid ho3; have HG3 := Lib.hid hg3; have HR3 := Lib.hid hr3; simp only [List.getElem?_cons_zero] at hc3; clear ho3 hg3 hr3)
    have hk1 : Kpt Sp Wn w3 := Kpt.grown HG3.out (own_block H1.out) (by unfold Sp; decide)
    have hk2 : Kpt Sp w3 (w3.setCell ⟨bs, 0, none⟩ (.slice a3 n3 c3)) := Kpt.setCell HR3.out (by unfold Sp; decide) _
    refine ⟨HKn.out.trans (hk1.trans hk2), .slice a3 n3 c3, HR3.out.set 0 _, ?_, ?_⟩
    · rw [List.range_succ, List.map_append, ← List.append_assoc]
      exact PL.snoc H1.out H2.out H3.out HGn.out (own_setBox HO3.out HR3.out (by decide)) (hk1.trans hk2)
    · exact (HBn.out.grown HG3.out (by have := HBn.out.size; omega) (fun k hk => (World.ownsRow.lt H1.out k hk).1)).setCell (by omega) _
  case done =>
    intro D W' hD hI hK
    obtain ⟨u, hr, hp, hb⟩ := hI
    have hc : W'.cell? ⟨bs, 0, none⟩ = some u := Row.cell hr 0
    have hrl := hr.lt
    have HP2 := Lib.hid hp
    have HB2 := Lib.hid hb
    clear hr hp hb HSEQ HP HR0 HB0
    gi_wp2
    refine ⟨by simp, .inl ⟨_, _, rfl, run_takeDeferred hK, ?_⟩⟩
    refine ⟨_, results_tmp rfl _ _ _, u, rfl, HP2.out.cel (Cel.putObj _ hK rfl), HB2.out.grown (grownBy_putObj' W' D _) (by omega) (fun j e => by cases e; omega)⟩
/-- All paths of fewer than n numbers. -/
def psTo (n : Nat) : List (List Int) := (List.range n).flatMap fun i => (List.range (4 ^ i)).map (pth i)
theorem psTo_succ (n : Nat) : psTo (n + 1) = psTo n ++ (List.range (4 ^ n)).map (pth n) := by simp [psTo, List.range_succ]
theorem psTo_len (j : Nat) (hj : j ≤ 3) : (psTo j).length + 4 ^ j ≤ 1000000 := by
  rcases (show j = 0 ∨ j = 1 ∨ j = 2 ∨ j = 3 by omega) with rfl | rfl | rfl | rfl <;> decide
theorem Paths_any (w : World) :
    Calls Tryd.prog 46 #[] w fun e w' => ∃ v, e = .returned v ∧ PL w' w.heap.size v (psTo 3) ∧ Below w.heap.size w w' := by
  go_enter Tryd.func46, Tryd.ntmps46
  go_wp2_with fail
  go_loopw [1, 3] (fun ov iv wr => ∃ j : Nat, j ≤ 3 ∧ iv = .int .i64 j ∧ PL wr w.heap.size ov (psTo j) ∧ Below w.heap.size w wr) (fun _ iv _ => 3 - (intOf iv).toNat)
  case atStart => exact ⟨0, by omega, rfl, PL.nil _ _, Below.refl _ _⟩
  case round =>
    obtain ⟨j, hj, rfl, hp, hb⟩ := hrel
    have HP := Lib.hid hp
    have HB := Lib.hid hb
    have hs := hb.size
    clear hp hb
    by_cases hlt : j < 3
    · have hltI : (j : Int) < 3 := by omega
      have HLE := Lib.hid (psTo_len j hj)
      go_wp2_with (first
        | (go_at_call 68; refine (paths_any j _).mono ?_; rintro e w1 ⟨rfl, hw1⟩; have hr1 : Row w1 wr.heap.size 3 [.int .i64 (j : Int)] := (by rw [hw1]; exact Row.new wr _ _); have hb1 : Below wr.heap.size wr w1 := (by rw [hw1]; exact (Below.refl _ _).alloc (Nat.le_refl _) _); have R1 := Lib.hid hr1; have B1 := Lib.hid hb1; have hs1 := hb1.size; clear hw1 hr1 hb1)
        | (go_at_call 67; refine (append_any _ (psTo j) w.heap.size 88 (4 ^ j) _ (pth j) w1 (HP.out.below B1.out (Nat.le_refl _)) (by omega) (enters_of Tryd.func88 (by kernel_rfl) rfl) (fun W hW => gives j wr.heap.size W (R1.out.below hW R1.out.lt) (by omega)) HLE.out).mono ?_; rintro e w2 ⟨v2, rfl, hp2, hb2⟩; have P2 := Lib.hid hp2; have B2 := Lib.hid hb2; clear hp2 hb2))
      exact ⟨⟨j + 1, by omega, by go_num, by rw [psTo_succ]; exact P2.out, HB.out.trans ((B1.out.mono hs).trans B2.out)⟩, by simp [intOf]; omega⟩
    · have hjl : j = 3 := by omega
      subst hjl
      have hnI : ¬ ((3 : Nat) : Int) < 3 := by omega
      go_wp2_with fail
      go_ret
      exact ⟨_, rfl, HP.out, HB.out⟩
end Go.Proofs.YticabllkadpmeaaDoor
