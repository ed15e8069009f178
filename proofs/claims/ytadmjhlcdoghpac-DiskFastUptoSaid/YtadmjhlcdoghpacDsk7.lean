/- The disk: the law DiskFast. (printed by gen/dsk7.py) -/
import Derived.Test.YtadmjhlcdoghpacDsk5
import Derived.ArgAppend
namespace Go.Proofs.Ytadmjhlcdoghpac
set_option linter.unusedVariables false
set_option linter.unusedSimpArgs false
set_option linter.unnecessarySimpa false
open Go.RowKit
set_option maxRecDepth 100000
set_option maxHeartbeats 4000000

theorem ownRowOf {w : World} {base e : Nat} {v : Value} {l : List UInt8} (h : Own w base e v l) (hl : 0 < l.length) : ∃ g cap, v = .slice (some ⟨g, 0, none⟩) l.length cap ∧ base ≤ g ∧ l.length ≤ cap ∧ cap ≤ maxLen := by
  rcases h.2 with ⟨h', h2⟩ | ⟨g, cap, cur, h', hb, hg, hnc, hcm, _⟩
  · omega
  · exact ⟨g, cap, h', hb, hnc, hcm⟩
theorem own_ne {w : World} {B p h n cap : Nat} {l : List UInt8} {C : List Value} (ho : Own w B 5 (.slice (some ⟨h, 0, none⟩) n cap) l) (hr : Row w p 56 C) : h ≠ p := by
  rintro rfl
  rcases ho.2 with ⟨h', _⟩ | ⟨g, cap', cur, h', _, hg, _⟩
  · simp at h'
  · simp only [Value.slice.injEq, Option.some.injEq, Addr.mk.injEq, and_true, true_and] at h'
    obtain ⟨rfl, -⟩ := h'
    unfold Row at hr
    rw [hg] at hr
    simp only [Option.some.injEq, Obj.cells.injEq] at hr
    exact absurd hr.2.1 (by decide)
theorem dav_below {w w' : World} {p h : Nat} (hd : DAv w p h) (hp : p < w.heap.size) (hb : Below w.heap.size w w') : DAv w' p h := fun j v hv => hd j v (by rw [← hb.cell (p := ⟨p, j, none⟩) hp]; exact hv)
theorem dav_upd {w w' : World} {p h q : Nat} (hd : DAv w p h) (hp : p < w.heap.size) (hq : q ≠ p) (hu : w.grownBy w' (some q)) : DAv w' p h := fun j v hv => hd j v (by
  rw [← World.cell?_of_block (w := w) (a := ⟨p, j, none⟩) (hu.block p hp (fun e => hq (by simpa using e.symm)))]; exact hv)
theorem dav_fresh {w : World} {p h : Nat} {S : PD} (hS : Dsk w p S) (hh : w.heap.size ≤ h) : DAv w p h := by
  obtain ⟨xa, ka, xb, kb, xc, kc, xd, kd, hR, oa, ob, oc, od⟩ := hS
  have key {v : Value} {l : List UInt8} (ho : Own w 0 5 v l) : v.ownBlock ≠ some h := fun hc => by have := (World.ownsRow.lt ho h hc).2; omega
  exact (davC hR).2 ⟨key oa, key ob, key oc, key od⟩
theorem Dsk.grown {w w' : World} {p h : Nat} {S : PD} (hS : Dsk w p S) (hg : w.grownBy w' (some h)) (hp : h ≠ p) (ha : DAv w p h) : Dsk w' p S := by
  obtain ⟨xa, ka, xb, kb, xc, kc, xd, kd, hR, oa, ob, oc, od⟩ := hS
  obtain ⟨k1, k2, k3, k4⟩ := (davC hR).1 ha
  exact ⟨xa, ka, xb, kb, xc, kc, xd, kd, Upd.row hg hR (fun e => hp e.symm), World.ownsRow.kept oa hg (.inr k1), World.ownsRow.kept ob hg (.inr k2), World.ownsRow.kept oc hg (.inr k3), World.ownsRow.kept od hg (.inr k4)⟩
theorem app_head {w : World} {ops : Array Oper} {rest : List Oper} {o : Oper} {a : Act} {Q : Exit → Act → World → Prop} (hgd : o.guard = none) (s x : Operand)
    (ho : o.op = .call { callee := .builtin .append, args := #[s, x], argTypes := #[23, 23] })
    {h cap : Nat} {sv : Value} {l m : List UInt8} (hs : a.eval s = .slice (some ⟨h, 0, none⟩) l.length cap) (hown : Own w 0 5 (.slice (some ⟨h, 0, none⟩) l.length cap) l) (hx : a.eval x = sv) (hsh : Sh w sv m)
    (hlen : l.length + m.length ≤ 140737488355328)
    (hK : ∀ h' cap' w', Own w' 0 5 (.slice (some ⟨h', 0, none⟩) (l ++ m).length cap') (l ++ m) → ((h' = h ∧ w.grownBy w' (some h)) ∨ (w.heap.size ≤ h' ∧ Below w.heap.size w w')) → wpList Try.prog ops Q rest (a.put o.dst (.slice (some ⟨h', 0, none⟩) (l ++ m).length cap')) w') : wpList Try.prog ops Q (o :: rest) a w := by
  obtain ⟨i, hi, hz0, hz1, hz2⟩ := info_parts info_byte
  obtain ⟨hbl, ax, cx, hse, q1, q2, q3, q4⟩ := hsh
  have e1 : (l ++ m).length = l.length + m.length := List.length_append
  by_cases hfit : l.length + m.length ≤ cap
  · refine wpList_append_fits_any w hgd s x 23 ho 0 5 i 1 Try.underlying23 hi hz1 h l.length cap (bytes l) hs hown ax m.length cx (bytes m) (by rw [hx, hse]) hbl (fun e => ⟨by have := q3 e; omega, q3 e⟩) q4 (bytes_one _) hfit ?_
    intro w' k1 k2
    have := hK h cap w' (by unfold Own; rw [bytes_append, e1]; exact k1) (.inl ⟨rfl, k2⟩)
    rw [e1] at this; exact this
  · cases ax with
    | none => have := q3 rfl; have hcap := (dcap hown).1; omega
    | some ax =>
      have hcl : ∀ b, (some ⟨h, 0, none⟩ : Option Addr) = some b → ∀ j u, (bytes l)[j]? = some u → w.cell? (b.add j) = some u := by
        intro b hb j u hu
        have hsl := hown.sh
        obtain ⟨_, a2, c2, he, _, _, _, hc⟩ := hsl
        simp only [Value.slice.injEq] at he
        exact hc b (by rw [← he.1]; exact hb) j u hu
      refine wpList_append_grows w hgd s x 23 ho 5 i (.int .u8 0) 1 1 Try.underlying23 hi hz0 hz1 hz2 rfl (by decide) (some ⟨h, 0, none⟩) l.length cap (bytes l) hs (fun e => by simp at e) (by simp) hcl ax m.length cx (bytes m) (by rw [hx, hse]) hbl (q4 ax rfl) (bytes_one _) (by omega) (by simp only [maxLen]; omega) (by omega) ?_
      intro v' w' k1 k2
      have ho' : Own w' w.heap.size 5 v' (l ++ m) := by unfold Own; rw [bytes_append, e1]; exact k1
      obtain ⟨h', cap', rfl, hh', -, -⟩ := ownRowOf ho' (by omega)
      exact hK h' cap' w' (ho'.mono (Nat.zero_le _)) (.inr ⟨hh', ⟨k2.os, k2.tape, k2.output, k2.size, fun k hk => k2.block k hk (by simp)⟩⟩)
theorem Write0_of (p : Nat) (n : Int) (vb : Value) (b : List UInt8) (S S' : PD) (e : Nat) (he : S.write n b = (S', e)) (w : World) (hS : Dsk w p S) (hsb : ∀ w', Upd p w w' → Sh w' vb b) (hm : S.left ≤ 9223372036854775807) (ht : S.n0.length + S.n1.length ≤ 100000000000) (hbl : b.length ≤ 140737488355328) (hlim : -1000000000000 ≤ S.lim ∧ S.lim ≤ 1000000000000) :
    Calls Try.prog 9 #[.pointer (some ⟨p, 0, none⟩), .int .i64 n, vb] w fun r w' => r = .returned (.int .i64 (e : Int)) ∧ Dsk w' p S' ∧ Upd p w w' ∧ (∀ h, h < w.heap.size → DAv w p h → DAv w' p h) := by
  have := Write0_any p n vb b S w hS hsb hm ht hbl hlim
  rw [he] at this; exact this
theorem crashF_begins (H X : List UInt8) (N : Int) (o : List UInt8) : (crashF H (H ++ X) false N o).take H.length = H := by
  unfold crashF
  rw [if_neg (by simp)]
  split
  · rw [List.take_append_of_le_length (by rw [List.length_take]; simp), List.take_take, Nat.min_eq_left (by omega)]
    exact List.take_left' rfl
  · exact List.take_left' rfl
theorem crashF_nil (N : Int) (o : List UInt8) : crashF [] [] false N o = [] := by unfold crashF; rw [if_neg (by simp), if_neg (by simp)]
theorem DiskFast_0 (lv mv : Value) (Ls Ms : List (List UInt8)) (K F N : Int) (ov : Value) (o : List UInt8) (w : World) (h1 : Bss w lv Ls) (h2 : Bss w mv Ms) (h3 : Sh w ov o) (hLn : Ls.length ≤ 1048576) (hMn : Ms.length ≤ 1048576) (hLl : ∀ i, i < Ls.length → (Ls.getD i []).length ≤ 1048576) (hMl : ∀ i, i < Ms.length → (Ms.getD i []).length ≤ 1048576) (hl : o.length ≤ 1048576) (hF : bits .and .i64 F 1 = 0) :
    Calls Try.prog 3 #[lv, mv, .agg #[.int .i64 K, .int .i64 F, .int .i64 N, ov]] w fun e w' => e = .returned (.bool true) ∧ Below w.heap.size w w' := by
  obtain ⟨xl, kl, rfl, hkl, -, -⟩ := h1.open
  obtain ⟨xm, km, rfl, hkm, -, -⟩ := h2.open
  obtain ⟨xo, ko, rfl, -, -, -, h3⟩ := h3.open
  have H1 := Lib.hid h1
  have H2 := Lib.hid h2
  have H3 := Lib.hid h3
  have HLL := Lib.hid hLl
  have HML := Lib.hid hMl
  clear h1 h2 h3 hLl hMl
  go_enter Try.func3, Try.ntmps3
  go_upto_region 1 with fail
  have hR := Row.new w 25 [.int .i64 K, .int .i64 F, .int .i64 N, .slice xo o.length ko]
  have hbA : Below w.heap.size w (w.alloc (.cells [.int .i64 K, .int .i64 F, .int .i64 N, .slice xo o.length ko].toArray 25)) := balloc (Below.refl _ _) _
  rw [show ([.int .i64 K, .int .i64 F, .int .i64 N, .slice xo o.length ko] : List Value).toArray = #[.int .i64 K, .int .i64 F, .int .i64 N, .slice xo o.length ko] from rfl] at hR hbA
  generalize w.alloc (.cells #[.int .i64 K, .int .i64 F, .int .i64 N, .slice xo o.length ko] 25) = wA at *
  generalize hg : w.heap.size = g at *
  go_wp2_with fail
  refine (New_any 1048576 _).mono ?_; rintro e w1 ⟨rfl, hd1, hb1, hs1⟩
  have hd1 : Dsk w1 wA.heap.size ⟨[], [], false, [], [], false, 1048576, -1, false⟩ := hd1
  have hR1 := hR.keep hb1
  have hpg : g < wA.heap.size := hR.lt
  have hb01 := bthen hbA hb1 (by omega)
  generalize hp : wA.heap.size = p at *
  go_wp2_with fail
  have hbH := balloc (Below.refl w1.heap.size w1) (.cells #[] 5)
  have hoH : Own (w1.alloc (.cells #[] 5)) 0 5 (.slice (some ⟨w1.heap.size, 0, none⟩) 0 0) [] := (Own.lit w1 5 []).mono (Nat.zero_le _)
  have hdH := hd1.below hbH
  have havH : DAv (w1.alloc (.cells #[] 5)) p w1.heap.size := dav_below (dav_fresh hd1 (Nat.le_refl _)) hd1.lt hbH
  have hRH := hR1.keep hbH
  have hb0H := bthen hb01 hbH (by omega)
  have HDH := Lib.hid hdH
  have HOH := Lib.hid hoH
  have HAH := Lib.hid havH
  have HRH := Lib.hid hRH
  have HBH := Lib.hid hb0H
  clear hbH hoH hdH havH hRH hb0H hd1 hR1 hR hbA hb1 hb01
  generalize w1.alloc (.cells #[] 5) = wH at *
  have hgh1 : g < w1.heap.size := by omega
  generalize w1.heap.size = h1 at *
  go_loopw [8, 9] (fun hv iv wr => ∃ (j h cap : Nat) (H : List UInt8), g < h ∧ j ≤ Ls.length ∧ iv = .int .i64 (j : Int) ∧ hv = .slice (some ⟨h, 0, none⟩) H.length cap ∧ H = (Ls.take j).flatten ∧ H.length ≤ 100000 ∧ Own wr 0 5 (.slice (some ⟨h, 0, none⟩) H.length cap) H ∧ DAv wr p h ∧ Dsk wr p ⟨[], H, false, [], [], false, 1048576, -1, false⟩ ∧ Row wr g 25 [.int .i64 K, .int .i64 F, .int .i64 N, .slice xo o.length ko] ∧ Below g w wr) (fun _ iv _ => Ls.length - (intOf iv).toNat)
  case atStart => exact ⟨0, h1, 0, [], hgh1, by omega, rfl, rfl, rfl, by simp, HOH.out, HAH.out, HDH.out, HRH.out, HBH.out⟩
  case round =>
    obtain ⟨j, h, cap, H, hgh, hj, rfl, rfl, hH, hHl, ho, hav, hd, hR, hb⟩ := hrel
    have hHI : (H.length : Int) ≤ 100000 := by omega
    have HO := Lib.hid ho
    have HAV := Lib.hid hav
    have HD := Lib.hid hd
    have HR := Lib.hid hR
    have HB := Lib.hid hb
    have hgr : g ≤ wr.heap.size := by have := hb.size; omega
    clear ho hav hd hR hb
    have hcase : (j < Ls.length ∧ j < 50 ∧ H.length + (Ls.getD j []).length < 100000) ∨ j = Ls.length ∨ (j < Ls.length ∧ ¬ j < 50) ∨ (j < Ls.length ∧ j < 50 ∧ ¬ H.length + (Ls.getD j []).length < 100000) := by omega
    rcases hcase with ⟨hjl, hj50, hfit⟩ | hex
    · obtain ⟨b, off, rfl, -, hat⟩ := H1.out.cells (by omega)
      obtain ⟨u, hu, hsu⟩ := hat j hjl
      have hbg : b < g := by rw [← hg]; exact blt hu
      have hu' := bcell HB.out hu (by omega)
      have HT := Lib.hid (cat_take Ls j hjl)
      have hql := HLL.out j hjl
      have HHH := Lib.hid hH
      clear hH
      have HSU := Lib.hid hsu
      clear hsu hu hat
      generalize Ls.getD j [] = q at *
      obtain ⟨xu, cu, rfl, -⟩ := HSU.out.open
      have hjI : (j : Int) < (Ls.length : Int) := by omega
      have hj50I : (j : Int) < 50 := by omega
      have hfitI : (H.length : Int) + (q.length : Int) < 100000 := by omega
      go_upto_region 8 with fail
      refine wp_region_held_drew (S := fun w' => Row w' g 25 [.int .i64 K, .int .i64 F, .int .i64 N, .slice xo o.length ko] ∧ w'.cell? ⟨b, off + j, none⟩ = some (.slice xu q.length cu)) (by kernel_rfl) (by exact ⟨Row.drew HR.out, hu'⟩) (fun hHeld => ?_)
      refine wpAnyH_take (i := 0) (v := ?_) (by simp only [List.getElem?_toArray, List.getElem?_cons_zero, List.getElem?_cons_succ] <;> rfl) (by kernel_rfl) (by kernel_rfl) (by kernel_rfl) (by intro _ _ _ h; exact h) (Or.inl ⟨by rfl, ?_⟩) (by assumption) ?_
      rotate_left
      · intro w _; go_simp; try with_reducible rfl
      try simp only [Act.put, List.setIfInBounds_toArray, List.set_cons_zero, List.set_cons_succ, Array.replicate]
      refine wpAnyH_take (i := 1) (v := ?_) (by simp only [List.getElem?_toArray, List.getElem?_cons_zero, List.getElem?_cons_succ] <;> rfl) (by kernel_rfl) (by kernel_rfl) (by kernel_rfl) (by intro _ _ _ h; exact h) (Or.inl ⟨by rfl, ?_⟩) (by assumption) ?_
      rotate_left
      · intro w _; go_simp; try with_reducible rfl
      try simp only [Act.put, List.setIfInBounds_toArray, List.set_cons_zero, List.set_cons_succ, Array.replicate]
      refine wpAnyH_take (i := 2) (v := ?_) (by simp only [List.getElem?_toArray, List.getElem?_cons_zero, List.getElem?_cons_succ] <;> rfl) (by kernel_rfl) (by kernel_rfl) (by kernel_rfl) (by intro _ _ _ h; exact h) (Or.inl ⟨by rfl, ?_⟩) (by assumption) ?_
      rotate_left
      · intro w hSS; have hcc := Row.cell (show Row _ g 25 [.int .i64 K, .int .i64 F, .int .i64 N, .slice xo o.length ko] from hSS.1) 1; simp only [List.getElem?_cons_succ, List.getElem?_cons_zero] at hcc; go_simp; try with_reducible rfl
      try simp only [Act.put, List.setIfInBounds_toArray, List.set_cons_zero, List.set_cons_succ, Array.replicate]
      refine wpAnyH_take (i := 3) (v := ?_) (by simp only [List.getElem?_toArray, List.getElem?_cons_zero, List.getElem?_cons_succ] <;> rfl) (by kernel_rfl) (by kernel_rfl) (by kernel_rfl) (by intro _ _ _ h; exact h) (Or.inl ⟨by rfl, ?_⟩) (by assumption) ?_
      rotate_left
      · intro w _; go_simp; try with_reducible rfl
      try simp only [Act.put, List.setIfInBounds_toArray, List.set_cons_zero, List.set_cons_succ, Array.replicate]
      refine wpAnyH_take (i := 5) (v := ?_) (by simp only [List.getElem?_toArray, List.getElem?_cons_zero, List.getElem?_cons_succ] <;> rfl) (by kernel_rfl) (by kernel_rfl) (by kernel_rfl) (by intro _ _ _ h; exact h) (Or.inl ⟨by rfl, ?_⟩) (by assumption) ?_
      rotate_left
      · intro w _; go_simp; try with_reducible rfl
      try simp only [Act.put, List.setIfInBounds_toArray, List.set_cons_zero, List.set_cons_succ, Array.replicate]
      refine wpAnyH_take (i := 6) (v := ?_) (by simp only [List.getElem?_toArray, List.getElem?_cons_zero, List.getElem?_cons_succ] <;> rfl) (by kernel_rfl) (by kernel_rfl) (by kernel_rfl) (by intro _ _ _ h; exact h) (Or.inl ⟨by rfl, ?_⟩) (by assumption) ?_
      rotate_left
      · intro w _; go_simp; try with_reducible rfl
      try simp only [Act.put, List.setIfInBounds_toArray, List.set_cons_zero, List.set_cons_succ, Array.replicate]
      refine wpAnyH_take (i := 7) (v := ?_) (by simp only [List.getElem?_toArray, List.getElem?_cons_zero, List.getElem?_cons_succ] <;> rfl) (by kernel_rfl) (by kernel_rfl) (by kernel_rfl) (by intro _ _ _ h; exact h) (Or.inl ⟨by rfl, ?_⟩) (by assumption) ?_
      rotate_left
      · intro w _; go_simp; try with_reducible rfl
      try simp only [Act.put, List.setIfInBounds_toArray, List.set_cons_zero, List.set_cons_succ, Array.replicate]
      refine wpAnyH_take (i := 8) (v := ?_) (by simp only [List.getElem?_toArray, List.getElem?_cons_zero, List.getElem?_cons_succ] <;> rfl) (by kernel_rfl) (by kernel_rfl) (by kernel_rfl) (by intro _ _ _ h; exact h) (Or.inl ⟨by rfl, ?_⟩) (by assumption) ?_
      rotate_left
      · intro w hSS; have hcc := hSS.2; go_simp; try with_reducible rfl
      try simp only [Act.put, List.setIfInBounds_toArray, List.set_cons_zero, List.set_cons_succ, Array.replicate]
      refine wpAnyH_ready (rs := [4]) (by kernel_rfl) (by simp) ?_
      refine AllReadyH.cons (by simp only [List.getElem?_toArray, List.getElem?_cons_zero, List.getElem?_cons_succ] <;> rfl) (fun K hK => ?_) ?_
      · go_simp
        refine hK.out _ _ (by exact ⟨Row.alloc hHeld.1 _, bkeep (balloc (Below.refl _ _) _) hHeld.2⟩) (fun hHeld => ?_)
        clear hK K
        try simp only [Act.put, List.setIfInBounds_toArray, List.set_cons_zero, List.set_cons_succ, Array.replicate]
        refine wpAnyH_ready (rs := [9]) (by kernel_rfl) (by simp) ?_
        refine AllReadyH.cons (by simp only [List.getElem?_toArray, List.getElem?_cons_zero, List.getElem?_cons_succ] <;> rfl) (fun K hK => ?_) ?_
        · refine step_app_own Try.underlying23 info_byte (by with_unfolding_all rfl) (.tmp 42) (.tmp 46) rfl rfl (Row.new _ _ []) rfl (HSU.out.at' ((HB.out.drew).alloc (by exact hgr) _) (by omega)) (by omega) ?_; intro v7 w7 ho7 hb7
          refine hK.out _ _ (by exact ⟨Row.keep hHeld.1 hb7, bkeep hb7 hHeld.2⟩) (fun hHeld => ?_)
          clear hK K
          try simp only [Act.put, List.setIfInBounds_toArray, List.set_cons_zero, List.set_cons_succ, Array.replicate]
          refine wpAnyH_ready (rs := [10]) (by kernel_rfl) (by simp) ?_
          refine AllReadyH.cons (by simp only [List.getElem?_toArray, List.getElem?_cons_zero, List.getElem?_cons_succ] <;> rfl) (fun K hK => ?_) ?_
          · go_simp; go_at_call 9; have hd7 := HD.out.below (bstep (balloc (Below.refl _ _).drew _) hb7); refine (Write0_of p 0 _ q ⟨[], H, false, [], [], false, 1048576, -1, false⟩ ⟨[], (H ++ q), false, [], [], false, 1048576, -1, false⟩ 0 (write_ok _ _ _ rfl (by simp) (by simp) (by simp [PD.tot]; omega)) _ hd7 (dsk_sb hd7 ho7) (by simp) (by simp; omega) (by omega) (by simp)).mono ?_; rintro e w8 ⟨rfl, hd8, hu8, hav8⟩; try go_simp
            refine hK.out _ _ (by exact ⟨Upd.row hu8 hHeld.1 (by omega), World.grownBy.cell hu8 hHeld.2 (by simp; omega)⟩) (fun hHeld => ?_)
            clear hK K
            try simp only [Act.put, List.setIfInBounds_toArray, List.set_cons_zero, List.set_cons_succ, Array.replicate]
            refine wpAnyH_take (i := 11) (v := ?_) (by simp only [List.getElem?_toArray, List.getElem?_cons_zero, List.getElem?_cons_succ] <;> rfl) (by kernel_rfl) (by kernel_rfl) (by kernel_rfl) (by intro _ _ _ h; exact h) (Or.inl ⟨by rfl, ?_⟩) (by assumption) ?_
            rotate_left
            · intro w _; go_simp; try with_reducible rfl
            try simp only [Act.put, List.setIfInBounds_toArray, List.set_cons_zero, List.set_cons_succ, Array.replicate]
            refine wpAnyH_done (by kernel_rfl) ?_ _
            obtain ⟨hA8, hc8⟩ := hHeld
            have hb78 : Below wr.heap.size wr w7 := bstep (balloc (Below.refl _ _).drew _) hb7
            have hb8 := ub (bthen HB.out hb78 (by omega)) hu8 (by omega) (by omega)
            have hpl : p < wr.heap.size := HD.out.lt
            have ho8 := dsk_own hd7 (HO.out.below hb78) hu8
            have hhw : h < wr.heap.size := (World.ownsRow.lt HO.out h rfl).2
            have hav := hav8 h (by have := hb78.size; omega) (dav_below HAV.out hpl hb78)
            have HO8 := Lib.hid ho8
            have HAV8 := Lib.hid hav
            have HD8 := Lib.hid hd8
            have HA8 := Lib.hid hA8
            have HB8 := Lib.hid hb8
            have hs8 := HSU.out.at' hb8 (by omega)
            have HS8 := Lib.hid hs8
            clear ho8 hav hd8 hA8 hb8 hs8 hb78 hav8 hu8 hd7 ho7 hb7
            go_wp2_with (at_builtin; refine app_head rfl (.tmp 50) (.tmp 54) rfl rfl HO8.out rfl HS8.out (by omega) ?_; intro h' cap' w9 ho9 hgr9)
            have hrow : ∃ C, Row w8 p 56 C := by obtain ⟨xa, ka, xb, kb, xc, kc, xd, kd, hR, -⟩ := HD8.out; exact ⟨_, hR⟩
            obtain ⟨C, hrow⟩ := hrow
            have hne := own_ne HO8.out hrow
            have hfin : g < h' ∧ DAv w9 p h' ∧ Dsk w9 p ⟨[], (H ++ q), false, [], [], false, 1048576, -1, false⟩ ∧ Row w9 g 25 [.int .i64 K, .int .i64 F, .int .i64 N, .slice xo o.length ko] ∧ Below g w w9 := by
              rcases hgr9 with ⟨rfl, hg9⟩ | ⟨hg9, hb9⟩
              · exact ⟨by omega, dav_upd HAV8.out HD8.out.lt hne hg9, HD8.out.grown hg9 hne HAV8.out, Upd.row hg9 HA8.out (by omega), HB8.out.trans (Upd.below hg9 (by omega) (by have := HB8.out.size; omega))⟩
              · exact ⟨by have := HA8.out.lt; omega, dav_below (dav_fresh HD8.out hg9) HD8.out.lt hb9, HD8.out.below hb9, HA8.out.keep hb9, bthen HB8.out hb9 (by omega)⟩
            obtain ⟨f0, f1, f2, f3, f4⟩ := hfin
            exact ⟨⟨j + 1, h', cap', H ++ q, f0, by omega, by go_num, by rw [List.length_append], by rw [HT.out, ← HHH.out], by rw [List.length_append]; omega, ho9, f1, f2, f3, f4⟩, by simp [intOf]; omega⟩
          exact AllReadyH.nil
        exact AllReadyH.nil
      exact AllReadyH.nil
    · have hexI : ¬ (j : Int) < (Ls.length : Int) ∨ ((j : Int) < (Ls.length : Int) ∧ ¬ (j : Int) < 50) ∨ ((j : Int) < (Ls.length : Int) ∧ (j : Int) < 50 ∧ ¬ (H.length : Int) + ((Ls.getD j []).length : Int) < 100000) := by omega
      have hc1 := Row.cell HR.out 1
      simp only [List.getElem?_cons_succ, List.getElem?_cons_zero] at hc1
      have hcell : j < Ls.length → ∃ b off xu cu, xl = some ⟨b, off, none⟩ ∧ wr.cell? ⟨b, off + j, none⟩ = some (.slice xu (Ls.getD j []).length cu) := by
        intro hjl
        obtain ⟨b, off, rfl, -, hat⟩ := H1.out.cells (by omega)
        obtain ⟨u, hu, hsu⟩ := hat j hjl
        obtain ⟨xu, cu, rfl, -⟩ := hsu.open
        exact ⟨b, off, xu, cu, rfl, bcell HB.out hu (by rw [← hg]; exact blt hu)⟩
      have hql : j < Ls.length → (Ls.getD j []).length ≤ 1048576 := HLL.out j
      clear hex hH
      rcases hexI with hx1 | ⟨hx1, hx2⟩ | ⟨hx1, hx2, hx3⟩
      · clear hcell hql
        go_wp2_with fail
        refine (Sync_of p 0 _ ⟨H, H, false, [], [], false, 1048576, -1, false⟩ 0 (sync_ok _ _ rfl (by simp) (by simp)) _ HD.out (by simp) (by simp; omega) (by simp)).mono ?_; rintro e w3 ⟨rfl, hd3, hu3⟩
        have hR3 := hu3.row HR.out (by omega)
        have hb3 := ub HB.out hu3 (by omega) (by omega)
        have ho3 := dsk_own HD.out HO.out hu3
        have HO3 := Lib.hid ho3
        have HD3 := Lib.hid hd3
        have HR3 := Lib.hid hR3
        have HB3 := Lib.hid hb3
        clear hd3 hu3 hR3 hb3 hc1 ho3 HAV HO HD HR HB
        go_wp2_with fail
        go_loopw [10] (fun iv wr => ∃ (i : Nat) (X : List UInt8), i ≤ Ms.length ∧ iv = .int .i64 (i : Int) ∧ X.length ≤ 5000 * i ∧ X.length ≤ 250000 ∧ Own wr 0 5 (.slice (some ⟨h, 0, none⟩) H.length cap) H ∧ Dsk wr p ⟨H, (H ++ X), false, [], [], false, 1048576, -1, false⟩ ∧ Row wr g 25 [.int .i64 K, .int .i64 F, .int .i64 N, .slice xo o.length ko] ∧ Below g w wr) (fun iv _ => Ms.length - (intOf iv).toNat)
        case atStart => exact ⟨0, [], by omega, rfl, by simp, by simp, HO3.out, by rw [List.append_nil]; exact HD3.out, HR3.out, HB3.out⟩
        case round =>
          obtain ⟨i, X, hi, rfl, hXi, hXl, ho, hd, hR, hb⟩ := hrel
          have HO := Lib.hid ho
          have HD := Lib.hid hd
          have HR := Lib.hid hR
          have HB := Lib.hid hb
          have hgr : g ≤ wr.heap.size := by have := hb.size; omega
          clear ho hd hR hb HO3 HD3 HR3 HB3
          have hcase : (i < Ms.length ∧ i < 50 ∧ (Ms.getD i []).length < 5000) ∨ i = Ms.length ∨ (i < Ms.length ∧ ¬ i < 50) ∨ (i < Ms.length ∧ i < 50 ∧ ¬ (Ms.getD i []).length < 5000) := by omega
          rcases hcase with ⟨hil, hi50, hfit⟩ | hex
          · obtain ⟨b, off, rfl, -, hat⟩ := H2.out.cells (by omega)
            obtain ⟨u, hu, hsu⟩ := hat i hil
            have hbg : b < g := by rw [← hg]; exact blt hu
            have hu' := bcell HB.out hu (by omega)
            have HSU := Lib.hid hsu
            clear hsu hu hat
            generalize Ms.getD i [] = q at *
            obtain ⟨xu, cu, rfl, -⟩ := HSU.out.open
            have hiI : (i : Int) < (Ms.length : Int) := by omega
            have hi50I : (i : Int) < 50 := by omega
            have hfitI : (q.length : Int) < 5000 := by omega
            go_upto_region 16 with fail
            refine wp_region_held_drew (S := fun w' => Row w' g 25 [.int .i64 K, .int .i64 F, .int .i64 N, .slice xo o.length ko] ∧ w'.cell? ⟨b, off + i, none⟩ = some (.slice xu q.length cu)) (by kernel_rfl) (by exact ⟨Row.drew HR.out, hu'⟩) (fun hHeld => ?_)
            refine wpAnyH_take (i := 0) (v := ?_) (by simp only [List.getElem?_toArray, List.getElem?_cons_zero, List.getElem?_cons_succ] <;> rfl) (by kernel_rfl) (by kernel_rfl) (by kernel_rfl) (by intro _ _ _ h; exact h) (Or.inl ⟨by rfl, ?_⟩) (by assumption) ?_
            rotate_left
            · intro w _; go_simp; try with_reducible rfl
            try simp only [Act.put, List.setIfInBounds_toArray, List.set_cons_zero, List.set_cons_succ, Array.replicate]
            refine wpAnyH_take (i := 1) (v := ?_) (by simp only [List.getElem?_toArray, List.getElem?_cons_zero, List.getElem?_cons_succ] <;> rfl) (by kernel_rfl) (by kernel_rfl) (by kernel_rfl) (by intro _ _ _ h; exact h) (Or.inl ⟨by rfl, ?_⟩) (by assumption) ?_
            rotate_left
            · intro w _; go_simp; try with_reducible rfl
            try simp only [Act.put, List.setIfInBounds_toArray, List.set_cons_zero, List.set_cons_succ, Array.replicate]
            refine wpAnyH_take (i := 2) (v := ?_) (by simp only [List.getElem?_toArray, List.getElem?_cons_zero, List.getElem?_cons_succ] <;> rfl) (by kernel_rfl) (by kernel_rfl) (by kernel_rfl) (by intro _ _ _ h; exact h) (Or.inl ⟨by rfl, ?_⟩) (by assumption) ?_
            rotate_left
            · intro w hSS; have hcc := Row.cell (show Row _ g 25 [.int .i64 K, .int .i64 F, .int .i64 N, .slice xo o.length ko] from hSS.1) 1; simp only [List.getElem?_cons_succ, List.getElem?_cons_zero] at hcc; go_simp; try with_reducible rfl
            try simp only [Act.put, List.setIfInBounds_toArray, List.set_cons_zero, List.set_cons_succ, Array.replicate]
            refine wpAnyH_take (i := 3) (v := ?_) (by simp only [List.getElem?_toArray, List.getElem?_cons_zero, List.getElem?_cons_succ] <;> rfl) (by kernel_rfl) (by kernel_rfl) (by kernel_rfl) (by intro _ _ _ h; exact h) (Or.inl ⟨by rfl, ?_⟩) (by assumption) ?_
            rotate_left
            · intro w _; go_simp; try with_reducible rfl
            try simp only [Act.put, List.setIfInBounds_toArray, List.set_cons_zero, List.set_cons_succ, Array.replicate]
            refine wpAnyH_take (i := 5) (v := ?_) (by simp only [List.getElem?_toArray, List.getElem?_cons_zero, List.getElem?_cons_succ] <;> rfl) (by kernel_rfl) (by kernel_rfl) (by kernel_rfl) (by intro _ _ _ h; exact h) (Or.inl ⟨by rfl, ?_⟩) (by assumption) ?_
            rotate_left
            · intro w _; go_simp; try with_reducible rfl
            try simp only [Act.put, List.setIfInBounds_toArray, List.set_cons_zero, List.set_cons_succ, Array.replicate]
            refine wpAnyH_take (i := 6) (v := ?_) (by simp only [List.getElem?_toArray, List.getElem?_cons_zero, List.getElem?_cons_succ] <;> rfl) (by kernel_rfl) (by kernel_rfl) (by kernel_rfl) (by intro _ _ _ h; exact h) (Or.inl ⟨by rfl, ?_⟩) (by assumption) ?_
            rotate_left
            · intro w _; go_simp; try with_reducible rfl
            try simp only [Act.put, List.setIfInBounds_toArray, List.set_cons_zero, List.set_cons_succ, Array.replicate]
            refine wpAnyH_take (i := 7) (v := ?_) (by simp only [List.getElem?_toArray, List.getElem?_cons_zero, List.getElem?_cons_succ] <;> rfl) (by kernel_rfl) (by kernel_rfl) (by kernel_rfl) (by intro _ _ _ h; exact h) (Or.inl ⟨by rfl, ?_⟩) (by assumption) ?_
            rotate_left
            · intro w _; go_simp; try with_reducible rfl
            try simp only [Act.put, List.setIfInBounds_toArray, List.set_cons_zero, List.set_cons_succ, Array.replicate]
            refine wpAnyH_take (i := 8) (v := ?_) (by simp only [List.getElem?_toArray, List.getElem?_cons_zero, List.getElem?_cons_succ] <;> rfl) (by kernel_rfl) (by kernel_rfl) (by kernel_rfl) (by intro _ _ _ h; exact h) (Or.inl ⟨by rfl, ?_⟩) (by assumption) ?_
            rotate_left
            · intro w hSS; have hcc := hSS.2; go_simp; try with_reducible rfl
            try simp only [Act.put, List.setIfInBounds_toArray, List.set_cons_zero, List.set_cons_succ, Array.replicate]
            refine wpAnyH_ready (rs := [4]) (by kernel_rfl) (by simp) ?_
            refine AllReadyH.cons (by simp only [List.getElem?_toArray, List.getElem?_cons_zero, List.getElem?_cons_succ] <;> rfl) (fun K hK => ?_) ?_
            · go_simp
              refine hK.out _ _ (by exact ⟨Row.alloc hHeld.1 _, bkeep (balloc (Below.refl _ _) _) hHeld.2⟩) (fun hHeld => ?_)
              clear hK K
              try simp only [Act.put, List.setIfInBounds_toArray, List.set_cons_zero, List.set_cons_succ, Array.replicate]
              refine wpAnyH_ready (rs := [9]) (by kernel_rfl) (by simp) ?_
              refine AllReadyH.cons (by simp only [List.getElem?_toArray, List.getElem?_cons_zero, List.getElem?_cons_succ] <;> rfl) (fun K hK => ?_) ?_
              · refine step_app_own Try.underlying23 info_byte (by with_unfolding_all rfl) (.tmp 84) (.tmp 88) rfl rfl (Row.new _ _ []) rfl (HSU.out.at' ((HB.out.drew).alloc (by exact hgr) _) (by omega)) (by omega) ?_; intro v7 w7 ho7 hb7
                refine hK.out _ _ (by exact ⟨Row.keep hHeld.1 hb7, bkeep hb7 hHeld.2⟩) (fun hHeld => ?_)
                clear hK K
                try simp only [Act.put, List.setIfInBounds_toArray, List.set_cons_zero, List.set_cons_succ, Array.replicate]
                refine wpAnyH_ready (rs := [10]) (by kernel_rfl) (by simp) ?_
                refine AllReadyH.cons (by simp only [List.getElem?_toArray, List.getElem?_cons_zero, List.getElem?_cons_succ] <;> rfl) (fun K hK => ?_) ?_
                · go_simp; go_at_call 9; have hd7 := HD.out.below (bstep (balloc (Below.refl _ _).drew _) hb7); refine (Write0_of p 0 _ q ⟨H, (H ++ X), false, [], [], false, 1048576, -1, false⟩ ⟨H, (H ++ X ++ q), false, [], [], false, 1048576, -1, false⟩ 0 (write_ok _ _ _ rfl (by simp) (by simp) (by simp [PD.tot]; omega)) _ hd7 (dsk_sb hd7 ho7) (by simp) (by simp; omega) (by omega) (by simp)).mono ?_; rintro e w8 ⟨rfl, hd8, hu8, hav8⟩; try go_simp
                  refine hK.out _ _ (by exact ⟨Upd.row hu8 hHeld.1 (by omega), World.grownBy.cell hu8 hHeld.2 (by simp; omega)⟩) (fun hHeld => ?_)
                  clear hK K
                  try simp only [Act.put, List.setIfInBounds_toArray, List.set_cons_zero, List.set_cons_succ, Array.replicate]
                  refine wpAnyH_done (by kernel_rfl) ?_ _
                  obtain ⟨hA8, hc8⟩ := hHeld
                  have hb78 : Below wr.heap.size wr w7 := bstep (balloc (Below.refl _ _).drew _) hb7
                  have hb8 := ub (bthen HB.out hb78 (by omega)) hu8 (by omega) (by omega)
                  have ho8 := dsk_own hd7 (HO.out.below hb78) hu8
                  have HO8 := Lib.hid ho8
                  have HD8 := Lib.hid hd8
                  have HA8 := Lib.hid hA8
                  have HB8 := Lib.hid hb8
                  clear ho8 hd8 hA8 hb8 hb78 hav8 hu8 hd7 ho7 hb7
                  go_wp2_with fail
                  exact ⟨⟨i + 1, X ++ q, by omega, by go_num, by rw [List.length_append]; omega, by rw [List.length_append]; omega, HO8.out, by rw [← List.append_assoc]; exact HD8.out, HA8.out, HB8.out⟩, by simp [intOf]; omega⟩
                exact AllReadyH.nil
              exact AllReadyH.nil
            exact AllReadyH.nil
          · have hexI : ¬ (i : Int) < (Ms.length : Int) ∨ ((i : Int) < (Ms.length : Int) ∧ ¬ (i : Int) < 50) ∨ ((i : Int) < (Ms.length : Int) ∧ (i : Int) < 50 ∧ ¬ ((Ms.getD i []).length : Int) < 5000) := by omega
            have hcell2 : i < Ms.length → ∃ b off xu cu, xm = some ⟨b, off, none⟩ ∧ wr.cell? ⟨b, off + i, none⟩ = some (.slice xu (Ms.getD i []).length cu) := by
              intro hil
              obtain ⟨b, off, rfl, -, hat⟩ := H2.out.cells (by omega)
              obtain ⟨u, hu, hsu⟩ := hat i hil
              obtain ⟨xu, cu, rfl, -⟩ := hsu.open
              exact ⟨b, off, xu, cu, rfl, bcell HB.out hu (by rw [← hg]; exact blt hu)⟩
            obtain ⟨c, hc⟩ : ∃ c, c = crashF H (H ++ X) false N o := ⟨_, rfl⟩
            have hcb : c.take H.length = H := by rw [hc]; exact crashF_begins H X N o
            have hcl : c.length ≤ 3000000 := by rw [hc]; have := crashF_len H (H ++ X) false N o; rw [List.length_append] at this; omega
            have hcr : PD.crash ⟨H, (H ++ X), false, [], [], false, 1048576, -1, false⟩ N o = ⟨c, c, false, [], [], false, 1048576, -1, false⟩ := by
              unfold PD.crash
              simp only [← hc, crashF_nil]
            clear hex hc
            rcases hexI with hx1 | ⟨hx1, hx2⟩ | ⟨hx1, hx2, hx3⟩
            · clear hcell2
              go_upto_region 17 with fail
              refine wp_region_held_drew (S := fun w' => Row w' g 25 [.int .i64 K, .int .i64 F, .int .i64 N, .slice xo o.length ko]) (by kernel_rfl) (by exact Row.drew HR.out) (fun hHeld => ?_)
              refine wpAnyH_take (i := 0) (v := ?_) (by simp only [List.getElem?_toArray, List.getElem?_cons_zero, List.getElem?_cons_succ] <;> rfl) (by kernel_rfl) (by kernel_rfl) (by kernel_rfl) (by intro _ _ _ h; exact h) (Or.inl ⟨by rfl, ?_⟩) (by assumption) ?_
              rotate_left
              · intro w _; go_simp; try with_reducible rfl
              try simp only [Act.put, List.setIfInBounds_toArray, List.set_cons_zero, List.set_cons_succ, Array.replicate]
              refine wpAnyH_take (i := 1) (v := ?_) (by simp only [List.getElem?_toArray, List.getElem?_cons_zero, List.getElem?_cons_succ] <;> rfl) (by kernel_rfl) (by kernel_rfl) (by kernel_rfl) (by intro _ _ _ h; exact h) (Or.inl ⟨by rfl, ?_⟩) (by assumption) ?_
              rotate_left
              · intro w _; go_simp; try with_reducible rfl
              try simp only [Act.put, List.setIfInBounds_toArray, List.set_cons_zero, List.set_cons_succ, Array.replicate]
              refine wpAnyH_take (i := 2) (v := ?_) (by simp only [List.getElem?_toArray, List.getElem?_cons_zero, List.getElem?_cons_succ] <;> rfl) (by kernel_rfl) (by kernel_rfl) (by kernel_rfl) (by intro _ _ _ h; exact h) (Or.inl ⟨by rfl, ?_⟩) (by assumption) ?_
              rotate_left
              · intro w hSS; have hcc := Row.cell (show Row _ g 25 [.int .i64 K, .int .i64 F, .int .i64 N, .slice xo o.length ko] from hSS) 2; simp only [List.getElem?_cons_succ, List.getElem?_cons_zero] at hcc; go_simp; try with_reducible rfl
              try simp only [Act.put, List.setIfInBounds_toArray, List.set_cons_zero, List.set_cons_succ, Array.replicate]
              refine wpAnyH_take (i := 4) (v := ?_) (by simp only [List.getElem?_toArray, List.getElem?_cons_zero, List.getElem?_cons_succ] <;> rfl) (by kernel_rfl) (by kernel_rfl) (by kernel_rfl) (by intro _ _ _ h; exact h) (Or.inl ⟨by rfl, ?_⟩) (by assumption) ?_
              rotate_left
              · intro w _; go_simp; try with_reducible rfl
              try simp only [Act.put, List.setIfInBounds_toArray, List.set_cons_zero, List.set_cons_succ, Array.replicate]
              refine wpAnyH_take (i := 5) (v := ?_) (by simp only [List.getElem?_toArray, List.getElem?_cons_zero, List.getElem?_cons_succ] <;> rfl) (by kernel_rfl) (by kernel_rfl) (by kernel_rfl) (by intro _ _ _ h; exact h) (Or.inl ⟨by rfl, ?_⟩) (by assumption) ?_
              rotate_left
              · intro w hSS; have hcc := Row.cell (show Row _ g 25 [.int .i64 K, .int .i64 F, .int .i64 N, .slice xo o.length ko] from hSS) 3; simp only [List.getElem?_cons_succ, List.getElem?_cons_zero] at hcc; go_simp; try with_reducible rfl
              try simp only [Act.put, List.setIfInBounds_toArray, List.set_cons_zero, List.set_cons_succ, Array.replicate]
              refine wpAnyH_ready (rs := [3]) (by kernel_rfl) (by simp) ?_
              refine AllReadyH.cons (by simp only [List.getElem?_toArray, List.getElem?_cons_zero, List.getElem?_cons_succ] <;> rfl) (fun K hK => ?_) ?_
              · go_simp
                refine hK.out _ _ (by exact Row.alloc hHeld _) (fun hHeld => ?_)
                clear hK K
                try simp only [Act.put, List.setIfInBounds_toArray, List.set_cons_zero, List.set_cons_succ, Array.replicate]
                refine wpAnyH_ready (rs := [6]) (by kernel_rfl) (by simp) ?_
                refine AllReadyH.cons (by simp only [List.getElem?_toArray, List.getElem?_cons_zero, List.getElem?_cons_succ] <;> rfl) (fun K hK => ?_) ?_
                · refine step_app_own Try.underlying23 info_byte (by with_unfolding_all rfl) (.tmp 94) (.tmp 96) rfl rfl (Row.new _ _ []) rfl (H3.out.at' ((HB.out.drew).alloc (by exact hgr) _) (by omega)) (by omega) ?_; intro v7 w7 ho7 hb7
                  refine hK.out _ _ (by exact Row.keep hHeld hb7) (fun hHeld => ?_)
                  clear hK K
                  try simp only [Act.put, List.setIfInBounds_toArray, List.set_cons_zero, List.set_cons_succ, Array.replicate]
                  refine wpAnyH_ready (rs := [7]) (by kernel_rfl) (by simp) ?_
                  refine AllReadyH.cons (by simp only [List.getElem?_toArray, List.getElem?_cons_zero, List.getElem?_cons_succ] <;> rfl) (fun K hK => ?_) ?_
                  · go_simp; go_at_call 11; have hd7 := HD.out.below (bstep (balloc (Below.refl _ _).drew _) hb7); refine (Crash_of p N _ o _ ⟨c, c, false, [], [], false, 1048576, -1, false⟩ hcr _ hd7 (dsk_sb hd7 ho7) (by simp; omega) (by intro _; omega)).mono ?_; rintro e w8 ⟨rfl, hd8, hu8⟩; try go_simp
                    refine hK.out _ _ (by exact Upd.row hu8 hHeld (by omega)) (fun hHeld => ?_)
                    clear hK K
                    try simp only [Act.put, List.setIfInBounds_toArray, List.set_cons_zero, List.set_cons_succ, Array.replicate]
                    refine wpAnyH_done (by kernel_rfl) ?_ _
                    have hb78 : Below wr.heap.size wr w7 := bstep (balloc (Below.refl _ _).drew _) hb7
                    have hb8 := ub (bthen HB.out hb78 (by omega)) hu8 (by omega) (by omega)
                    have ho8 := dsk_own hd7 (HO.out.below hb78) hu8
                    have hF8 := Row.cell hHeld 1
                    simp only [List.getElem?_cons_succ, List.getElem?_cons_zero] at hF8
                    clear hu8 hd7 ho7 hb7 hb78
                    go_wp2_with fail
                    refine (Read_of p 0 _ c 0 rfl _ hd8 (by simp; omega)).mono ?_; rintro e w9 ⟨v9, rfl, ho9, hb9⟩
                    have hb09 := bthen hb8 hb9 (by have := hb8.size; omega)
                    go_wp2_with (first
                      | (go_at_call 13; refine (begins_yes _ _ c H _ ho9.sh (ho8.sh.below hb9) hcb).mono ?_; rintro e w10 ⟨rfl, hb10⟩)
                      | (go_at_call 14; refine (lives14 _).mono ?_; rintro e w11 ⟨rfl, hb11⟩))
                    go_ret
                    rw [← hg] at hb09
                    exact ⟨rfl, bthen (bthen hb09 hb10 (Nat.le_refl _)) hb11 (Nat.le_refl _)⟩
                  exact AllReadyH.nil
                exact AllReadyH.nil
              exact AllReadyH.nil
            · clear hcell2
              go_upto_region 17 with fail
              refine wp_region_held_drew (S := fun w' => Row w' g 25 [.int .i64 K, .int .i64 F, .int .i64 N, .slice xo o.length ko]) (by kernel_rfl) (by exact Row.drew HR.out) (fun hHeld => ?_)
              refine wpAnyH_take (i := 0) (v := ?_) (by simp only [List.getElem?_toArray, List.getElem?_cons_zero, List.getElem?_cons_succ] <;> rfl) (by kernel_rfl) (by kernel_rfl) (by kernel_rfl) (by intro _ _ _ h; exact h) (Or.inl ⟨by rfl, ?_⟩) (by assumption) ?_
              rotate_left
              · intro w _; go_simp; try with_reducible rfl
              try simp only [Act.put, List.setIfInBounds_toArray, List.set_cons_zero, List.set_cons_succ, Array.replicate]
              refine wpAnyH_take (i := 1) (v := ?_) (by simp only [List.getElem?_toArray, List.getElem?_cons_zero, List.getElem?_cons_succ] <;> rfl) (by kernel_rfl) (by kernel_rfl) (by kernel_rfl) (by intro _ _ _ h; exact h) (Or.inl ⟨by rfl, ?_⟩) (by assumption) ?_
              rotate_left
              · intro w _; go_simp; try with_reducible rfl
              try simp only [Act.put, List.setIfInBounds_toArray, List.set_cons_zero, List.set_cons_succ, Array.replicate]
              refine wpAnyH_take (i := 2) (v := ?_) (by simp only [List.getElem?_toArray, List.getElem?_cons_zero, List.getElem?_cons_succ] <;> rfl) (by kernel_rfl) (by kernel_rfl) (by kernel_rfl) (by intro _ _ _ h; exact h) (Or.inl ⟨by rfl, ?_⟩) (by assumption) ?_
              rotate_left
              · intro w hSS; have hcc := Row.cell (show Row _ g 25 [.int .i64 K, .int .i64 F, .int .i64 N, .slice xo o.length ko] from hSS) 2; simp only [List.getElem?_cons_succ, List.getElem?_cons_zero] at hcc; go_simp; try with_reducible rfl
              try simp only [Act.put, List.setIfInBounds_toArray, List.set_cons_zero, List.set_cons_succ, Array.replicate]
              refine wpAnyH_take (i := 4) (v := ?_) (by simp only [List.getElem?_toArray, List.getElem?_cons_zero, List.getElem?_cons_succ] <;> rfl) (by kernel_rfl) (by kernel_rfl) (by kernel_rfl) (by intro _ _ _ h; exact h) (Or.inl ⟨by rfl, ?_⟩) (by assumption) ?_
              rotate_left
              · intro w _; go_simp; try with_reducible rfl
              try simp only [Act.put, List.setIfInBounds_toArray, List.set_cons_zero, List.set_cons_succ, Array.replicate]
              refine wpAnyH_take (i := 5) (v := ?_) (by simp only [List.getElem?_toArray, List.getElem?_cons_zero, List.getElem?_cons_succ] <;> rfl) (by kernel_rfl) (by kernel_rfl) (by kernel_rfl) (by intro _ _ _ h; exact h) (Or.inl ⟨by rfl, ?_⟩) (by assumption) ?_
              rotate_left
              · intro w hSS; have hcc := Row.cell (show Row _ g 25 [.int .i64 K, .int .i64 F, .int .i64 N, .slice xo o.length ko] from hSS) 3; simp only [List.getElem?_cons_succ, List.getElem?_cons_zero] at hcc; go_simp; try with_reducible rfl
              try simp only [Act.put, List.setIfInBounds_toArray, List.set_cons_zero, List.set_cons_succ, Array.replicate]
              refine wpAnyH_ready (rs := [3]) (by kernel_rfl) (by simp) ?_
              refine AllReadyH.cons (by simp only [List.getElem?_toArray, List.getElem?_cons_zero, List.getElem?_cons_succ] <;> rfl) (fun K hK => ?_) ?_
              · go_simp
                refine hK.out _ _ (by exact Row.alloc hHeld _) (fun hHeld => ?_)
                clear hK K
                try simp only [Act.put, List.setIfInBounds_toArray, List.set_cons_zero, List.set_cons_succ, Array.replicate]
                refine wpAnyH_ready (rs := [6]) (by kernel_rfl) (by simp) ?_
                refine AllReadyH.cons (by simp only [List.getElem?_toArray, List.getElem?_cons_zero, List.getElem?_cons_succ] <;> rfl) (fun K hK => ?_) ?_
                · refine step_app_own Try.underlying23 info_byte (by with_unfolding_all rfl) (.tmp 94) (.tmp 96) rfl rfl (Row.new _ _ []) rfl (H3.out.at' ((HB.out.drew).alloc (by exact hgr) _) (by omega)) (by omega) ?_; intro v7 w7 ho7 hb7
                  refine hK.out _ _ (by exact Row.keep hHeld hb7) (fun hHeld => ?_)
                  clear hK K
                  try simp only [Act.put, List.setIfInBounds_toArray, List.set_cons_zero, List.set_cons_succ, Array.replicate]
                  refine wpAnyH_ready (rs := [7]) (by kernel_rfl) (by simp) ?_
                  refine AllReadyH.cons (by simp only [List.getElem?_toArray, List.getElem?_cons_zero, List.getElem?_cons_succ] <;> rfl) (fun K hK => ?_) ?_
                  · go_simp; go_at_call 11; have hd7 := HD.out.below (bstep (balloc (Below.refl _ _).drew _) hb7); refine (Crash_of p N _ o _ ⟨c, c, false, [], [], false, 1048576, -1, false⟩ hcr _ hd7 (dsk_sb hd7 ho7) (by simp; omega) (by intro _; omega)).mono ?_; rintro e w8 ⟨rfl, hd8, hu8⟩; try go_simp
                    refine hK.out _ _ (by exact Upd.row hu8 hHeld (by omega)) (fun hHeld => ?_)
                    clear hK K
                    try simp only [Act.put, List.setIfInBounds_toArray, List.set_cons_zero, List.set_cons_succ, Array.replicate]
                    refine wpAnyH_done (by kernel_rfl) ?_ _
                    have hb78 : Below wr.heap.size wr w7 := bstep (balloc (Below.refl _ _).drew _) hb7
                    have hb8 := ub (bthen HB.out hb78 (by omega)) hu8 (by omega) (by omega)
                    have ho8 := dsk_own hd7 (HO.out.below hb78) hu8
                    have hF8 := Row.cell hHeld 1
                    simp only [List.getElem?_cons_succ, List.getElem?_cons_zero] at hF8
                    clear hu8 hd7 ho7 hb7 hb78
                    go_wp2_with fail
                    refine (Read_of p 0 _ c 0 rfl _ hd8 (by simp; omega)).mono ?_; rintro e w9 ⟨v9, rfl, ho9, hb9⟩
                    have hb09 := bthen hb8 hb9 (by have := hb8.size; omega)
                    go_wp2_with (first
                      | (go_at_call 13; refine (begins_yes _ _ c H _ ho9.sh (ho8.sh.below hb9) hcb).mono ?_; rintro e w10 ⟨rfl, hb10⟩)
                      | (go_at_call 14; refine (lives14 _).mono ?_; rintro e w11 ⟨rfl, hb11⟩))
                    go_ret
                    rw [← hg] at hb09
                    exact ⟨rfl, bthen (bthen hb09 hb10 (Nat.le_refl _)) hb11 (Nat.le_refl _)⟩
                  exact AllReadyH.nil
                exact AllReadyH.nil
              exact AllReadyH.nil
            · obtain ⟨b, off, xu, cu, rfl, hcu⟩ := hcell2 (by omega)
              generalize (Ms.getD i []).length = D at *
              go_upto_region 17 with fail
              clear hcu
              refine wp_region_held_drew (S := fun w' => Row w' g 25 [.int .i64 K, .int .i64 F, .int .i64 N, .slice xo o.length ko]) (by kernel_rfl) (by exact Row.drew HR.out) (fun hHeld => ?_)
              refine wpAnyH_take (i := 0) (v := ?_) (by simp only [List.getElem?_toArray, List.getElem?_cons_zero, List.getElem?_cons_succ] <;> rfl) (by kernel_rfl) (by kernel_rfl) (by kernel_rfl) (by intro _ _ _ h; exact h) (Or.inl ⟨by rfl, ?_⟩) (by assumption) ?_
              rotate_left
              · intro w _; go_simp; try with_reducible rfl
              try simp only [Act.put, List.setIfInBounds_toArray, List.set_cons_zero, List.set_cons_succ, Array.replicate]
              refine wpAnyH_take (i := 1) (v := ?_) (by simp only [List.getElem?_toArray, List.getElem?_cons_zero, List.getElem?_cons_succ] <;> rfl) (by kernel_rfl) (by kernel_rfl) (by kernel_rfl) (by intro _ _ _ h; exact h) (Or.inl ⟨by rfl, ?_⟩) (by assumption) ?_
              rotate_left
              · intro w _; go_simp; try with_reducible rfl
              try simp only [Act.put, List.setIfInBounds_toArray, List.set_cons_zero, List.set_cons_succ, Array.replicate]
              refine wpAnyH_take (i := 2) (v := ?_) (by simp only [List.getElem?_toArray, List.getElem?_cons_zero, List.getElem?_cons_succ] <;> rfl) (by kernel_rfl) (by kernel_rfl) (by kernel_rfl) (by intro _ _ _ h; exact h) (Or.inl ⟨by rfl, ?_⟩) (by assumption) ?_
              rotate_left
              · intro w hSS; have hcc := Row.cell (show Row _ g 25 [.int .i64 K, .int .i64 F, .int .i64 N, .slice xo o.length ko] from hSS) 2; simp only [List.getElem?_cons_succ, List.getElem?_cons_zero] at hcc; go_simp; try with_reducible rfl
              try simp only [Act.put, List.setIfInBounds_toArray, List.set_cons_zero, List.set_cons_succ, Array.replicate]
              refine wpAnyH_take (i := 4) (v := ?_) (by simp only [List.getElem?_toArray, List.getElem?_cons_zero, List.getElem?_cons_succ] <;> rfl) (by kernel_rfl) (by kernel_rfl) (by kernel_rfl) (by intro _ _ _ h; exact h) (Or.inl ⟨by rfl, ?_⟩) (by assumption) ?_
              rotate_left
              · intro w _; go_simp; try with_reducible rfl
              try simp only [Act.put, List.setIfInBounds_toArray, List.set_cons_zero, List.set_cons_succ, Array.replicate]
              refine wpAnyH_take (i := 5) (v := ?_) (by simp only [List.getElem?_toArray, List.getElem?_cons_zero, List.getElem?_cons_succ] <;> rfl) (by kernel_rfl) (by kernel_rfl) (by kernel_rfl) (by intro _ _ _ h; exact h) (Or.inl ⟨by rfl, ?_⟩) (by assumption) ?_
              rotate_left
              · intro w hSS; have hcc := Row.cell (show Row _ g 25 [.int .i64 K, .int .i64 F, .int .i64 N, .slice xo o.length ko] from hSS) 3; simp only [List.getElem?_cons_succ, List.getElem?_cons_zero] at hcc; go_simp; try with_reducible rfl
              try simp only [Act.put, List.setIfInBounds_toArray, List.set_cons_zero, List.set_cons_succ, Array.replicate]
              refine wpAnyH_ready (rs := [3]) (by kernel_rfl) (by simp) ?_
              refine AllReadyH.cons (by simp only [List.getElem?_toArray, List.getElem?_cons_zero, List.getElem?_cons_succ] <;> rfl) (fun K hK => ?_) ?_
              · go_simp
                refine hK.out _ _ (by exact Row.alloc hHeld _) (fun hHeld => ?_)
                clear hK K
                try simp only [Act.put, List.setIfInBounds_toArray, List.set_cons_zero, List.set_cons_succ, Array.replicate]
                refine wpAnyH_ready (rs := [6]) (by kernel_rfl) (by simp) ?_
                refine AllReadyH.cons (by simp only [List.getElem?_toArray, List.getElem?_cons_zero, List.getElem?_cons_succ] <;> rfl) (fun K hK => ?_) ?_
                · refine step_app_own Try.underlying23 info_byte (by with_unfolding_all rfl) (.tmp 94) (.tmp 96) rfl rfl (Row.new _ _ []) rfl (H3.out.at' ((HB.out.drew).alloc (by exact hgr) _) (by omega)) (by omega) ?_; intro v7 w7 ho7 hb7
                  refine hK.out _ _ (by exact Row.keep hHeld hb7) (fun hHeld => ?_)
                  clear hK K
                  try simp only [Act.put, List.setIfInBounds_toArray, List.set_cons_zero, List.set_cons_succ, Array.replicate]
                  refine wpAnyH_ready (rs := [7]) (by kernel_rfl) (by simp) ?_
                  refine AllReadyH.cons (by simp only [List.getElem?_toArray, List.getElem?_cons_zero, List.getElem?_cons_succ] <;> rfl) (fun K hK => ?_) ?_
                  · go_simp; go_at_call 11; have hd7 := HD.out.below (bstep (balloc (Below.refl _ _).drew _) hb7); refine (Crash_of p N _ o _ ⟨c, c, false, [], [], false, 1048576, -1, false⟩ hcr _ hd7 (dsk_sb hd7 ho7) (by simp; omega) (by intro _; omega)).mono ?_; rintro e w8 ⟨rfl, hd8, hu8⟩; try go_simp
                    refine hK.out _ _ (by exact Upd.row hu8 hHeld (by omega)) (fun hHeld => ?_)
                    clear hK K
                    try simp only [Act.put, List.setIfInBounds_toArray, List.set_cons_zero, List.set_cons_succ, Array.replicate]
                    refine wpAnyH_done (by kernel_rfl) ?_ _
                    have hb78 : Below wr.heap.size wr w7 := bstep (balloc (Below.refl _ _).drew _) hb7
                    have hb8 := ub (bthen HB.out hb78 (by omega)) hu8 (by omega) (by omega)
                    have ho8 := dsk_own hd7 (HO.out.below hb78) hu8
                    have hF8 := Row.cell hHeld 1
                    simp only [List.getElem?_cons_succ, List.getElem?_cons_zero] at hF8
                    clear hu8 hd7 ho7 hb7 hb78
                    go_wp2_with fail
                    refine (Read_of p 0 _ c 0 rfl _ hd8 (by simp; omega)).mono ?_; rintro e w9 ⟨v9, rfl, ho9, hb9⟩
                    have hb09 := bthen hb8 hb9 (by have := hb8.size; omega)
                    go_wp2_with (first
                      | (go_at_call 13; refine (begins_yes _ _ c H _ ho9.sh (ho8.sh.below hb9) hcb).mono ?_; rintro e w10 ⟨rfl, hb10⟩)
                      | (go_at_call 14; refine (lives14 _).mono ?_; rintro e w11 ⟨rfl, hb11⟩))
                    go_ret
                    rw [← hg] at hb09
                    exact ⟨rfl, bthen (bthen hb09 hb10 (Nat.le_refl _)) hb11 (Nat.le_refl _)⟩
                  exact AllReadyH.nil
                exact AllReadyH.nil
              exact AllReadyH.nil
      · clear hcell hql
        go_wp2_with fail
        refine (Sync_of p 0 _ ⟨H, H, false, [], [], false, 1048576, -1, false⟩ 0 (sync_ok _ _ rfl (by simp) (by simp)) _ HD.out (by simp) (by simp; omega) (by simp)).mono ?_; rintro e w3 ⟨rfl, hd3, hu3⟩
        have hR3 := hu3.row HR.out (by omega)
        have hb3 := ub HB.out hu3 (by omega) (by omega)
        have ho3 := dsk_own HD.out HO.out hu3
        have HO3 := Lib.hid ho3
        have HD3 := Lib.hid hd3
        have HR3 := Lib.hid hR3
        have HB3 := Lib.hid hb3
        clear hd3 hu3 hR3 hb3 hc1 ho3 HAV HO HD HR HB
        go_wp2_with fail
        go_loopw [10] (fun iv wr => ∃ (i : Nat) (X : List UInt8), i ≤ Ms.length ∧ iv = .int .i64 (i : Int) ∧ X.length ≤ 5000 * i ∧ X.length ≤ 250000 ∧ Own wr 0 5 (.slice (some ⟨h, 0, none⟩) H.length cap) H ∧ Dsk wr p ⟨H, (H ++ X), false, [], [], false, 1048576, -1, false⟩ ∧ Row wr g 25 [.int .i64 K, .int .i64 F, .int .i64 N, .slice xo o.length ko] ∧ Below g w wr) (fun iv _ => Ms.length - (intOf iv).toNat)
        case atStart => exact ⟨0, [], by omega, rfl, by simp, by simp, HO3.out, by rw [List.append_nil]; exact HD3.out, HR3.out, HB3.out⟩
        case round =>
          obtain ⟨i, X, hi, rfl, hXi, hXl, ho, hd, hR, hb⟩ := hrel
          have HO := Lib.hid ho
          have HD := Lib.hid hd
          have HR := Lib.hid hR
          have HB := Lib.hid hb
          have hgr : g ≤ wr.heap.size := by have := hb.size; omega
          clear ho hd hR hb HO3 HD3 HR3 HB3
          have hcase : (i < Ms.length ∧ i < 50 ∧ (Ms.getD i []).length < 5000) ∨ i = Ms.length ∨ (i < Ms.length ∧ ¬ i < 50) ∨ (i < Ms.length ∧ i < 50 ∧ ¬ (Ms.getD i []).length < 5000) := by omega
          rcases hcase with ⟨hil, hi50, hfit⟩ | hex
          · obtain ⟨b, off, rfl, -, hat⟩ := H2.out.cells (by omega)
            obtain ⟨u, hu, hsu⟩ := hat i hil
            have hbg : b < g := by rw [← hg]; exact blt hu
            have hu' := bcell HB.out hu (by omega)
            have HSU := Lib.hid hsu
            clear hsu hu hat
            generalize Ms.getD i [] = q at *
            obtain ⟨xu, cu, rfl, -⟩ := HSU.out.open
            have hiI : (i : Int) < (Ms.length : Int) := by omega
            have hi50I : (i : Int) < 50 := by omega
            have hfitI : (q.length : Int) < 5000 := by omega
            go_upto_region 16 with fail
            refine wp_region_held_drew (S := fun w' => Row w' g 25 [.int .i64 K, .int .i64 F, .int .i64 N, .slice xo o.length ko] ∧ w'.cell? ⟨b, off + i, none⟩ = some (.slice xu q.length cu)) (by kernel_rfl) (by exact ⟨Row.drew HR.out, hu'⟩) (fun hHeld => ?_)
            refine wpAnyH_take (i := 0) (v := ?_) (by simp only [List.getElem?_toArray, List.getElem?_cons_zero, List.getElem?_cons_succ] <;> rfl) (by kernel_rfl) (by kernel_rfl) (by kernel_rfl) (by intro _ _ _ h; exact h) (Or.inl ⟨by rfl, ?_⟩) (by assumption) ?_
            rotate_left
            · intro w _; go_simp; try with_reducible rfl
            try simp only [Act.put, List.setIfInBounds_toArray, List.set_cons_zero, List.set_cons_succ, Array.replicate]
            refine wpAnyH_take (i := 1) (v := ?_) (by simp only [List.getElem?_toArray, List.getElem?_cons_zero, List.getElem?_cons_succ] <;> rfl) (by kernel_rfl) (by kernel_rfl) (by kernel_rfl) (by intro _ _ _ h; exact h) (Or.inl ⟨by rfl, ?_⟩) (by assumption) ?_
            rotate_left
            · intro w _; go_simp; try with_reducible rfl
            try simp only [Act.put, List.setIfInBounds_toArray, List.set_cons_zero, List.set_cons_succ, Array.replicate]
            refine wpAnyH_take (i := 2) (v := ?_) (by simp only [List.getElem?_toArray, List.getElem?_cons_zero, List.getElem?_cons_succ] <;> rfl) (by kernel_rfl) (by kernel_rfl) (by kernel_rfl) (by intro _ _ _ h; exact h) (Or.inl ⟨by rfl, ?_⟩) (by assumption) ?_
            rotate_left
            · intro w hSS; have hcc := Row.cell (show Row _ g 25 [.int .i64 K, .int .i64 F, .int .i64 N, .slice xo o.length ko] from hSS.1) 1; simp only [List.getElem?_cons_succ, List.getElem?_cons_zero] at hcc; go_simp; try with_reducible rfl
            try simp only [Act.put, List.setIfInBounds_toArray, List.set_cons_zero, List.set_cons_succ, Array.replicate]
            refine wpAnyH_take (i := 3) (v := ?_) (by simp only [List.getElem?_toArray, List.getElem?_cons_zero, List.getElem?_cons_succ] <;> rfl) (by kernel_rfl) (by kernel_rfl) (by kernel_rfl) (by intro _ _ _ h; exact h) (Or.inl ⟨by rfl, ?_⟩) (by assumption) ?_
            rotate_left
            · intro w _; go_simp; try with_reducible rfl
            try simp only [Act.put, List.setIfInBounds_toArray, List.set_cons_zero, List.set_cons_succ, Array.replicate]
            refine wpAnyH_take (i := 5) (v := ?_) (by simp only [List.getElem?_toArray, List.getElem?_cons_zero, List.getElem?_cons_succ] <;> rfl) (by kernel_rfl) (by kernel_rfl) (by kernel_rfl) (by intro _ _ _ h; exact h) (Or.inl ⟨by rfl, ?_⟩) (by assumption) ?_
            rotate_left
            · intro w _; go_simp; try with_reducible rfl
            try simp only [Act.put, List.setIfInBounds_toArray, List.set_cons_zero, List.set_cons_succ, Array.replicate]
            refine wpAnyH_take (i := 6) (v := ?_) (by simp only [List.getElem?_toArray, List.getElem?_cons_zero, List.getElem?_cons_succ] <;> rfl) (by kernel_rfl) (by kernel_rfl) (by kernel_rfl) (by intro _ _ _ h; exact h) (Or.inl ⟨by rfl, ?_⟩) (by assumption) ?_
            rotate_left
            · intro w _; go_simp; try with_reducible rfl
            try simp only [Act.put, List.setIfInBounds_toArray, List.set_cons_zero, List.set_cons_succ, Array.replicate]
            refine wpAnyH_take (i := 7) (v := ?_) (by simp only [List.getElem?_toArray, List.getElem?_cons_zero, List.getElem?_cons_succ] <;> rfl) (by kernel_rfl) (by kernel_rfl) (by kernel_rfl) (by intro _ _ _ h; exact h) (Or.inl ⟨by rfl, ?_⟩) (by assumption) ?_
            rotate_left
            · intro w _; go_simp; try with_reducible rfl
            try simp only [Act.put, List.setIfInBounds_toArray, List.set_cons_zero, List.set_cons_succ, Array.replicate]
            refine wpAnyH_take (i := 8) (v := ?_) (by simp only [List.getElem?_toArray, List.getElem?_cons_zero, List.getElem?_cons_succ] <;> rfl) (by kernel_rfl) (by kernel_rfl) (by kernel_rfl) (by intro _ _ _ h; exact h) (Or.inl ⟨by rfl, ?_⟩) (by assumption) ?_
            rotate_left
            · intro w hSS; have hcc := hSS.2; go_simp; try with_reducible rfl
            try simp only [Act.put, List.setIfInBounds_toArray, List.set_cons_zero, List.set_cons_succ, Array.replicate]
            refine wpAnyH_ready (rs := [4]) (by kernel_rfl) (by simp) ?_
            refine AllReadyH.cons (by simp only [List.getElem?_toArray, List.getElem?_cons_zero, List.getElem?_cons_succ] <;> rfl) (fun K hK => ?_) ?_
            · go_simp
              refine hK.out _ _ (by exact ⟨Row.alloc hHeld.1 _, bkeep (balloc (Below.refl _ _) _) hHeld.2⟩) (fun hHeld => ?_)
              clear hK K
              try simp only [Act.put, List.setIfInBounds_toArray, List.set_cons_zero, List.set_cons_succ, Array.replicate]
              refine wpAnyH_ready (rs := [9]) (by kernel_rfl) (by simp) ?_
              refine AllReadyH.cons (by simp only [List.getElem?_toArray, List.getElem?_cons_zero, List.getElem?_cons_succ] <;> rfl) (fun K hK => ?_) ?_
              · refine step_app_own Try.underlying23 info_byte (by with_unfolding_all rfl) (.tmp 84) (.tmp 88) rfl rfl (Row.new _ _ []) rfl (HSU.out.at' ((HB.out.drew).alloc (by exact hgr) _) (by omega)) (by omega) ?_; intro v7 w7 ho7 hb7
                refine hK.out _ _ (by exact ⟨Row.keep hHeld.1 hb7, bkeep hb7 hHeld.2⟩) (fun hHeld => ?_)
                clear hK K
                try simp only [Act.put, List.setIfInBounds_toArray, List.set_cons_zero, List.set_cons_succ, Array.replicate]
                refine wpAnyH_ready (rs := [10]) (by kernel_rfl) (by simp) ?_
                refine AllReadyH.cons (by simp only [List.getElem?_toArray, List.getElem?_cons_zero, List.getElem?_cons_succ] <;> rfl) (fun K hK => ?_) ?_
                · go_simp; go_at_call 9; have hd7 := HD.out.below (bstep (balloc (Below.refl _ _).drew _) hb7); refine (Write0_of p 0 _ q ⟨H, (H ++ X), false, [], [], false, 1048576, -1, false⟩ ⟨H, (H ++ X ++ q), false, [], [], false, 1048576, -1, false⟩ 0 (write_ok _ _ _ rfl (by simp) (by simp) (by simp [PD.tot]; omega)) _ hd7 (dsk_sb hd7 ho7) (by simp) (by simp; omega) (by omega) (by simp)).mono ?_; rintro e w8 ⟨rfl, hd8, hu8, hav8⟩; try go_simp
                  refine hK.out _ _ (by exact ⟨Upd.row hu8 hHeld.1 (by omega), World.grownBy.cell hu8 hHeld.2 (by simp; omega)⟩) (fun hHeld => ?_)
                  clear hK K
                  try simp only [Act.put, List.setIfInBounds_toArray, List.set_cons_zero, List.set_cons_succ, Array.replicate]
                  refine wpAnyH_done (by kernel_rfl) ?_ _
                  obtain ⟨hA8, hc8⟩ := hHeld
                  have hb78 : Below wr.heap.size wr w7 := bstep (balloc (Below.refl _ _).drew _) hb7
                  have hb8 := ub (bthen HB.out hb78 (by omega)) hu8 (by omega) (by omega)
                  have ho8 := dsk_own hd7 (HO.out.below hb78) hu8
                  have HO8 := Lib.hid ho8
                  have HD8 := Lib.hid hd8
                  have HA8 := Lib.hid hA8
                  have HB8 := Lib.hid hb8
                  clear ho8 hd8 hA8 hb8 hb78 hav8 hu8 hd7 ho7 hb7
                  go_wp2_with fail
                  exact ⟨⟨i + 1, X ++ q, by omega, by go_num, by rw [List.length_append]; omega, by rw [List.length_append]; omega, HO8.out, by rw [← List.append_assoc]; exact HD8.out, HA8.out, HB8.out⟩, by simp [intOf]; omega⟩
                exact AllReadyH.nil
              exact AllReadyH.nil
            exact AllReadyH.nil
          · have hexI : ¬ (i : Int) < (Ms.length : Int) ∨ ((i : Int) < (Ms.length : Int) ∧ ¬ (i : Int) < 50) ∨ ((i : Int) < (Ms.length : Int) ∧ (i : Int) < 50 ∧ ¬ ((Ms.getD i []).length : Int) < 5000) := by omega
            have hcell2 : i < Ms.length → ∃ b off xu cu, xm = some ⟨b, off, none⟩ ∧ wr.cell? ⟨b, off + i, none⟩ = some (.slice xu (Ms.getD i []).length cu) := by
              intro hil
              obtain ⟨b, off, rfl, -, hat⟩ := H2.out.cells (by omega)
              obtain ⟨u, hu, hsu⟩ := hat i hil
              obtain ⟨xu, cu, rfl, -⟩ := hsu.open
              exact ⟨b, off, xu, cu, rfl, bcell HB.out hu (by rw [← hg]; exact blt hu)⟩
            obtain ⟨c, hc⟩ : ∃ c, c = crashF H (H ++ X) false N o := ⟨_, rfl⟩
            have hcb : c.take H.length = H := by rw [hc]; exact crashF_begins H X N o
            have hcl : c.length ≤ 3000000 := by rw [hc]; have := crashF_len H (H ++ X) false N o; rw [List.length_append] at this; omega
            have hcr : PD.crash ⟨H, (H ++ X), false, [], [], false, 1048576, -1, false⟩ N o = ⟨c, c, false, [], [], false, 1048576, -1, false⟩ := by
              unfold PD.crash
              simp only [← hc, crashF_nil]
            clear hex hc
            rcases hexI with hx1 | ⟨hx1, hx2⟩ | ⟨hx1, hx2, hx3⟩
            · clear hcell2
              go_upto_region 17 with fail
              refine wp_region_held_drew (S := fun w' => Row w' g 25 [.int .i64 K, .int .i64 F, .int .i64 N, .slice xo o.length ko]) (by kernel_rfl) (by exact Row.drew HR.out) (fun hHeld => ?_)
              refine wpAnyH_take (i := 0) (v := ?_) (by simp only [List.getElem?_toArray, List.getElem?_cons_zero, List.getElem?_cons_succ] <;> rfl) (by kernel_rfl) (by kernel_rfl) (by kernel_rfl) (by intro _ _ _ h; exact h) (Or.inl ⟨by rfl, ?_⟩) (by assumption) ?_
              rotate_left
              · intro w _; go_simp; try with_reducible rfl
              try simp only [Act.put, List.setIfInBounds_toArray, List.set_cons_zero, List.set_cons_succ, Array.replicate]
              refine wpAnyH_take (i := 1) (v := ?_) (by simp only [List.getElem?_toArray, List.getElem?_cons_zero, List.getElem?_cons_succ] <;> rfl) (by kernel_rfl) (by kernel_rfl) (by kernel_rfl) (by intro _ _ _ h; exact h) (Or.inl ⟨by rfl, ?_⟩) (by assumption) ?_
              rotate_left
              · intro w _; go_simp; try with_reducible rfl
              try simp only [Act.put, List.setIfInBounds_toArray, List.set_cons_zero, List.set_cons_succ, Array.replicate]
              refine wpAnyH_take (i := 2) (v := ?_) (by simp only [List.getElem?_toArray, List.getElem?_cons_zero, List.getElem?_cons_succ] <;> rfl) (by kernel_rfl) (by kernel_rfl) (by kernel_rfl) (by intro _ _ _ h; exact h) (Or.inl ⟨by rfl, ?_⟩) (by assumption) ?_
              rotate_left
              · intro w hSS; have hcc := Row.cell (show Row _ g 25 [.int .i64 K, .int .i64 F, .int .i64 N, .slice xo o.length ko] from hSS) 2; simp only [List.getElem?_cons_succ, List.getElem?_cons_zero] at hcc; go_simp; try with_reducible rfl
              try simp only [Act.put, List.setIfInBounds_toArray, List.set_cons_zero, List.set_cons_succ, Array.replicate]
              refine wpAnyH_take (i := 4) (v := ?_) (by simp only [List.getElem?_toArray, List.getElem?_cons_zero, List.getElem?_cons_succ] <;> rfl) (by kernel_rfl) (by kernel_rfl) (by kernel_rfl) (by intro _ _ _ h; exact h) (Or.inl ⟨by rfl, ?_⟩) (by assumption) ?_
              rotate_left
              · intro w _; go_simp; try with_reducible rfl
              try simp only [Act.put, List.setIfInBounds_toArray, List.set_cons_zero, List.set_cons_succ, Array.replicate]
              refine wpAnyH_take (i := 5) (v := ?_) (by simp only [List.getElem?_toArray, List.getElem?_cons_zero, List.getElem?_cons_succ] <;> rfl) (by kernel_rfl) (by kernel_rfl) (by kernel_rfl) (by intro _ _ _ h; exact h) (Or.inl ⟨by rfl, ?_⟩) (by assumption) ?_
              rotate_left
              · intro w hSS; have hcc := Row.cell (show Row _ g 25 [.int .i64 K, .int .i64 F, .int .i64 N, .slice xo o.length ko] from hSS) 3; simp only [List.getElem?_cons_succ, List.getElem?_cons_zero] at hcc; go_simp; try with_reducible rfl
              try simp only [Act.put, List.setIfInBounds_toArray, List.set_cons_zero, List.set_cons_succ, Array.replicate]
              refine wpAnyH_ready (rs := [3]) (by kernel_rfl) (by simp) ?_
              refine AllReadyH.cons (by simp only [List.getElem?_toArray, List.getElem?_cons_zero, List.getElem?_cons_succ] <;> rfl) (fun K hK => ?_) ?_
              · go_simp
                refine hK.out _ _ (by exact Row.alloc hHeld _) (fun hHeld => ?_)
                clear hK K
                try simp only [Act.put, List.setIfInBounds_toArray, List.set_cons_zero, List.set_cons_succ, Array.replicate]
                refine wpAnyH_ready (rs := [6]) (by kernel_rfl) (by simp) ?_
                refine AllReadyH.cons (by simp only [List.getElem?_toArray, List.getElem?_cons_zero, List.getElem?_cons_succ] <;> rfl) (fun K hK => ?_) ?_
                · refine step_app_own Try.underlying23 info_byte (by with_unfolding_all rfl) (.tmp 94) (.tmp 96) rfl rfl (Row.new _ _ []) rfl (H3.out.at' ((HB.out.drew).alloc (by exact hgr) _) (by omega)) (by omega) ?_; intro v7 w7 ho7 hb7
                  refine hK.out _ _ (by exact Row.keep hHeld hb7) (fun hHeld => ?_)
                  clear hK K
                  try simp only [Act.put, List.setIfInBounds_toArray, List.set_cons_zero, List.set_cons_succ, Array.replicate]
                  refine wpAnyH_ready (rs := [7]) (by kernel_rfl) (by simp) ?_
                  refine AllReadyH.cons (by simp only [List.getElem?_toArray, List.getElem?_cons_zero, List.getElem?_cons_succ] <;> rfl) (fun K hK => ?_) ?_
                  · go_simp; go_at_call 11; have hd7 := HD.out.below (bstep (balloc (Below.refl _ _).drew _) hb7); refine (Crash_of p N _ o _ ⟨c, c, false, [], [], false, 1048576, -1, false⟩ hcr _ hd7 (dsk_sb hd7 ho7) (by simp; omega) (by intro _; omega)).mono ?_; rintro e w8 ⟨rfl, hd8, hu8⟩; try go_simp
                    refine hK.out _ _ (by exact Upd.row hu8 hHeld (by omega)) (fun hHeld => ?_)
                    clear hK K
                    try simp only [Act.put, List.setIfInBounds_toArray, List.set_cons_zero, List.set_cons_succ, Array.replicate]
                    refine wpAnyH_done (by kernel_rfl) ?_ _
                    have hb78 : Below wr.heap.size wr w7 := bstep (balloc (Below.refl _ _).drew _) hb7
                    have hb8 := ub (bthen HB.out hb78 (by omega)) hu8 (by omega) (by omega)
                    have ho8 := dsk_own hd7 (HO.out.below hb78) hu8
                    have hF8 := Row.cell hHeld 1
                    simp only [List.getElem?_cons_succ, List.getElem?_cons_zero] at hF8
                    clear hu8 hd7 ho7 hb7 hb78
                    go_wp2_with fail
                    refine (Read_of p 0 _ c 0 rfl _ hd8 (by simp; omega)).mono ?_; rintro e w9 ⟨v9, rfl, ho9, hb9⟩
                    have hb09 := bthen hb8 hb9 (by have := hb8.size; omega)
                    go_wp2_with (first
                      | (go_at_call 13; refine (begins_yes _ _ c H _ ho9.sh (ho8.sh.below hb9) hcb).mono ?_; rintro e w10 ⟨rfl, hb10⟩)
                      | (go_at_call 14; refine (lives14 _).mono ?_; rintro e w11 ⟨rfl, hb11⟩))
                    go_ret
                    rw [← hg] at hb09
                    exact ⟨rfl, bthen (bthen hb09 hb10 (Nat.le_refl _)) hb11 (Nat.le_refl _)⟩
                  exact AllReadyH.nil
                exact AllReadyH.nil
              exact AllReadyH.nil
            · clear hcell2
              go_upto_region 17 with fail
              refine wp_region_held_drew (S := fun w' => Row w' g 25 [.int .i64 K, .int .i64 F, .int .i64 N, .slice xo o.length ko]) (by kernel_rfl) (by exact Row.drew HR.out) (fun hHeld => ?_)
              refine wpAnyH_take (i := 0) (v := ?_) (by simp only [List.getElem?_toArray, List.getElem?_cons_zero, List.getElem?_cons_succ] <;> rfl) (by kernel_rfl) (by kernel_rfl) (by kernel_rfl) (by intro _ _ _ h; exact h) (Or.inl ⟨by rfl, ?_⟩) (by assumption) ?_
              rotate_left
              · intro w _; go_simp; try with_reducible rfl
              try simp only [Act.put, List.setIfInBounds_toArray, List.set_cons_zero, List.set_cons_succ, Array.replicate]
              refine wpAnyH_take (i := 1) (v := ?_) (by simp only [List.getElem?_toArray, List.getElem?_cons_zero, List.getElem?_cons_succ] <;> rfl) (by kernel_rfl) (by kernel_rfl) (by kernel_rfl) (by intro _ _ _ h; exact h) (Or.inl ⟨by rfl, ?_⟩) (by assumption) ?_
              rotate_left
              · intro w _; go_simp; try with_reducible rfl
              try simp only [Act.put, List.setIfInBounds_toArray, List.set_cons_zero, List.set_cons_succ, Array.replicate]
              refine wpAnyH_take (i := 2) (v := ?_) (by simp only [List.getElem?_toArray, List.getElem?_cons_zero, List.getElem?_cons_succ] <;> rfl) (by kernel_rfl) (by kernel_rfl) (by kernel_rfl) (by intro _ _ _ h; exact h) (Or.inl ⟨by rfl, ?_⟩) (by assumption) ?_
              rotate_left
              · intro w hSS; have hcc := Row.cell (show Row _ g 25 [.int .i64 K, .int .i64 F, .int .i64 N, .slice xo o.length ko] from hSS) 2; simp only [List.getElem?_cons_succ, List.getElem?_cons_zero] at hcc; go_simp; try with_reducible rfl
              try simp only [Act.put, List.setIfInBounds_toArray, List.set_cons_zero, List.set_cons_succ, Array.replicate]
              refine wpAnyH_take (i := 4) (v := ?_) (by simp only [List.getElem?_toArray, List.getElem?_cons_zero, List.getElem?_cons_succ] <;> rfl) (by kernel_rfl) (by kernel_rfl) (by kernel_rfl) (by intro _ _ _ h; exact h) (Or.inl ⟨by rfl, ?_⟩) (by assumption) ?_
              rotate_left
              · intro w _; go_simp; try with_reducible rfl
              try simp only [Act.put, List.setIfInBounds_toArray, List.set_cons_zero, List.set_cons_succ, Array.replicate]
              refine wpAnyH_take (i := 5) (v := ?_) (by simp only [List.getElem?_toArray, List.getElem?_cons_zero, List.getElem?_cons_succ] <;> rfl) (by kernel_rfl) (by kernel_rfl) (by kernel_rfl) (by intro _ _ _ h; exact h) (Or.inl ⟨by rfl, ?_⟩) (by assumption) ?_
              rotate_left
              · intro w hSS; have hcc := Row.cell (show Row _ g 25 [.int .i64 K, .int .i64 F, .int .i64 N, .slice xo o.length ko] from hSS) 3; simp only [List.getElem?_cons_succ, List.getElem?_cons_zero] at hcc; go_simp; try with_reducible rfl
              try simp only [Act.put, List.setIfInBounds_toArray, List.set_cons_zero, List.set_cons_succ, Array.replicate]
              refine wpAnyH_ready (rs := [3]) (by kernel_rfl) (by simp) ?_
              refine AllReadyH.cons (by simp only [List.getElem?_toArray, List.getElem?_cons_zero, List.getElem?_cons_succ] <;> rfl) (fun K hK => ?_) ?_
              · go_simp
                refine hK.out _ _ (by exact Row.alloc hHeld _) (fun hHeld => ?_)
                clear hK K
                try simp only [Act.put, List.setIfInBounds_toArray, List.set_cons_zero, List.set_cons_succ, Array.replicate]
                refine wpAnyH_ready (rs := [6]) (by kernel_rfl) (by simp) ?_
                refine AllReadyH.cons (by simp only [List.getElem?_toArray, List.getElem?_cons_zero, List.getElem?_cons_succ] <;> rfl) (fun K hK => ?_) ?_
                · refine step_app_own Try.underlying23 info_byte (by with_unfolding_all rfl) (.tmp 94) (.tmp 96) rfl rfl (Row.new _ _ []) rfl (H3.out.at' ((HB.out.drew).alloc (by exact hgr) _) (by omega)) (by omega) ?_; intro v7 w7 ho7 hb7
                  refine hK.out _ _ (by exact Row.keep hHeld hb7) (fun hHeld => ?_)
                  clear hK K
                  try simp only [Act.put, List.setIfInBounds_toArray, List.set_cons_zero, List.set_cons_succ, Array.replicate]
                  refine wpAnyH_ready (rs := [7]) (by kernel_rfl) (by simp) ?_
                  refine AllReadyH.cons (by simp only [List.getElem?_toArray, List.getElem?_cons_zero, List.getElem?_cons_succ] <;> rfl) (fun K hK => ?_) ?_
                  · go_simp; go_at_call 11; have hd7 := HD.out.below (bstep (balloc (Below.refl _ _).drew _) hb7); refine (Crash_of p N _ o _ ⟨c, c, false, [], [], false, 1048576, -1, false⟩ hcr _ hd7 (dsk_sb hd7 ho7) (by simp; omega) (by intro _; omega)).mono ?_; rintro e w8 ⟨rfl, hd8, hu8⟩; try go_simp
                    refine hK.out _ _ (by exact Upd.row hu8 hHeld (by omega)) (fun hHeld => ?_)
                    clear hK K
                    try simp only [Act.put, List.setIfInBounds_toArray, List.set_cons_zero, List.set_cons_succ, Array.replicate]
                    refine wpAnyH_done (by kernel_rfl) ?_ _
                    have hb78 : Below wr.heap.size wr w7 := bstep (balloc (Below.refl _ _).drew _) hb7
                    have hb8 := ub (bthen HB.out hb78 (by omega)) hu8 (by omega) (by omega)
                    have ho8 := dsk_own hd7 (HO.out.below hb78) hu8
                    have hF8 := Row.cell hHeld 1
                    simp only [List.getElem?_cons_succ, List.getElem?_cons_zero] at hF8
                    clear hu8 hd7 ho7 hb7 hb78
                    go_wp2_with fail
                    refine (Read_of p 0 _ c 0 rfl _ hd8 (by simp; omega)).mono ?_; rintro e w9 ⟨v9, rfl, ho9, hb9⟩
                    have hb09 := bthen hb8 hb9 (by have := hb8.size; omega)
                    go_wp2_with (first
                      | (go_at_call 13; refine (begins_yes _ _ c H _ ho9.sh (ho8.sh.below hb9) hcb).mono ?_; rintro e w10 ⟨rfl, hb10⟩)
                      | (go_at_call 14; refine (lives14 _).mono ?_; rintro e w11 ⟨rfl, hb11⟩))
                    go_ret
                    rw [← hg] at hb09
                    exact ⟨rfl, bthen (bthen hb09 hb10 (Nat.le_refl _)) hb11 (Nat.le_refl _)⟩
                  exact AllReadyH.nil
                exact AllReadyH.nil
              exact AllReadyH.nil
            · obtain ⟨b, off, xu, cu, rfl, hcu⟩ := hcell2 (by omega)
              generalize (Ms.getD i []).length = D at *
              go_upto_region 17 with fail
              clear hcu
              refine wp_region_held_drew (S := fun w' => Row w' g 25 [.int .i64 K, .int .i64 F, .int .i64 N, .slice xo o.length ko]) (by kernel_rfl) (by exact Row.drew HR.out) (fun hHeld => ?_)
              refine wpAnyH_take (i := 0) (v := ?_) (by simp only [List.getElem?_toArray, List.getElem?_cons_zero, List.getElem?_cons_succ] <;> rfl) (by kernel_rfl) (by kernel_rfl) (by kernel_rfl) (by intro _ _ _ h; exact h) (Or.inl ⟨by rfl, ?_⟩) (by assumption) ?_
              rotate_left
              · intro w _; go_simp; try with_reducible rfl
              try simp only [Act.put, List.setIfInBounds_toArray, List.set_cons_zero, List.set_cons_succ, Array.replicate]
              refine wpAnyH_take (i := 1) (v := ?_) (by simp only [List.getElem?_toArray, List.getElem?_cons_zero, List.getElem?_cons_succ] <;> rfl) (by kernel_rfl) (by kernel_rfl) (by kernel_rfl) (by intro _ _ _ h; exact h) (Or.inl ⟨by rfl, ?_⟩) (by assumption) ?_
              rotate_left
              · intro w _; go_simp; try with_reducible rfl
              try simp only [Act.put, List.setIfInBounds_toArray, List.set_cons_zero, List.set_cons_succ, Array.replicate]
              refine wpAnyH_take (i := 2) (v := ?_) (by simp only [List.getElem?_toArray, List.getElem?_cons_zero, List.getElem?_cons_succ] <;> rfl) (by kernel_rfl) (by kernel_rfl) (by kernel_rfl) (by intro _ _ _ h; exact h) (Or.inl ⟨by rfl, ?_⟩) (by assumption) ?_
              rotate_left
              · intro w hSS; have hcc := Row.cell (show Row _ g 25 [.int .i64 K, .int .i64 F, .int .i64 N, .slice xo o.length ko] from hSS) 2; simp only [List.getElem?_cons_succ, List.getElem?_cons_zero] at hcc; go_simp; try with_reducible rfl
              try simp only [Act.put, List.setIfInBounds_toArray, List.set_cons_zero, List.set_cons_succ, Array.replicate]
              refine wpAnyH_take (i := 4) (v := ?_) (by simp only [List.getElem?_toArray, List.getElem?_cons_zero, List.getElem?_cons_succ] <;> rfl) (by kernel_rfl) (by kernel_rfl) (by kernel_rfl) (by intro _ _ _ h; exact h) (Or.inl ⟨by rfl, ?_⟩) (by assumption) ?_
              rotate_left
              · intro w _; go_simp; try with_reducible rfl
              try simp only [Act.put, List.setIfInBounds_toArray, List.set_cons_zero, List.set_cons_succ, Array.replicate]
              refine wpAnyH_take (i := 5) (v := ?_) (by simp only [List.getElem?_toArray, List.getElem?_cons_zero, List.getElem?_cons_succ] <;> rfl) (by kernel_rfl) (by kernel_rfl) (by kernel_rfl) (by intro _ _ _ h; exact h) (Or.inl ⟨by rfl, ?_⟩) (by assumption) ?_
              rotate_left
              · intro w hSS; have hcc := Row.cell (show Row _ g 25 [.int .i64 K, .int .i64 F, .int .i64 N, .slice xo o.length ko] from hSS) 3; simp only [List.getElem?_cons_succ, List.getElem?_cons_zero] at hcc; go_simp; try with_reducible rfl
              try simp only [Act.put, List.setIfInBounds_toArray, List.set_cons_zero, List.set_cons_succ, Array.replicate]
              refine wpAnyH_ready (rs := [3]) (by kernel_rfl) (by simp) ?_
              refine AllReadyH.cons (by simp only [List.getElem?_toArray, List.getElem?_cons_zero, List.getElem?_cons_succ] <;> rfl) (fun K hK => ?_) ?_
              · go_simp
                refine hK.out _ _ (by exact Row.alloc hHeld _) (fun hHeld => ?_)
                clear hK K
                try simp only [Act.put, List.setIfInBounds_toArray, List.set_cons_zero, List.set_cons_succ, Array.replicate]
                refine wpAnyH_ready (rs := [6]) (by kernel_rfl) (by simp) ?_
                refine AllReadyH.cons (by simp only [List.getElem?_toArray, List.getElem?_cons_zero, List.getElem?_cons_succ] <;> rfl) (fun K hK => ?_) ?_
                · refine step_app_own Try.underlying23 info_byte (by with_unfolding_all rfl) (.tmp 94) (.tmp 96) rfl rfl (Row.new _ _ []) rfl (H3.out.at' ((HB.out.drew).alloc (by exact hgr) _) (by omega)) (by omega) ?_; intro v7 w7 ho7 hb7
                  refine hK.out _ _ (by exact Row.keep hHeld hb7) (fun hHeld => ?_)
                  clear hK K
                  try simp only [Act.put, List.setIfInBounds_toArray, List.set_cons_zero, List.set_cons_succ, Array.replicate]
                  refine wpAnyH_ready (rs := [7]) (by kernel_rfl) (by simp) ?_
                  refine AllReadyH.cons (by simp only [List.getElem?_toArray, List.getElem?_cons_zero, List.getElem?_cons_succ] <;> rfl) (fun K hK => ?_) ?_
                  · go_simp; go_at_call 11; have hd7 := HD.out.below (bstep (balloc (Below.refl _ _).drew _) hb7); refine (Crash_of p N _ o _ ⟨c, c, false, [], [], false, 1048576, -1, false⟩ hcr _ hd7 (dsk_sb hd7 ho7) (by simp; omega) (by intro _; omega)).mono ?_; rintro e w8 ⟨rfl, hd8, hu8⟩; try go_simp
                    refine hK.out _ _ (by exact Upd.row hu8 hHeld (by omega)) (fun hHeld => ?_)
                    clear hK K
                    try simp only [Act.put, List.setIfInBounds_toArray, List.set_cons_zero, List.set_cons_succ, Array.replicate]
                    refine wpAnyH_done (by kernel_rfl) ?_ _
                    have hb78 : Below wr.heap.size wr w7 := bstep (balloc (Below.refl _ _).drew _) hb7
                    have hb8 := ub (bthen HB.out hb78 (by omega)) hu8 (by omega) (by omega)
                    have ho8 := dsk_own hd7 (HO.out.below hb78) hu8
                    have hF8 := Row.cell hHeld 1
                    simp only [List.getElem?_cons_succ, List.getElem?_cons_zero] at hF8
                    clear hu8 hd7 ho7 hb7 hb78
                    go_wp2_with fail
                    refine (Read_of p 0 _ c 0 rfl _ hd8 (by simp; omega)).mono ?_; rintro e w9 ⟨v9, rfl, ho9, hb9⟩
                    have hb09 := bthen hb8 hb9 (by have := hb8.size; omega)
                    go_wp2_with (first
                      | (go_at_call 13; refine (begins_yes _ _ c H _ ho9.sh (ho8.sh.below hb9) hcb).mono ?_; rintro e w10 ⟨rfl, hb10⟩)
                      | (go_at_call 14; refine (lives14 _).mono ?_; rintro e w11 ⟨rfl, hb11⟩))
                    go_ret
                    rw [← hg] at hb09
                    exact ⟨rfl, bthen (bthen hb09 hb10 (Nat.le_refl _)) hb11 (Nat.le_refl _)⟩
                  exact AllReadyH.nil
                exact AllReadyH.nil
              exact AllReadyH.nil
      · obtain ⟨b, off, xu, cu, rfl, hcu⟩ := hcell (by omega)
        have hql2 := hql (by omega)
        clear hcell hql
        generalize (Ls.getD j []).length = D at *
        go_wp2_with fail
        clear hcu
        refine (Sync_of p 0 _ ⟨H, H, false, [], [], false, 1048576, -1, false⟩ 0 (sync_ok _ _ rfl (by simp) (by simp)) _ HD.out (by simp) (by simp; omega) (by simp)).mono ?_; rintro e w3 ⟨rfl, hd3, hu3⟩
        have hR3 := hu3.row HR.out (by omega)
        have hb3 := ub HB.out hu3 (by omega) (by omega)
        have ho3 := dsk_own HD.out HO.out hu3
        have HO3 := Lib.hid ho3
        have HD3 := Lib.hid hd3
        have HR3 := Lib.hid hR3
        have HB3 := Lib.hid hb3
        clear hd3 hu3 hR3 hb3 hc1 ho3 HAV HO HD HR HB
        go_wp2_with fail
        go_loopw [10] (fun iv wr => ∃ (i : Nat) (X : List UInt8), i ≤ Ms.length ∧ iv = .int .i64 (i : Int) ∧ X.length ≤ 5000 * i ∧ X.length ≤ 250000 ∧ Own wr 0 5 (.slice (some ⟨h, 0, none⟩) H.length cap) H ∧ Dsk wr p ⟨H, (H ++ X), false, [], [], false, 1048576, -1, false⟩ ∧ Row wr g 25 [.int .i64 K, .int .i64 F, .int .i64 N, .slice xo o.length ko] ∧ Below g w wr) (fun iv _ => Ms.length - (intOf iv).toNat)
        case atStart => exact ⟨0, [], by omega, rfl, by simp, by simp, HO3.out, by rw [List.append_nil]; exact HD3.out, HR3.out, HB3.out⟩
        case round =>
          obtain ⟨i, X, hi, rfl, hXi, hXl, ho, hd, hR, hb⟩ := hrel
          have HO := Lib.hid ho
          have HD := Lib.hid hd
          have HR := Lib.hid hR
          have HB := Lib.hid hb
          have hgr : g ≤ wr.heap.size := by have := hb.size; omega
          clear ho hd hR hb HO3 HD3 HR3 HB3
          have hcase : (i < Ms.length ∧ i < 50 ∧ (Ms.getD i []).length < 5000) ∨ i = Ms.length ∨ (i < Ms.length ∧ ¬ i < 50) ∨ (i < Ms.length ∧ i < 50 ∧ ¬ (Ms.getD i []).length < 5000) := by omega
          rcases hcase with ⟨hil, hi50, hfit⟩ | hex
          · obtain ⟨b, off, rfl, -, hat⟩ := H2.out.cells (by omega)
            obtain ⟨u, hu, hsu⟩ := hat i hil
            have hbg : b < g := by rw [← hg]; exact blt hu
            have hu' := bcell HB.out hu (by omega)
            have HSU := Lib.hid hsu
            clear hsu hu hat
            generalize Ms.getD i [] = q at *
            obtain ⟨xu, cu, rfl, -⟩ := HSU.out.open
            have hiI : (i : Int) < (Ms.length : Int) := by omega
            have hi50I : (i : Int) < 50 := by omega
            have hfitI : (q.length : Int) < 5000 := by omega
            go_upto_region 16 with fail
            refine wp_region_held_drew (S := fun w' => Row w' g 25 [.int .i64 K, .int .i64 F, .int .i64 N, .slice xo o.length ko] ∧ w'.cell? ⟨b, off + i, none⟩ = some (.slice xu q.length cu)) (by kernel_rfl) (by exact ⟨Row.drew HR.out, hu'⟩) (fun hHeld => ?_)
            refine wpAnyH_take (i := 0) (v := ?_) (by simp only [List.getElem?_toArray, List.getElem?_cons_zero, List.getElem?_cons_succ] <;> rfl) (by kernel_rfl) (by kernel_rfl) (by kernel_rfl) (by intro _ _ _ h; exact h) (Or.inl ⟨by rfl, ?_⟩) (by assumption) ?_
            rotate_left
            · intro w _; go_simp; try with_reducible rfl
            try simp only [Act.put, List.setIfInBounds_toArray, List.set_cons_zero, List.set_cons_succ, Array.replicate]
            refine wpAnyH_take (i := 1) (v := ?_) (by simp only [List.getElem?_toArray, List.getElem?_cons_zero, List.getElem?_cons_succ] <;> rfl) (by kernel_rfl) (by kernel_rfl) (by kernel_rfl) (by intro _ _ _ h; exact h) (Or.inl ⟨by rfl, ?_⟩) (by assumption) ?_
            rotate_left
            · intro w _; go_simp; try with_reducible rfl
            try simp only [Act.put, List.setIfInBounds_toArray, List.set_cons_zero, List.set_cons_succ, Array.replicate]
            refine wpAnyH_take (i := 2) (v := ?_) (by simp only [List.getElem?_toArray, List.getElem?_cons_zero, List.getElem?_cons_succ] <;> rfl) (by kernel_rfl) (by kernel_rfl) (by kernel_rfl) (by intro _ _ _ h; exact h) (Or.inl ⟨by rfl, ?_⟩) (by assumption) ?_
            rotate_left
            · intro w hSS; have hcc := Row.cell (show Row _ g 25 [.int .i64 K, .int .i64 F, .int .i64 N, .slice xo o.length ko] from hSS.1) 1; simp only [List.getElem?_cons_succ, List.getElem?_cons_zero] at hcc; go_simp; try with_reducible rfl
            try simp only [Act.put, List.setIfInBounds_toArray, List.set_cons_zero, List.set_cons_succ, Array.replicate]
            refine wpAnyH_take (i := 3) (v := ?_) (by simp only [List.getElem?_toArray, List.getElem?_cons_zero, List.getElem?_cons_succ] <;> rfl) (by kernel_rfl) (by kernel_rfl) (by kernel_rfl) (by intro _ _ _ h; exact h) (Or.inl ⟨by rfl, ?_⟩) (by assumption) ?_
            rotate_left
            · intro w _; go_simp; try with_reducible rfl
            try simp only [Act.put, List.setIfInBounds_toArray, List.set_cons_zero, List.set_cons_succ, Array.replicate]
            refine wpAnyH_take (i := 5) (v := ?_) (by simp only [List.getElem?_toArray, List.getElem?_cons_zero, List.getElem?_cons_succ] <;> rfl) (by kernel_rfl) (by kernel_rfl) (by kernel_rfl) (by intro _ _ _ h; exact h) (Or.inl ⟨by rfl, ?_⟩) (by assumption) ?_
            rotate_left
            · intro w _; go_simp; try with_reducible rfl
            try simp only [Act.put, List.setIfInBounds_toArray, List.set_cons_zero, List.set_cons_succ, Array.replicate]
            refine wpAnyH_take (i := 6) (v := ?_) (by simp only [List.getElem?_toArray, List.getElem?_cons_zero, List.getElem?_cons_succ] <;> rfl) (by kernel_rfl) (by kernel_rfl) (by kernel_rfl) (by intro _ _ _ h; exact h) (Or.inl ⟨by rfl, ?_⟩) (by assumption) ?_
            rotate_left
            · intro w _; go_simp; try with_reducible rfl
            try simp only [Act.put, List.setIfInBounds_toArray, List.set_cons_zero, List.set_cons_succ, Array.replicate]
            refine wpAnyH_take (i := 7) (v := ?_) (by simp only [List.getElem?_toArray, List.getElem?_cons_zero, List.getElem?_cons_succ] <;> rfl) (by kernel_rfl) (by kernel_rfl) (by kernel_rfl) (by intro _ _ _ h; exact h) (Or.inl ⟨by rfl, ?_⟩) (by assumption) ?_
            rotate_left
            · intro w _; go_simp; try with_reducible rfl
            try simp only [Act.put, List.setIfInBounds_toArray, List.set_cons_zero, List.set_cons_succ, Array.replicate]
            refine wpAnyH_take (i := 8) (v := ?_) (by simp only [List.getElem?_toArray, List.getElem?_cons_zero, List.getElem?_cons_succ] <;> rfl) (by kernel_rfl) (by kernel_rfl) (by kernel_rfl) (by intro _ _ _ h; exact h) (Or.inl ⟨by rfl, ?_⟩) (by assumption) ?_
            rotate_left
            · intro w hSS; have hcc := hSS.2; go_simp; try with_reducible rfl
            try simp only [Act.put, List.setIfInBounds_toArray, List.set_cons_zero, List.set_cons_succ, Array.replicate]
            refine wpAnyH_ready (rs := [4]) (by kernel_rfl) (by simp) ?_
            refine AllReadyH.cons (by simp only [List.getElem?_toArray, List.getElem?_cons_zero, List.getElem?_cons_succ] <;> rfl) (fun K hK => ?_) ?_
            · go_simp
              refine hK.out _ _ (by exact ⟨Row.alloc hHeld.1 _, bkeep (balloc (Below.refl _ _) _) hHeld.2⟩) (fun hHeld => ?_)
              clear hK K
              try simp only [Act.put, List.setIfInBounds_toArray, List.set_cons_zero, List.set_cons_succ, Array.replicate]
              refine wpAnyH_ready (rs := [9]) (by kernel_rfl) (by simp) ?_
              refine AllReadyH.cons (by simp only [List.getElem?_toArray, List.getElem?_cons_zero, List.getElem?_cons_succ] <;> rfl) (fun K hK => ?_) ?_
              · refine step_app_own Try.underlying23 info_byte (by with_unfolding_all rfl) (.tmp 84) (.tmp 88) rfl rfl (Row.new _ _ []) rfl (HSU.out.at' ((HB.out.drew).alloc (by exact hgr) _) (by omega)) (by omega) ?_; intro v7 w7 ho7 hb7
                refine hK.out _ _ (by exact ⟨Row.keep hHeld.1 hb7, bkeep hb7 hHeld.2⟩) (fun hHeld => ?_)
                clear hK K
                try simp only [Act.put, List.setIfInBounds_toArray, List.set_cons_zero, List.set_cons_succ, Array.replicate]
                refine wpAnyH_ready (rs := [10]) (by kernel_rfl) (by simp) ?_
                refine AllReadyH.cons (by simp only [List.getElem?_toArray, List.getElem?_cons_zero, List.getElem?_cons_succ] <;> rfl) (fun K hK => ?_) ?_
                · go_simp; go_at_call 9; have hd7 := HD.out.below (bstep (balloc (Below.refl _ _).drew _) hb7); refine (Write0_of p 0 _ q ⟨H, (H ++ X), false, [], [], false, 1048576, -1, false⟩ ⟨H, (H ++ X ++ q), false, [], [], false, 1048576, -1, false⟩ 0 (write_ok _ _ _ rfl (by simp) (by simp) (by simp [PD.tot]; omega)) _ hd7 (dsk_sb hd7 ho7) (by simp) (by simp; omega) (by omega) (by simp)).mono ?_; rintro e w8 ⟨rfl, hd8, hu8, hav8⟩; try go_simp
                  refine hK.out _ _ (by exact ⟨Upd.row hu8 hHeld.1 (by omega), World.grownBy.cell hu8 hHeld.2 (by simp; omega)⟩) (fun hHeld => ?_)
                  clear hK K
                  try simp only [Act.put, List.setIfInBounds_toArray, List.set_cons_zero, List.set_cons_succ, Array.replicate]
                  refine wpAnyH_done (by kernel_rfl) ?_ _
                  obtain ⟨hA8, hc8⟩ := hHeld
                  have hb78 : Below wr.heap.size wr w7 := bstep (balloc (Below.refl _ _).drew _) hb7
                  have hb8 := ub (bthen HB.out hb78 (by omega)) hu8 (by omega) (by omega)
                  have ho8 := dsk_own hd7 (HO.out.below hb78) hu8
                  have HO8 := Lib.hid ho8
                  have HD8 := Lib.hid hd8
                  have HA8 := Lib.hid hA8
                  have HB8 := Lib.hid hb8
                  clear ho8 hd8 hA8 hb8 hb78 hav8 hu8 hd7 ho7 hb7
                  go_wp2_with fail
                  exact ⟨⟨i + 1, X ++ q, by omega, by go_num, by rw [List.length_append]; omega, by rw [List.length_append]; omega, HO8.out, by rw [← List.append_assoc]; exact HD8.out, HA8.out, HB8.out⟩, by simp [intOf]; omega⟩
                exact AllReadyH.nil
              exact AllReadyH.nil
            exact AllReadyH.nil
          · have hexI : ¬ (i : Int) < (Ms.length : Int) ∨ ((i : Int) < (Ms.length : Int) ∧ ¬ (i : Int) < 50) ∨ ((i : Int) < (Ms.length : Int) ∧ (i : Int) < 50 ∧ ¬ ((Ms.getD i []).length : Int) < 5000) := by omega
            have hcell2 : i < Ms.length → ∃ b off xu cu, xm = some ⟨b, off, none⟩ ∧ wr.cell? ⟨b, off + i, none⟩ = some (.slice xu (Ms.getD i []).length cu) := by
              intro hil
              obtain ⟨b, off, rfl, -, hat⟩ := H2.out.cells (by omega)
              obtain ⟨u, hu, hsu⟩ := hat i hil
              obtain ⟨xu, cu, rfl, -⟩ := hsu.open
              exact ⟨b, off, xu, cu, rfl, bcell HB.out hu (by rw [← hg]; exact blt hu)⟩
            obtain ⟨c, hc⟩ : ∃ c, c = crashF H (H ++ X) false N o := ⟨_, rfl⟩
            have hcb : c.take H.length = H := by rw [hc]; exact crashF_begins H X N o
            have hcl : c.length ≤ 3000000 := by rw [hc]; have := crashF_len H (H ++ X) false N o; rw [List.length_append] at this; omega
            have hcr : PD.crash ⟨H, (H ++ X), false, [], [], false, 1048576, -1, false⟩ N o = ⟨c, c, false, [], [], false, 1048576, -1, false⟩ := by
              unfold PD.crash
              simp only [← hc, crashF_nil]
            clear hex hc
            rcases hexI with hx1 | ⟨hx1, hx2⟩ | ⟨hx1, hx2, hx3⟩
            · clear hcell2
              go_upto_region 17 with fail
              refine wp_region_held_drew (S := fun w' => Row w' g 25 [.int .i64 K, .int .i64 F, .int .i64 N, .slice xo o.length ko]) (by kernel_rfl) (by exact Row.drew HR.out) (fun hHeld => ?_)
              refine wpAnyH_take (i := 0) (v := ?_) (by simp only [List.getElem?_toArray, List.getElem?_cons_zero, List.getElem?_cons_succ] <;> rfl) (by kernel_rfl) (by kernel_rfl) (by kernel_rfl) (by intro _ _ _ h; exact h) (Or.inl ⟨by rfl, ?_⟩) (by assumption) ?_
              rotate_left
              · intro w _; go_simp; try with_reducible rfl
              try simp only [Act.put, List.setIfInBounds_toArray, List.set_cons_zero, List.set_cons_succ, Array.replicate]
              refine wpAnyH_take (i := 1) (v := ?_) (by simp only [List.getElem?_toArray, List.getElem?_cons_zero, List.getElem?_cons_succ] <;> rfl) (by kernel_rfl) (by kernel_rfl) (by kernel_rfl) (by intro _ _ _ h; exact h) (Or.inl ⟨by rfl, ?_⟩) (by assumption) ?_
              rotate_left
              · intro w _; go_simp; try with_reducible rfl
              try simp only [Act.put, List.setIfInBounds_toArray, List.set_cons_zero, List.set_cons_succ, Array.replicate]
              refine wpAnyH_take (i := 2) (v := ?_) (by simp only [List.getElem?_toArray, List.getElem?_cons_zero, List.getElem?_cons_succ] <;> rfl) (by kernel_rfl) (by kernel_rfl) (by kernel_rfl) (by intro _ _ _ h; exact h) (Or.inl ⟨by rfl, ?_⟩) (by assumption) ?_
              rotate_left
              · intro w hSS; have hcc := Row.cell (show Row _ g 25 [.int .i64 K, .int .i64 F, .int .i64 N, .slice xo o.length ko] from hSS) 2; simp only [List.getElem?_cons_succ, List.getElem?_cons_zero] at hcc; go_simp; try with_reducible rfl
              try simp only [Act.put, List.setIfInBounds_toArray, List.set_cons_zero, List.set_cons_succ, Array.replicate]
              refine wpAnyH_take (i := 4) (v := ?_) (by simp only [List.getElem?_toArray, List.getElem?_cons_zero, List.getElem?_cons_succ] <;> rfl) (by kernel_rfl) (by kernel_rfl) (by kernel_rfl) (by intro _ _ _ h; exact h) (Or.inl ⟨by rfl, ?_⟩) (by assumption) ?_
              rotate_left
              · intro w _; go_simp; try with_reducible rfl
              try simp only [Act.put, List.setIfInBounds_toArray, List.set_cons_zero, List.set_cons_succ, Array.replicate]
              refine wpAnyH_take (i := 5) (v := ?_) (by simp only [List.getElem?_toArray, List.getElem?_cons_zero, List.getElem?_cons_succ] <;> rfl) (by kernel_rfl) (by kernel_rfl) (by kernel_rfl) (by intro _ _ _ h; exact h) (Or.inl ⟨by rfl, ?_⟩) (by assumption) ?_
              rotate_left
              · intro w hSS; have hcc := Row.cell (show Row _ g 25 [.int .i64 K, .int .i64 F, .int .i64 N, .slice xo o.length ko] from hSS) 3; simp only [List.getElem?_cons_succ, List.getElem?_cons_zero] at hcc; go_simp; try with_reducible rfl
              try simp only [Act.put, List.setIfInBounds_toArray, List.set_cons_zero, List.set_cons_succ, Array.replicate]
              refine wpAnyH_ready (rs := [3]) (by kernel_rfl) (by simp) ?_
              refine AllReadyH.cons (by simp only [List.getElem?_toArray, List.getElem?_cons_zero, List.getElem?_cons_succ] <;> rfl) (fun K hK => ?_) ?_
              · go_simp
                refine hK.out _ _ (by exact Row.alloc hHeld _) (fun hHeld => ?_)
                clear hK K
                try simp only [Act.put, List.setIfInBounds_toArray, List.set_cons_zero, List.set_cons_succ, Array.replicate]
                refine wpAnyH_ready (rs := [6]) (by kernel_rfl) (by simp) ?_
                refine AllReadyH.cons (by simp only [List.getElem?_toArray, List.getElem?_cons_zero, List.getElem?_cons_succ] <;> rfl) (fun K hK => ?_) ?_
                · refine step_app_own Try.underlying23 info_byte (by with_unfolding_all rfl) (.tmp 94) (.tmp 96) rfl rfl (Row.new _ _ []) rfl (H3.out.at' ((HB.out.drew).alloc (by exact hgr) _) (by omega)) (by omega) ?_; intro v7 w7 ho7 hb7
                  refine hK.out _ _ (by exact Row.keep hHeld hb7) (fun hHeld => ?_)
                  clear hK K
                  try simp only [Act.put, List.setIfInBounds_toArray, List.set_cons_zero, List.set_cons_succ, Array.replicate]
                  refine wpAnyH_ready (rs := [7]) (by kernel_rfl) (by simp) ?_
                  refine AllReadyH.cons (by simp only [List.getElem?_toArray, List.getElem?_cons_zero, List.getElem?_cons_succ] <;> rfl) (fun K hK => ?_) ?_
                  · go_simp; go_at_call 11; have hd7 := HD.out.below (bstep (balloc (Below.refl _ _).drew _) hb7); refine (Crash_of p N _ o _ ⟨c, c, false, [], [], false, 1048576, -1, false⟩ hcr _ hd7 (dsk_sb hd7 ho7) (by simp; omega) (by intro _; omega)).mono ?_; rintro e w8 ⟨rfl, hd8, hu8⟩; try go_simp
                    refine hK.out _ _ (by exact Upd.row hu8 hHeld (by omega)) (fun hHeld => ?_)
                    clear hK K
                    try simp only [Act.put, List.setIfInBounds_toArray, List.set_cons_zero, List.set_cons_succ, Array.replicate]
                    refine wpAnyH_done (by kernel_rfl) ?_ _
                    have hb78 : Below wr.heap.size wr w7 := bstep (balloc (Below.refl _ _).drew _) hb7
                    have hb8 := ub (bthen HB.out hb78 (by omega)) hu8 (by omega) (by omega)
                    have ho8 := dsk_own hd7 (HO.out.below hb78) hu8
                    have hF8 := Row.cell hHeld 1
                    simp only [List.getElem?_cons_succ, List.getElem?_cons_zero] at hF8
                    clear hu8 hd7 ho7 hb7 hb78
                    go_wp2_with fail
                    refine (Read_of p 0 _ c 0 rfl _ hd8 (by simp; omega)).mono ?_; rintro e w9 ⟨v9, rfl, ho9, hb9⟩
                    have hb09 := bthen hb8 hb9 (by have := hb8.size; omega)
                    go_wp2_with (first
                      | (go_at_call 13; refine (begins_yes _ _ c H _ ho9.sh (ho8.sh.below hb9) hcb).mono ?_; rintro e w10 ⟨rfl, hb10⟩)
                      | (go_at_call 14; refine (lives14 _).mono ?_; rintro e w11 ⟨rfl, hb11⟩))
                    go_ret
                    rw [← hg] at hb09
                    exact ⟨rfl, bthen (bthen hb09 hb10 (Nat.le_refl _)) hb11 (Nat.le_refl _)⟩
                  exact AllReadyH.nil
                exact AllReadyH.nil
              exact AllReadyH.nil
            · clear hcell2
              go_upto_region 17 with fail
              refine wp_region_held_drew (S := fun w' => Row w' g 25 [.int .i64 K, .int .i64 F, .int .i64 N, .slice xo o.length ko]) (by kernel_rfl) (by exact Row.drew HR.out) (fun hHeld => ?_)
              refine wpAnyH_take (i := 0) (v := ?_) (by simp only [List.getElem?_toArray, List.getElem?_cons_zero, List.getElem?_cons_succ] <;> rfl) (by kernel_rfl) (by kernel_rfl) (by kernel_rfl) (by intro _ _ _ h; exact h) (Or.inl ⟨by rfl, ?_⟩) (by assumption) ?_
              rotate_left
              · intro w _; go_simp; try with_reducible rfl
              try simp only [Act.put, List.setIfInBounds_toArray, List.set_cons_zero, List.set_cons_succ, Array.replicate]
              refine wpAnyH_take (i := 1) (v := ?_) (by simp only [List.getElem?_toArray, List.getElem?_cons_zero, List.getElem?_cons_succ] <;> rfl) (by kernel_rfl) (by kernel_rfl) (by kernel_rfl) (by intro _ _ _ h; exact h) (Or.inl ⟨by rfl, ?_⟩) (by assumption) ?_
              rotate_left
              · intro w _; go_simp; try with_reducible rfl
              try simp only [Act.put, List.setIfInBounds_toArray, List.set_cons_zero, List.set_cons_succ, Array.replicate]
              refine wpAnyH_take (i := 2) (v := ?_) (by simp only [List.getElem?_toArray, List.getElem?_cons_zero, List.getElem?_cons_succ] <;> rfl) (by kernel_rfl) (by kernel_rfl) (by kernel_rfl) (by intro _ _ _ h; exact h) (Or.inl ⟨by rfl, ?_⟩) (by assumption) ?_
              rotate_left
              · intro w hSS; have hcc := Row.cell (show Row _ g 25 [.int .i64 K, .int .i64 F, .int .i64 N, .slice xo o.length ko] from hSS) 2; simp only [List.getElem?_cons_succ, List.getElem?_cons_zero] at hcc; go_simp; try with_reducible rfl
              try simp only [Act.put, List.setIfInBounds_toArray, List.set_cons_zero, List.set_cons_succ, Array.replicate]
              refine wpAnyH_take (i := 4) (v := ?_) (by simp only [List.getElem?_toArray, List.getElem?_cons_zero, List.getElem?_cons_succ] <;> rfl) (by kernel_rfl) (by kernel_rfl) (by kernel_rfl) (by intro _ _ _ h; exact h) (Or.inl ⟨by rfl, ?_⟩) (by assumption) ?_
              rotate_left
              · intro w _; go_simp; try with_reducible rfl
              try simp only [Act.put, List.setIfInBounds_toArray, List.set_cons_zero, List.set_cons_succ, Array.replicate]
              refine wpAnyH_take (i := 5) (v := ?_) (by simp only [List.getElem?_toArray, List.getElem?_cons_zero, List.getElem?_cons_succ] <;> rfl) (by kernel_rfl) (by kernel_rfl) (by kernel_rfl) (by intro _ _ _ h; exact h) (Or.inl ⟨by rfl, ?_⟩) (by assumption) ?_
              rotate_left
              · intro w hSS; have hcc := Row.cell (show Row _ g 25 [.int .i64 K, .int .i64 F, .int .i64 N, .slice xo o.length ko] from hSS) 3; simp only [List.getElem?_cons_succ, List.getElem?_cons_zero] at hcc; go_simp; try with_reducible rfl
              try simp only [Act.put, List.setIfInBounds_toArray, List.set_cons_zero, List.set_cons_succ, Array.replicate]
              refine wpAnyH_ready (rs := [3]) (by kernel_rfl) (by simp) ?_
              refine AllReadyH.cons (by simp only [List.getElem?_toArray, List.getElem?_cons_zero, List.getElem?_cons_succ] <;> rfl) (fun K hK => ?_) ?_
              · go_simp
                refine hK.out _ _ (by exact Row.alloc hHeld _) (fun hHeld => ?_)
                clear hK K
                try simp only [Act.put, List.setIfInBounds_toArray, List.set_cons_zero, List.set_cons_succ, Array.replicate]
                refine wpAnyH_ready (rs := [6]) (by kernel_rfl) (by simp) ?_
                refine AllReadyH.cons (by simp only [List.getElem?_toArray, List.getElem?_cons_zero, List.getElem?_cons_succ] <;> rfl) (fun K hK => ?_) ?_
                · refine step_app_own Try.underlying23 info_byte (by with_unfolding_all rfl) (.tmp 94) (.tmp 96) rfl rfl (Row.new _ _ []) rfl (H3.out.at' ((HB.out.drew).alloc (by exact hgr) _) (by omega)) (by omega) ?_; intro v7 w7 ho7 hb7
                  refine hK.out _ _ (by exact Row.keep hHeld hb7) (fun hHeld => ?_)
                  clear hK K
                  try simp only [Act.put, List.setIfInBounds_toArray, List.set_cons_zero, List.set_cons_succ, Array.replicate]
                  refine wpAnyH_ready (rs := [7]) (by kernel_rfl) (by simp) ?_
                  refine AllReadyH.cons (by simp only [List.getElem?_toArray, List.getElem?_cons_zero, List.getElem?_cons_succ] <;> rfl) (fun K hK => ?_) ?_
                  · go_simp; go_at_call 11; have hd7 := HD.out.below (bstep (balloc (Below.refl _ _).drew _) hb7); refine (Crash_of p N _ o _ ⟨c, c, false, [], [], false, 1048576, -1, false⟩ hcr _ hd7 (dsk_sb hd7 ho7) (by simp; omega) (by intro _; omega)).mono ?_; rintro e w8 ⟨rfl, hd8, hu8⟩; try go_simp
                    refine hK.out _ _ (by exact Upd.row hu8 hHeld (by omega)) (fun hHeld => ?_)
                    clear hK K
                    try simp only [Act.put, List.setIfInBounds_toArray, List.set_cons_zero, List.set_cons_succ, Array.replicate]
                    refine wpAnyH_done (by kernel_rfl) ?_ _
                    have hb78 : Below wr.heap.size wr w7 := bstep (balloc (Below.refl _ _).drew _) hb7
                    have hb8 := ub (bthen HB.out hb78 (by omega)) hu8 (by omega) (by omega)
                    have ho8 := dsk_own hd7 (HO.out.below hb78) hu8
                    have hF8 := Row.cell hHeld 1
                    simp only [List.getElem?_cons_succ, List.getElem?_cons_zero] at hF8
                    clear hu8 hd7 ho7 hb7 hb78
                    go_wp2_with fail
                    refine (Read_of p 0 _ c 0 rfl _ hd8 (by simp; omega)).mono ?_; rintro e w9 ⟨v9, rfl, ho9, hb9⟩
                    have hb09 := bthen hb8 hb9 (by have := hb8.size; omega)
                    go_wp2_with (first
                      | (go_at_call 13; refine (begins_yes _ _ c H _ ho9.sh (ho8.sh.below hb9) hcb).mono ?_; rintro e w10 ⟨rfl, hb10⟩)
                      | (go_at_call 14; refine (lives14 _).mono ?_; rintro e w11 ⟨rfl, hb11⟩))
                    go_ret
                    rw [← hg] at hb09
                    exact ⟨rfl, bthen (bthen hb09 hb10 (Nat.le_refl _)) hb11 (Nat.le_refl _)⟩
                  exact AllReadyH.nil
                exact AllReadyH.nil
              exact AllReadyH.nil
            · obtain ⟨b, off, xu, cu, rfl, hcu⟩ := hcell2 (by omega)
              generalize (Ms.getD i []).length = D at *
              go_upto_region 17 with fail
              clear hcu
              refine wp_region_held_drew (S := fun w' => Row w' g 25 [.int .i64 K, .int .i64 F, .int .i64 N, .slice xo o.length ko]) (by kernel_rfl) (by exact Row.drew HR.out) (fun hHeld => ?_)
              refine wpAnyH_take (i := 0) (v := ?_) (by simp only [List.getElem?_toArray, List.getElem?_cons_zero, List.getElem?_cons_succ] <;> rfl) (by kernel_rfl) (by kernel_rfl) (by kernel_rfl) (by intro _ _ _ h; exact h) (Or.inl ⟨by rfl, ?_⟩) (by assumption) ?_
              rotate_left
              · intro w _; go_simp; try with_reducible rfl
              try simp only [Act.put, List.setIfInBounds_toArray, List.set_cons_zero, List.set_cons_succ, Array.replicate]
              refine wpAnyH_take (i := 1) (v := ?_) (by simp only [List.getElem?_toArray, List.getElem?_cons_zero, List.getElem?_cons_succ] <;> rfl) (by kernel_rfl) (by kernel_rfl) (by kernel_rfl) (by intro _ _ _ h; exact h) (Or.inl ⟨by rfl, ?_⟩) (by assumption) ?_
              rotate_left
              · intro w _; go_simp; try with_reducible rfl
              try simp only [Act.put, List.setIfInBounds_toArray, List.set_cons_zero, List.set_cons_succ, Array.replicate]
              refine wpAnyH_take (i := 2) (v := ?_) (by simp only [List.getElem?_toArray, List.getElem?_cons_zero, List.getElem?_cons_succ] <;> rfl) (by kernel_rfl) (by kernel_rfl) (by kernel_rfl) (by intro _ _ _ h; exact h) (Or.inl ⟨by rfl, ?_⟩) (by assumption) ?_
              rotate_left
              · intro w hSS; have hcc := Row.cell (show Row _ g 25 [.int .i64 K, .int .i64 F, .int .i64 N, .slice xo o.length ko] from hSS) 2; simp only [List.getElem?_cons_succ, List.getElem?_cons_zero] at hcc; go_simp; try with_reducible rfl
              try simp only [Act.put, List.setIfInBounds_toArray, List.set_cons_zero, List.set_cons_succ, Array.replicate]
              refine wpAnyH_take (i := 4) (v := ?_) (by simp only [List.getElem?_toArray, List.getElem?_cons_zero, List.getElem?_cons_succ] <;> rfl) (by kernel_rfl) (by kernel_rfl) (by kernel_rfl) (by intro _ _ _ h; exact h) (Or.inl ⟨by rfl, ?_⟩) (by assumption) ?_
              rotate_left
              · intro w _; go_simp; try with_reducible rfl
              try simp only [Act.put, List.setIfInBounds_toArray, List.set_cons_zero, List.set_cons_succ, Array.replicate]
              refine wpAnyH_take (i := 5) (v := ?_) (by simp only [List.getElem?_toArray, List.getElem?_cons_zero, List.getElem?_cons_succ] <;> rfl) (by kernel_rfl) (by kernel_rfl) (by kernel_rfl) (by intro _ _ _ h; exact h) (Or.inl ⟨by rfl, ?_⟩) (by assumption) ?_
              rotate_left
              · intro w hSS; have hcc := Row.cell (show Row _ g 25 [.int .i64 K, .int .i64 F, .int .i64 N, .slice xo o.length ko] from hSS) 3; simp only [List.getElem?_cons_succ, List.getElem?_cons_zero] at hcc; go_simp; try with_reducible rfl
              try simp only [Act.put, List.setIfInBounds_toArray, List.set_cons_zero, List.set_cons_succ, Array.replicate]
              refine wpAnyH_ready (rs := [3]) (by kernel_rfl) (by simp) ?_
              refine AllReadyH.cons (by simp only [List.getElem?_toArray, List.getElem?_cons_zero, List.getElem?_cons_succ] <;> rfl) (fun K hK => ?_) ?_
              · go_simp
                refine hK.out _ _ (by exact Row.alloc hHeld _) (fun hHeld => ?_)
                clear hK K
                try simp only [Act.put, List.setIfInBounds_toArray, List.set_cons_zero, List.set_cons_succ, Array.replicate]
                refine wpAnyH_ready (rs := [6]) (by kernel_rfl) (by simp) ?_
                refine AllReadyH.cons (by simp only [List.getElem?_toArray, List.getElem?_cons_zero, List.getElem?_cons_succ] <;> rfl) (fun K hK => ?_) ?_
                · refine step_app_own Try.underlying23 info_byte (by with_unfolding_all rfl) (.tmp 94) (.tmp 96) rfl rfl (Row.new _ _ []) rfl (H3.out.at' ((HB.out.drew).alloc (by exact hgr) _) (by omega)) (by omega) ?_; intro v7 w7 ho7 hb7
                  refine hK.out _ _ (by exact Row.keep hHeld hb7) (fun hHeld => ?_)
                  clear hK K
                  try simp only [Act.put, List.setIfInBounds_toArray, List.set_cons_zero, List.set_cons_succ, Array.replicate]
                  refine wpAnyH_ready (rs := [7]) (by kernel_rfl) (by simp) ?_
                  refine AllReadyH.cons (by simp only [List.getElem?_toArray, List.getElem?_cons_zero, List.getElem?_cons_succ] <;> rfl) (fun K hK => ?_) ?_
                  · go_simp; go_at_call 11; have hd7 := HD.out.below (bstep (balloc (Below.refl _ _).drew _) hb7); refine (Crash_of p N _ o _ ⟨c, c, false, [], [], false, 1048576, -1, false⟩ hcr _ hd7 (dsk_sb hd7 ho7) (by simp; omega) (by intro _; omega)).mono ?_; rintro e w8 ⟨rfl, hd8, hu8⟩; try go_simp
                    refine hK.out _ _ (by exact Upd.row hu8 hHeld (by omega)) (fun hHeld => ?_)
                    clear hK K
                    try simp only [Act.put, List.setIfInBounds_toArray, List.set_cons_zero, List.set_cons_succ, Array.replicate]
                    refine wpAnyH_done (by kernel_rfl) ?_ _
                    have hb78 : Below wr.heap.size wr w7 := bstep (balloc (Below.refl _ _).drew _) hb7
                    have hb8 := ub (bthen HB.out hb78 (by omega)) hu8 (by omega) (by omega)
                    have ho8 := dsk_own hd7 (HO.out.below hb78) hu8
                    have hF8 := Row.cell hHeld 1
                    simp only [List.getElem?_cons_succ, List.getElem?_cons_zero] at hF8
                    clear hu8 hd7 ho7 hb7 hb78
                    go_wp2_with fail
                    refine (Read_of p 0 _ c 0 rfl _ hd8 (by simp; omega)).mono ?_; rintro e w9 ⟨v9, rfl, ho9, hb9⟩
                    have hb09 := bthen hb8 hb9 (by have := hb8.size; omega)
                    go_wp2_with (first
                      | (go_at_call 13; refine (begins_yes _ _ c H _ ho9.sh (ho8.sh.below hb9) hcb).mono ?_; rintro e w10 ⟨rfl, hb10⟩)
                      | (go_at_call 14; refine (lives14 _).mono ?_; rintro e w11 ⟨rfl, hb11⟩))
                    go_ret
                    rw [← hg] at hb09
                    exact ⟨rfl, bthen (bthen hb09 hb10 (Nat.le_refl _)) hb11 (Nat.le_refl _)⟩
                  exact AllReadyH.nil
                exact AllReadyH.nil
              exact AllReadyH.nil
end Go.Proofs.Ytadmjhlcdoghpac
