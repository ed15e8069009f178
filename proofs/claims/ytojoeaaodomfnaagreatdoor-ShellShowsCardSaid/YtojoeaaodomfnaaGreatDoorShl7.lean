/- Package shell: Show. -/
import Derived.Test.YtojoeaaodomfnaaGreatDoorShl5
import Derived.Test.YtojoeaaodomfnaaGreatDoorRShl1
import Derived.Test.YtojoeaaodomfnaaGreatDoorEvW
import Derived.Test.YtojoeaaodomfnaaGreatDoorShlL
import Derived.Test.YtojoeaaodomfnaaGreatDoorShl6
namespace Go.Proofs.YtojoeaaodomfnaaGreatDoor
set_option linter.unusedVariables false
set_option linter.unusedSimpArgs false
set_option linter.unnecessarySimpa false
open Go.RowKit
set_option maxRecDepth 100000
set_option maxHeartbeats 4000000

/-- Onto a row that is full: a new row. -/
theorem app_full {P : Program} {t e : TypeId} {z : Value} {by_ : Nat} (ht : P.underlying t = some (.slice e)) (he : (P.info? e).map (fun i => (i.zero, i.size, i.bytes)) = some (some z, 1, by_)) (hz : z.cells.size = 1)
    {w : World} {ops : Array Oper} {rest : List Oper} {o : Oper} {a : Act} {Q : Exit → Act → World → Prop} (hgd : o.guard = none) (s x : Operand)
    (ho : o.op = .call { callee := .builtin .append, args := #[s, x], argTypes := #[t, t] })
    (b n : Nat) (l : List Value) (hs : a.eval s = .slice (some ⟨b, 0, none⟩) n n) (hl : l.length = n) (hrow : ∀ j u, l[j]? = some u → w.cell? ⟨b, 0 + j, none⟩ = some u)
    (d m c : Nat) (r : List Value) (hx : a.eval x = .slice (some ⟨d, 0, none⟩) m c) (hr : r.length = m) (hc : ∀ j u, r[j]? = some u → w.cell? ⟨d, 0 + j, none⟩ = some u) (h1 : ∀ u ∈ r, u.oneCell' = true)
    (hm : 0 < m) (hlen : n + m ≤ 140737488355328) (hlen2 : (n + m) * by_ ≤ 140737488355328)
    (h : ∀ v' w', Own1 w' w.heap.size e v' (l ++ r) → Below w.heap.size w w' → wpList P ops Q rest (a.put o.dst v') w') : wpList P ops Q (o :: rest) a w := by
  obtain ⟨i, hi, hz0, hz1, hz2⟩ := info_parts he
  refine wpList_append_grows w hgd s x t ho e i z 1 by_ ht hi hz0 hz1 hz2 hz (by decide) (some ⟨b, 0, none⟩) n n l hs (fun h => by cases h) (by omega) (fun q hq j u hj => by cases hq; rw [Addr.add_lit]; exact hrow j u hj) ⟨d, 0, none⟩ m c r hx (by omega) (fun j u hj => by rw [Addr.add_lit]; exact hc j u hj) h1 (by omega) (by simp only [maxLen]; omega) hlen2 ?_
  intro v' w' g1 g2
  refine h v' w' ?_ ((Below.refl _ _).grown g2 (Nat.le_refl _) (fun k hk => by cases hk))
  unfold Own1
  rw [List.length_append, hl, hr]; exact g1
theorem Own1.mono {w : World} {B C e : Nat} {v : Value} {l : List Value} (h : Own1 w B e v l) (hb : C ≤ B) : Own1 w C e v l := by
  obtain ⟨h1, h⟩ := h
  refine ⟨h1, ?_⟩
  rcases h with h | ⟨g, cap, cur, a, b, c⟩
  · exact .inl h
  · exact .inr ⟨g, cap, cur, a, by omega, c⟩
/-- A struct is loaded out of a box, under a guard that holds. -/
theorem load_box_g {P : Program} {w : World} {ops : Array Oper} {rest : List Oper} {o : Oper} {a : Act} {Q : Exit → Act → World → Prop} (hw : Region.wanted o (yielded ops a.tmps) = true) (ty : TypeId) (x : Operand) (ho : o.op = .load ty x)
    (b : Nat) (hx : a.eval x = .pointer (some ⟨b, 0, none⟩)) (cs : List Value) (t : TypeId) (hr : Row w b t cs) (d : TypeDesc) (hu : P.underlying ty = some d) (hd : d.isRow = true)
    (hi : (P.info? ty).map (·.size) = some cs.length) (h : wpList P ops Q rest (a.put o.dst (.agg cs.toArray)) w) : wpList P ops Q (o :: rest) a w :=
  BigFrame.wpList_want hw fun K hK => wp_load_mid ty x ho b 0 hx cs d hr.rangeAt hu hd hi (hK _ _ h)
theorem idx_run (w : World) (j : Nat) (hj : j < 15) : (Instr.index 49 (.agg verbC.toArray) (.int .i64 j)).run Tryz.prog w = .ok (.agg (verbV (Shl.verbs.getD j dV)).toArray) w := by
  match j, hj with
  | 0, _ => rfl
  | 1, _ => rfl
  | 2, _ => rfl
  | 3, _ => rfl
  | 4, _ => rfl
  | 5, _ => rfl
  | 6, _ => rfl
  | 7, _ => rfl
  | 8, _ => rfl
  | 9, _ => rfl
  | 10, _ => rfl
  | 11, _ => rfl
  | 12, _ => rfl
  | 13, _ => rfl
  | 14, _ => rfl
theorem idx_verb {w : World} {ops : Array Oper} {rest : List Oper} {o : Oper} {a : Act} {Q : Exit → Act → World → Prop} (hgd : o.guard = none) (x y : Operand) (ho : o.op = .index 49 x y)
    (hx : a.eval x = .agg verbC.toArray) (j : Nat) (hj : j < 15) (hy : a.eval y = .int .i64 j) (v : Shl.Verb) (hv : Shl.verbs.getD j dV = v)
    (h : wpList Tryz.prog ops Q rest (a.put o.dst (.agg (verbV v).toArray)) w) : wpList Tryz.prog ops Q (o :: rest) a w :=
  wpList_plain hgd fun _ hK => by
    unfold Oper.wp execOp
    simp only [ho, hx, hy, Sem.run_bind, Sem.run_pure, idx_run w j hj, hv, Result.andThen_ok]
    exact hK _ _ h
/-- An event with no times, no log, no tail: whether it is another one. -/
def isE (x e : Shl.Ev) (at_ ep : Int) (ne nt : Nat) : Bool := decide (x = e ∧ at_ = 0 ∧ ep = 0 ∧ ne = 0 ∧ nt = 0)
/-- Whether a verb's line of an event says that event. -/
def hitB (e : Shl.Ev) (at_ ep : Int) (ne nt : Nat) (v : Shl.Verb) : Bool := Shl.isOf v e && (match Shl.parseL (Shl.lineOf v e) with | .inl _ => false | .inr x => isE x e at_ ep ne nt)
def showV (e : Shl.Ev) (at_ ep : Int) (ne nt : Nat) : Value := match Shl.verbs.find? (hitB e at_ ep ne nt) with
  | some v => .tuple #[.string (bs (Shl.lineOf v e)), .bool true]
  | none => .tuple #[.string ⟨#[]⟩, .bool false]
theorem verbC_len : verbC.length = 60 := rfl
theorem verb_range (w : World) (hg : Gl w) : w.rangeAt 0 0 verbC := fun j u hu => by rw [Nat.zero_add]; exact hg.vb j u hu
/-- The words, from a verb's name on. -/
def showW (e : Shl.Ev) (n : List UInt8) (P : List UInt8) : List (List UInt8) := n :: P.map (Shl.wordOf e)
theorem show_step (e : Shl.Ev) (nm P : List UInt8) (k : Nat) (c : UInt8) (hk : k < P.length) (hc : P.getD k 0 = c) :
    strs ((showW e nm (P.take (k + 1))).map bs) = strs ((showW e nm (P.take k)).map bs) ++ [.string (bs (Shl.wordOf e c))] := by
  have h : P[k] = c := by simpa [List.getD, hk] using hc
  rw [List.take_succ_eq_append_getElem hk, h]
  simp [showW, strs]
theorem show_len (e : Shl.Ev) (nm P : List UInt8) : (strs ((showW e nm P).map bs)).length = P.length + 1 := by simp [showW, strs]
theorem Show_any (e : Shl.Ev) (ha : -9223372036854775808 ≤ e.a ∧ e.a ≤ 9223372036854775807) (hb : -9223372036854775808 ≤ e.b ∧ e.b ≤ 9223372036854775807) (hn : -9223372036854775808 ≤ e.n ∧ e.n ≤ 9223372036854775807)
    (hsz : e.subj.length + e.text.length ≤ 1000000) (at_ ep : Int) (ae at2 : Option Addr) (ne ce nt ct : Nat) (hne : ne ≤ 9223372036854775807) (hnt : nt ≤ 9223372036854775807) (w : World) (hg : Gl w) :
    Calls Tryz.prog 7 #[.agg (evW e at_ ep (.slice ae ne ce) (.slice at2 nt ct)).toArray] w fun en w' => en = .returned (showV e at_ ep ne nt) ∧ Below w.heap.size w w' := by
  have HG := Lib.hid hg
  have hz := hg.sz
  obtain ⟨se, hse⟩ : ∃ se, Value.slice ae ne ce = se := ⟨_, rfl⟩
  have HSE := Lib.hid hse
  obtain ⟨st, hst⟩ : ∃ st, Value.slice at2 nt ct = st := ⟨_, rfl⟩
  have HST := Lib.hid hst
  rw [hse, hst]
  clear hse hst hg
  go_enter Tryz.func7, Tryz.ntmps7
  go_upto_region 1 with fail
  obtain ⟨W, hW⟩ : ∃ W, w.alloc (.cells (evW e at_ ep se st).toArray 28) = W := ⟨_, rfl⟩
  have R1 : Hid (Row W w.heap.size 28 (evW e at_ ep se st)) := by rw [← hW]; exact Row.new w _ _
  have B1 : Hid (Below w.heap.size w W) := by rw [← hW]; exact balloc (Below.refl _ _) _
  have hws : w.heap.size < W.heap.size := by rw [← hW]; simp
  rw [hW]
  clear hW
  have HGW := Lib.hid (HG.out.keep B1.out)
  go_upto_region 2 with (refine wpList_load_mid rfl 49 (.global 0) rfl 0 0 rfl verbC _ (verb_range _ HGW.out) Tryz.underlying49 rfl (by kernel_rfl) ?_)
  go_loopw [13] (fun iv wr => ∃ j : Nat, j ≤ 15 ∧ iv = .int .i64 j ∧ (∀ k, k < j → hitB e at_ ep ne nt (Shl.verbs.getD k dV) = false) ∧ Below W.heap.size W wr) (fun iv _ => 15 - (intOf iv).toNat)
  case atStart => exact ⟨0, Nat.zero_le _, rfl, (fun k hk => by omega), Below.refl _ _⟩
  case round =>
    obtain ⟨j, hj, rfl, h1, hb2⟩ := hrel
    have H1 := Lib.hid h1
    have B2 := Lib.hid hb2
    have hw2 := hb2.size
    clear h1 hb2
    by_cases hlt : j < 15
    · have hltI : (j : Int) < 15 := by omega
      go_upto_region 3 with fail
      obtain ⟨v, hv⟩ : ∃ v, Shl.verbs.getD j dV = v := ⟨_, rfl⟩
      have HV := Lib.hid hv
      go_upto_region 4 with (first
        | (refine idx_verb rfl (.tmp 12) (.tmp 13) (by rfl) (by rfl) j hlt (by rfl) v HV.out ?_)
        | (refine store_box rfl 48 (.tmp 5) (.tmp 15) (by rfl) wr.heap.size (by rfl) (verbV v) (by rfl) 48 (verbV dV) (Row.new wr _ _) rfl (by kernel_rfl) (by intro u hu; simp [verbV] at hu; rcases hu with rfl | rfl | rfl | rfl <;> rfl) ?_; intro w3 hr3 hu3; have V3 := Lib.hid hr3; have B3 := Lib.hid (Upd.below' (B2.out.alloc hw2 _) hu3 hw2 (by simp; omega)); have hs3b := hu3.size; rw [World.size_alloc] at hs3b; clear hr3 hu3))
      have W2 := Lib.hid (R1.out.keep B3.out)
      have hs3c : wr.heap.size < w3.heap.size := by omega
      clear B2
      have hvv := V3.out
      have hc0 := hvv.cell 0
      have hc1 := hvv.cell 1
      have hc2 := hvv.cell 2
      have hc3 := hvv.cell 3
      have x0 := W2.out.cell 0
      have x1 := W2.out.cell 1
      have x2 := W2.out.cell 2
      have x3 := W2.out.cell 3
      have x4 := W2.out.cell 4
      have x5 := W2.out.cell 5
      have x6 := W2.out.cell 6
      simp only [verbV, evW, List.getElem?_cons_succ, List.getElem?_cons_zero] at hc0 hc1 hc2 hc3 x0 x1 x2 x3 x4 x5 x6
      generalize wr.heap.size = vb at *
      clear hvv
      have hstep : hitB e at_ ep ne nt v = false → ∀ k, k < j + 1 → hitB e at_ ep ne nt (Shl.verbs.getD k dV) = false := fun h k hk => by
        by_cases hkj : k < j
        · exact H1.out k hkj
        · obtain rfl : k = j := by omega
          rw [HV.out]; exact h
      have HSTEP := Lib.hid hstep
      clear hstep
      have miss : Shl.isOf v e = false → hitB e at_ ep ne nt v = false := fun h => by unfold hitB; rw [h]; rfl
      have HMISS := Lib.hid miss
      clear miss
      have fin : hitB e at_ ep ne nt v = false → ∀ w', Below W.heap.size W w' → (∃ i : Nat, i ≤ 15 ∧ Value.int IntKind.i64 ((j : Int) + 1) = .int .i64 i ∧ (∀ k, k < i → hitB e at_ ep ne nt (Shl.verbs.getD k dV) = false) ∧ Below W.heap.size W w') ∧ 15 - (intOf (.int .i64 ((j : Int) + 1))).toNat < 15 - (intOf (.int .i64 (j : Int))).toNat := fun h w' hb' =>
        ⟨⟨j + 1, hlt, by go_num, HSTEP.out h, hb'⟩, by simp [intOf] <;> omega⟩
      have FIN := Lib.hid fin
      clear fin
      by_cases c0 : v.kind = e.kind
      case neg =>
        have HO : Hid (Shl.isOf v e = false) := by show _ = _; unfold Shl.isOf; rw [decide_eq_false c0]; rfl
        go_wp2_with fail
        exact FIN.out (HMISS.out HO.out) _ B3.out
      have hmid : (v.kind = 0 ∧ v.cmd ≠ e.ck) ∨ Shl.isOf v e = true := by
        by_cases c1 : v.kind = 0
        · by_cases c2 : v.cmd = e.ck
          · right; unfold Shl.isOf; rw [decide_eq_true c0, decide_eq_true c2]; simp
          · exact .inl ⟨c1, c2⟩
        · right; unfold Shl.isOf; rw [decide_eq_true c0, decide_eq_false c1]; rfl
      rcases hmid with ⟨c1, c2⟩ | HOT
      · have HO : Hid (Shl.isOf v e = false) := by show _ = _; unfold Shl.isOf; rw [decide_eq_false c2, decide_eq_true c1]; simp
        rw [c1] at c0 hc1
        rw [← c0] at x0
        clear c0 c1
        go_wp2_with fail
        exact FIN.out (HMISS.out HO.out) _ B3.out
      · obtain ⟨P, hP⟩ : ∃ P, v.pat = P := ⟨_, rfl⟩
        rw [hP] at hc3
        have HPP := Lib.hid hP
        clear hP
        have hps : (bs P).size = P.length := rfl
        by_cases c1 : v.kind = 0
        · have c2 : v.cmd = e.ck := by
            have h := HOT
            unfold Shl.isOf at h
            rw [decide_eq_true c0, decide_eq_true c1] at h
            simpa using h
          rw [c1] at c0 hc1
          rw [← c0] at x0
          rw [c2] at hc2
          have HHIT := Lib.hid HOT
          have C0 := Lib.hid c0
          have C1 := Lib.hid c1
          have C2 := Lib.hid c2
          clear c0 c1 c2 HOT
          go_upto_region 6 with fail
          obtain ⟨W4, hW4⟩ : ∃ W4, w3.alloc (.cells #[.string (bs v.name)] 9) = W4 := ⟨_, rfl⟩
          have L4 : Hid (Row W4 w3.heap.size 9 [.string (bs v.name)]) := by rw [← hW4]; exact Row.new w3 _ _
          have B4 : Hid (Below W.heap.size W W4) := by rw [← hW4]; exact B3.out.alloc (by omega) _
          have E4 : Hid (Row W4 w.heap.size 28 (evW e at_ ep se st)) := by rw [← hW4]; exact W2.out.alloc _
          have V4 : Hid (Row W4 vb 48 (verbV v)) := by rw [← hW4]; exact V3.out.alloc _
          have hs4 : w3.heap.size < W4.heap.size := by rw [← hW4]; simp
          have hva := V4.out.cell 3
          simp only [verbV, List.getElem?_cons_succ, List.getElem?_cons_zero] at hva
          rw [HPP.out] at hva
          rw [hW4]
          clear hW4 hc0 hc1 hc2 hc3 x0 x1 x2 x3 x4 x5 x6
          have hcv := Lib.run_convert_string_bytes (P := Tryz.prog) W4 9 26 5 (bs P) Tryz.underlying9 Tryz.underlying26 Tryz.underlying5
          go_upto_region 7 with fail
          obtain ⟨W5, hW5⟩ : ∃ W5, Lib.bytesWorld W4 5 (bs P) = W5 := ⟨_, rfl⟩
          rw [hW5]
          clear hcv
          generalize grownCap W4 (bs P).size 0 5 = cb at *
          have b5 : Below W4.heap.size W4 W5 := by rw [← hW5]; exact Lib.bytesWorld_below _ _ _
          have C5 : Hid (∀ k, k < P.length → W5.cell? ⟨W4.heap.size, k, none⟩ = some (.int .u8 ((P.getD k 0).toNat : Int))) := fun k hk => by rw [← hW5]; exact Lib.bytesWorld_cell W4 _ (bs P) k hk
          have hs5 : W4.heap.size < W5.heap.size := by rw [← hW5, Lib.bytesWorld_size]; omega
          have B5 := Lib.hid (B4.out.trans (b5.mono B4.out.size))
          have L5 := Lib.hid (L4.out.keep b5)
          have E5 := Lib.hid (E4.out.keep b5)
          have V5 := Lib.hid (V4.out.keep b5)
          clear hW5 b5 L4 E4 V4 V3 W2 B3 B4
          have hsb : W.heap.size ≤ W4.heap.size := by omega
          generalize W4.heap.size = bk at *
          have hsl : w3.heap.size < W5.heap.size := by omega
          have hvl : vb < W5.heap.size := by omega
          generalize w3.heap.size = lb at *
          go_loopw [6, 41] (fun ov iv wr => ∃ k : Nat, k ≤ P.length ∧ iv = .int .i64 k ∧ ((k = 0 ∧ ov = .slice (some ⟨lb, 0, none⟩) 1 1) ∨ (1 ≤ k ∧ Own1 wr W5.heap.size 9 ov (strs ((showW e v.name (P.take k)).map bs)))) ∧ Below W5.heap.size W5 wr) (fun _ iv _ => P.length - (intOf iv).toNat)
          case atStart => exact ⟨0, Nat.zero_le _, rfl, .inl ⟨rfl, rfl⟩, Below.refl _ _⟩
          case round =>
            obtain ⟨k, hk, rfl, hov, hb6⟩ := hrel
            have B6 := Lib.hid (B5.out.trans (hb6.mono B5.out.size))
            have E6 := Lib.hid (E5.out.keep hb6)
            have V6 := Lib.hid (V5.out.keep hb6)
            have L6 := Lib.hid (L5.out.keep hb6)
            have X6 := Lib.hid hb6
            have hs6 := hb6.size
            by_cases hlt2 : k < P.length
            · have hlt2I : (k : Int) < (P.length : Int) := by omega
              have hcb := bkeep hb6 (C5.out k hlt2)
              have x1 := E6.out.cell 1
              have x2 := E6.out.cell 2
              have x4 := E6.out.cell 4
              have x5 := E6.out.cell 5
              have x6 := E6.out.cell 6
              simp only [evW, List.getElem?_cons_succ, List.getElem?_cons_zero] at x1 x2 x4 x5 x6
              by_cases hk0 : k = 0
              · subst hk0
                have hov2 : u6 = .slice (some ⟨lb, 0, none⟩) 1 1 := by
                  rcases hov with ⟨-, h⟩ | ⟨h, -⟩
                  · exact h
                  · omega
                subst hov2
                have hr0 : P.getD 0 0 = 114 := by
                  rw [← HPP.out, ← HV.out]
                  exact (show ∀ j, j < 15 → (Shl.verbs.getD j dV).pat.getD 0 0 = 114 by decide) j hlt
                rw [hr0] at hcb
                have hcb2 : wr.cell? ⟨bk, 0, none⟩ = some (.int .u8 114) := hcb
                clear hcb hov hb6
                go_wp2_with (first
                  | (go_at_call 15; refine (Itoa_any e.a ha.1 ha.2 _ (HGW.out.keep B6.out)).mono ?_; rintro en w7 ⟨rfl, hb7⟩; have B7 := Lib.hid (X6.out.trans (hb7.mono hs6)); have L7 := Lib.hid (L6.out.keep hb7); have hs7 := hb7.size; clear hb7)
                  | (at_builtin; go_loud (refine app_full Tryz.underlying43 info_string rfl rfl (.tmp 54) (.tmp 58) rfl lb 1 [.string (bs v.name)] rfl rfl (fun j u hj => by rw [Nat.zero_add]; exact ((L7.out.alloc _).cell j).trans hj) w7.heap.size 1 1 [.string (bs (Lib.itoa e.a))] rfl rfl (fun j u hj => by rw [Nat.zero_add]; exact ((Row.new w7 9 [.string (bs (Lib.itoa e.a))]).cell j).trans hj) (by intro q hq; simp at hq; subst hq; rfl) (by omega) (by omega) (by omega) ?_; intro v9 w9 ho9 hb9)))
                have O9 : Hid (Own1 w9 W5.heap.size 9 v9 ([.string (bs v.name)] ++ [.string (bs (Lib.itoa e.a))])) := ho9.mono (by simp; omega)
                have B9 := Lib.hid (B7.out.trans ((balloc (Below.refl w7.heap.size w7) _).trans (hb9.mono (by simp))|>.mono (by omega)))
                refine ⟨⟨1, hlt2, by rfl, .inr ⟨Nat.le_refl _, ?_⟩, B9.out⟩, by simp [intOf] <;> omega⟩
                have ht : P.take 1 = [114] := by
                  rcases P with _ | ⟨c, P⟩
                  · simp at hlt2
                  · simp at hr0; simp [hr0]
                rw [ht]
                exact O9.out
              · obtain ⟨hk1, hown⟩ : 1 ≤ k ∧ Own1 wr W5.heap.size 9 u6 (strs ((showW e v.name (P.take k)).map bs)) := by
                  rcases hov with ⟨h, -⟩ | h
                  · exact absurd h hk0
                  · exact h
                have O6 := Lib.hid hown
                have hsk : (strs ((showW e v.name (P.take k)).map bs)).length = k + 1 := by rw [show_len, List.length_take]; omega
                have hpl : P.length ≤ 3 := by
                  rw [← HPP.out, ← HV.out]
                  exact (show ∀ j, j < 15 → (Shl.verbs.getD j dV).pat.length ≤ 3 by decide) j hlt
                have hlet : P.getD k 0 = 110 ∨ P.getD k 0 = 112 ∨ P.getD k 0 = 115 ∨ P.getD k 0 = 116 := by
                  have h0 : (Shl.verbs.getD j dV).kind = 0 := by rw [HV.out]; exact C1.out
                  rw [← HPP.out, ← HV.out] at hlt2 ⊢
                  exact (show ∀ j, j < 15 → ∀ k, k < 3 → ((Shl.verbs.getD j dV).kind = 0 ∧ 1 ≤ k ∧ k < (Shl.verbs.getD j dV).pat.length) → (Shl.verbs.getD j dV).pat.getD k 0 = 110 ∨ (Shl.verbs.getD j dV).pat.getD k 0 = 112 ∨ (Shl.verbs.getD j dV).pat.getD k 0 = 115 ∨ (Shl.verbs.getD j dV).pat.getD k 0 = 116 by decide) j hlt k (by omega) ⟨h0, hk1, hlt2⟩
                clear hov hown hb6
                rcases hlet with hc | hc | hc | hc
                · have hcb2 : wr.cell? ⟨bk, k, none⟩ = some (.int .u8 110) := by have h := hcb; rw [hc] at h; exact h
                  have HC := Lib.hid hc
                  clear hcb hc
                  go_wp2_with (first
                    | (go_at_call 15; refine (Itoa_any e.n hn.1 hn.2 _ (HGW.out.keep B6.out)).mono ?_; rintro en w7 ⟨rfl, hb7⟩; have B7 := Lib.hid (X6.out.trans (hb7.mono hs6)); have O7 := Lib.hid (Own1.below O6.out hb7); have hs7 := hb7.size; clear hb7)
                    | (at_builtin; go_loud (refine app_one (base := W5.heap.size) (l := strs ((showW e v.name (P.take k)).map bs)) (m := [.string (bs (Lib.itoa e.n))]) Tryz.underlying43 info_string rfl rfl (.tmp 70) (.tmp 75) rfl rfl (Own1.alloc O7.out _) rfl ((Own1.lit w7 9 [.string (bs (Lib.itoa e.n))]).shows) (by intro q hq; simp at hq; subst hq; rfl) (by rw [hsk]; simp; omega) (by rw [hsk]; simp; omega) (by simp; omega) ?_; intro v9 w9 ho9 hb9)))
                  have B9 := Lib.hid (B7.out.trans ((balloc (Below.refl w7.heap.size w7) _).mono (by omega) |>.trans hb9))
                  refine ⟨⟨k + 1, hlt2, by go_num, .inr ⟨by omega, ?_⟩, B9.out⟩, by simp [intOf] <;> omega⟩
                  rw [show_step e v.name P k 110 hlt2 HC.out]
                  exact ho9
                · have hcb2 : wr.cell? ⟨bk, k, none⟩ = some (.int .u8 112) := by have h := hcb; rw [hc] at h; exact h
                  have HC := Lib.hid hc
                  clear hcb hc
                  go_wp2_with (first
                    | (go_at_call 16; refine (Name_any e.n _ (HGW.out.keep B6.out)).mono ?_; rintro en w7 ⟨rfl, rfl⟩)
                    | (at_builtin; go_loud (refine app_one (base := W5.heap.size) (l := strs ((showW e v.name (P.take k)).map bs)) (m := [.string (bs (Shl.polName e.n))]) Tryz.underlying43 info_string rfl rfl (.tmp 79) (.tmp 84) rfl rfl (Own1.alloc O6.out _) rfl ((Own1.lit wr 9 [.string (bs (Shl.polName e.n))]).shows) (by intro q hq; simp at hq; subst hq; rfl) (by rw [hsk]; simp; omega) (by rw [hsk]; simp; omega) (by simp; omega) ?_; intro v9 w9 ho9 hb9)))
                  have B9 := Lib.hid (X6.out.trans ((balloc (Below.refl wr.heap.size wr) _).mono (by omega) |>.trans hb9))
                  refine ⟨⟨k + 1, hlt2, by go_num, .inr ⟨by omega, ?_⟩, B9.out⟩, by simp [intOf] <;> omega⟩
                  rw [show_step e v.name P k 112 hlt2 HC.out]
                  exact ho9
                · have hcb2 : wr.cell? ⟨bk, k, none⟩ = some (.int .u8 115) := by have h := hcb; rw [hc] at h; exact h
                  have HC := Lib.hid hc
                  clear hcb hc
                  go_wp2_with (first
                    | (at_builtin; go_loud (refine app_one (base := W5.heap.size) (l := strs ((showW e v.name (P.take k)).map bs)) (m := [.string (bs e.subj)]) Tryz.underlying43 info_string rfl rfl (.tmp 88) (.tmp 92) rfl rfl (Own1.alloc O6.out _) rfl ((Own1.lit wr 9 [.string (bs e.subj)]).shows) (by intro q hq; simp at hq; subst hq; rfl) (by rw [hsk]; simp; omega) (by rw [hsk]; simp; omega) (by simp; omega) ?_; intro v9 w9 ho9 hb9)))
                  have B9 := Lib.hid (X6.out.trans ((balloc (Below.refl wr.heap.size wr) _).mono (by omega) |>.trans hb9))
                  refine ⟨⟨k + 1, hlt2, by go_num, .inr ⟨by omega, ?_⟩, B9.out⟩, by simp [intOf] <;> omega⟩
                  rw [show_step e v.name P k 115 hlt2 HC.out]
                  exact ho9
                · have hcb2 : wr.cell? ⟨bk, k, none⟩ = some (.int .u8 116) := by have h := hcb; rw [hc] at h; exact h
                  have HC := Lib.hid hc
                  clear hcb hc
                  go_wp2_with (first
                    | (at_builtin; go_loud (refine app_one (base := W5.heap.size) (l := strs ((showW e v.name (P.take k)).map bs)) (m := [.string (bs e.text)]) Tryz.underlying43 info_string rfl rfl (.tmp 46) (.tmp 50) rfl rfl (Own1.alloc O6.out _) rfl ((Own1.lit wr 9 [.string (bs e.text)]).shows) (by intro q hq; simp at hq; subst hq; rfl) (by rw [hsk]; simp; omega) (by rw [hsk]; simp; omega) (by simp; omega) ?_; intro v9 w9 ho9 hb9)))
                  have B9 := Lib.hid (X6.out.trans ((balloc (Below.refl wr.heap.size wr) _).mono (by omega) |>.trans hb9))
                  refine ⟨⟨k + 1, hlt2, by go_num, .inr ⟨by omega, ?_⟩, B9.out⟩, by simp [intOf] <;> omega⟩
                  rw [show_step e v.name P k 116 hlt2 HC.out]
                  exact ho9
            · have hke : k = P.length := by omega
              have hkI : ¬ (k : Int) < (P.length : Int) := by omega
              have hp1 : 1 ≤ P.length := by
                rw [← HPP.out, ← HV.out]
                exact (show ∀ j, j < 15 → 1 ≤ (Shl.verbs.getD j dV).pat.length by decide) j hlt
              have hown : Own1 wr W5.heap.size 9 u6 (strs ((showW e v.name P).map bs)) := by
                rcases hov with ⟨h, -⟩ | ⟨-, h⟩
                · omega
                · rw [hke, List.take_length] at h; exact h
              have O6 := Lib.hid hown
              clear hov hown hb6
              go_upto_region 22 with fail
              have hsh := O6.out.shows
              rw [show_len] at hsh
              obtain ⟨a9, c9, hv9, hn9, hc9, -, hsh2⟩ := hsh.open
              obtain ⟨jb, jo, rfl, hcells⟩ := hsh2.cells1 (by rw [show_len]; omega)
              subst hv9
              have hpl : P.length ≤ 3 := by
                rw [← HPP.out, ← HV.out]
                exact (show ∀ j, j < 15 → (Shl.verbs.getD j dV).pat.length ≤ 3 by decide) j hlt
              have hjc : ∀ q, q < P.length + 1 → wr.cell? ⟨jb, jo + q, none⟩ = some (.string (bs ((showW e v.name P).getD q []))) := fun q hq => hcells q _ (by
                have hl : q < (showW e v.name P).length := by simp [showW]; omega
                unfold strs
                rw [List.getElem?_map, List.getElem?_map, List.getElem?_eq_getElem hl]
                simp [List.getD, hl])
              have hjb : jb < wr.heap.size := World.block_lt_of_cell? _ _ (hjc 0 (by omega))
              obtain ⟨L, hL⟩ : ∃ L, Shl.lineOf v e = L := ⟨_, rfl⟩
              have hL2 : Shl.joinL (showW e v.name P) = L := by rw [← hL, ← HPP.out]; rfl
              have hLl : L.length ≤ 4000404 := by rw [← hL]; exact Shl.lineOf_len e ha hb hn hsz v (by rw [← HV.out]; exact Shl.verb_mem hlt dV)
              have hj9 := Join_any jb jo (P.length + 1) c9 (showW e v.name P) wr (by simp [showW]) hjc hjb hn9 (by omega) (by rw [hL2]; omega)
              rw [hL2] at hj9
              have HJ := Lib.hid hj9
              have HLL := Lib.hid hL
              clear hL hL2 hcells hjc hsh hsh2 hj9
              go_upto_region 23 with (go_at_call 17; refine HJ.out.mono ?_; rintro en w7 ⟨rfl, hb7⟩; have B7 := Lib.hid (B6.out.trans (hb7.mono B6.out.size)); have E7 := Lib.hid (E6.out.keep hb7); have hs7 := hb7.size; clear hb7)
              clear O6 L6 V6 X6 E6 B6 HJ L5 V5 C5 E5 B5
              obtain ⟨pr, hpr⟩ : ∃ pr, Shl.parseL L = pr := ⟨_, rfl⟩
              have hpa := parse_any (bs L) (by rw [bs_size]; omega) w7 (HGW.out.keep B7.out)
              rw [bs_data, hpr] at hpa
              have HPR := Lib.hid hpr
              clear hpr
              rcases pr with nn | x
              · obtain ⟨Y, hY⟩ : ∃ Y, evC ev00 = Y := ⟨_, rfl⟩
                have HYL : Hid (Y.length = 11) := by rw [← hY]; exact (rfl : (evC ev00).length = 11)
                have HY1 : Hid (∀ u ∈ Y, u.oneCell' = true) := by rw [← hY]; exact evOne ev00
                simp only [parseV, evV, Errs.flt, hY] at hpa
                have HPA := Lib.hid hpa
                clear hpa hY
                have HM : Hid (hitB e at_ ep ne nt v = false) := by show _ = _; unfold hitB; rw [HLL.out, HPR.out]; simp
                go_wp2_with (first
                  | (go_at_call 18; refine HPA.out.mono ?_; rintro en w8 ⟨rfl, hb8⟩; have B8 := Lib.hid (B7.out.trans (hb8.mono B7.out.size)); have E8 := Lib.hid (E7.out.keep hb8); have hs8 := hb8.size; have hs8b := B8.out.size; clear hb8)
                  | (refine store_box rfl 28 (.tmp 10) (.tmp 100) (by rfl) w8.heap.size (by rfl) Y (by rfl) 28 (evC ev00) (Row.new w8 _ _) (by rw [HYL.out]; rfl) (by rw [HYL.out]; kernel_rfl) HY1.out ?_; intro w9 hr9 hu9; have R9 := Lib.hid hr9; have B9 := Lib.hid (Upd.below' (B8.out.alloc hs8b _) hu9 hs8b (by simp; omega)); have E9 := Lib.hid (hu9.row (E8.out.alloc _) (by omega)); clear hr9 hu9))
                exact FIN.out HM.out _ B9.out
              · have hsm : ∀ w, Calls Tryz.prog 19 #[.agg (evC x).toArray, .agg (evW e at_ ep se st).toArray] w fun en w' => en = .returned (.bool (sameB x e at_ ep ne nt)) ∧ Below w.heap.size w w' := fun w => by
                  rw [← HSE.out, ← HST.out]; exact same_any x e at_ ep ae at2 ne ce nt ct w hne hnt
                obtain ⟨Y, hY⟩ : ∃ Y, evC x = Y := ⟨_, rfl⟩
                have HYL : Hid (Y.length = 11) := by rw [← hY]; exact (rfl : (evC x).length = 11)
                have HY1 : Hid (∀ u ∈ Y, u.oneCell' = true) := by rw [← hY]; exact evOne x
                simp only [parseV, evV, hY] at hpa
                rw [hY] at hsm
                have HPA := Lib.hid hpa
                clear hpa hY
                obtain ⟨sb, hsb⟩ : ∃ sb, sameB x e at_ ep ne nt = sb := ⟨_, rfl⟩
                rw [hsb] at hsm
                have HSB := Lib.hid hsb
                have HSM := Lib.hid hsm
                clear hsm hsb
                have HEL : Hid ((evW e at_ ep se st).length = 11) := (rfl : (evW e at_ ep se st).length = 11)
                obtain ⟨Z, hZ⟩ : ∃ Z, evW e at_ ep se st = Z := ⟨_, rfl⟩
                rw [hZ] at HEL HSM E7
                clear hZ
                cases sb
                · have HM : Hid (hitB e at_ ep ne nt v = false) := by show _ = _; unfold hitB; rw [HLL.out, HPR.out]; show (_ && sameB x e at_ ep ne nt) = false; rw [HSB.out, Bool.and_false]
                  go_wp2_with (first
                    | (go_at_call 18; refine HPA.out.mono ?_; rintro en w8 ⟨rfl, hb8⟩; have B8 := Lib.hid (B7.out.trans (hb8.mono B7.out.size)); have E8 := Lib.hid (E7.out.keep hb8); have hs8 := hb8.size; have hs8b := B8.out.size; clear hb8)
                    | (refine store_box rfl 28 (.tmp 10) (.tmp 100) (by rfl) w8.heap.size (by rfl) Y (by rfl) 28 (evC ev00) (Row.new w8 _ _) (by rw [HYL.out]; rfl) (by rw [HYL.out]; kernel_rfl) HY1.out ?_; intro w9 hr9 hu9; have R9 := Lib.hid hr9; have B9 := Lib.hid (Upd.below' (B8.out.alloc hs8b _) hu9 hs8b (by simp; omega)); have E9 := Lib.hid (hu9.row (E8.out.alloc _) (by omega)); clear hr9 hu9)
                    | (refine load_box_g (by kernel_rfl) 28 (.tmp 10) rfl w8.heap.size rfl Y 28 R9.out _ Tryz.underlying28 rfl (by rw [HYL.out]; kernel_rfl) ?_)
                    | (refine load_box_g (by kernel_rfl) 28 (.tmp 1) rfl w.heap.size rfl Z 28 E9.out _ Tryz.underlying28 rfl (by rw [HEL.out]; kernel_rfl) ?_)
                    | (go_at_call 19; refine (HSM.out _).mono ?_; rintro en w10 ⟨rfl, hb10⟩; have B10 := Lib.hid (B9.out.trans (hb10.mono B9.out.size)); clear hb10))
                  exact FIN.out HM.out _ B10.out
                · have HM : Hid (hitB e at_ ep ne nt v = true) := by show _ = _; unfold hitB; rw [HLL.out, HPR.out, HHIT.out]; show (_ && sameB x e at_ ep ne nt) = true; rw [HSB.out]; rfl
                  go_wp2_with (first
                    | (go_at_call 18; refine HPA.out.mono ?_; rintro en w8 ⟨rfl, hb8⟩; have B8 := Lib.hid (B7.out.trans (hb8.mono B7.out.size)); have E8 := Lib.hid (E7.out.keep hb8); have hs8 := hb8.size; have hs8b := B8.out.size; clear hb8)
                    | (refine store_box rfl 28 (.tmp 10) (.tmp 100) (by rfl) w8.heap.size (by rfl) Y (by rfl) 28 (evC ev00) (Row.new w8 _ _) (by rw [HYL.out]; rfl) (by rw [HYL.out]; kernel_rfl) HY1.out ?_; intro w9 hr9 hu9; have R9 := Lib.hid hr9; have B9 := Lib.hid (Upd.below' (B8.out.alloc hs8b _) hu9 hs8b (by simp; omega)); have E9 := Lib.hid (hu9.row (E8.out.alloc _) (by omega)); clear hr9 hu9)
                    | (refine load_box_g (by kernel_rfl) 28 (.tmp 10) rfl w8.heap.size rfl Y 28 R9.out _ Tryz.underlying28 rfl (by rw [HYL.out]; kernel_rfl) ?_)
                    | (refine load_box_g (by kernel_rfl) 28 (.tmp 1) rfl w.heap.size rfl Z 28 E9.out _ Tryz.underlying28 rfl (by rw [HEL.out]; kernel_rfl) ?_)
                    | (go_at_call 19; refine (HSM.out _).mono ?_; rintro en w10 ⟨rfl, hb10⟩; have B10 := Lib.hid (B9.out.trans (hb10.mono B9.out.size)); clear hb10))
                  go_ret2
                  refine ⟨?_, B1.out.trans (B10.out.mono B1.out.size)⟩
                  unfold showV
                  rw [Shl.verbs_one (hitB e at_ ep ne nt) dV j hlt H1.out (by rw [HV.out]; exact HM.out), HV.out]
                  simp only []
                  rw [HLL.out]
                  all_goals rfl
        · rw [c0] at c1 hc1
          have c1b : (e.kind == 0) = false := beq_eq_false_iff_ne.2 c1
          have HHIT := Lib.hid HOT
          have C0 := Lib.hid c0
          have C1 := Lib.hid c1
          clear c0 c1 HOT
          go_upto_region 6 with fail
          obtain ⟨W4, hW4⟩ : ∃ W4, w3.alloc (.cells #[.string (bs v.name)] 9) = W4 := ⟨_, rfl⟩
          have L4 : Hid (Row W4 w3.heap.size 9 [.string (bs v.name)]) := by rw [← hW4]; exact Row.new w3 _ _
          have B4 : Hid (Below W.heap.size W W4) := by rw [← hW4]; exact B3.out.alloc (by omega) _
          have E4 : Hid (Row W4 w.heap.size 28 (evW e at_ ep se st)) := by rw [← hW4]; exact W2.out.alloc _
          have V4 : Hid (Row W4 vb 48 (verbV v)) := by rw [← hW4]; exact V3.out.alloc _
          have hs4 : w3.heap.size < W4.heap.size := by rw [← hW4]; simp
          have hva := V4.out.cell 3
          simp only [verbV, List.getElem?_cons_succ, List.getElem?_cons_zero] at hva
          rw [HPP.out] at hva
          rw [hW4]
          clear hW4 hc0 hc1 hc2 hc3 x0 x1 x2 x3 x4 x5 x6
          have hcv := Lib.run_convert_string_bytes (P := Tryz.prog) W4 9 26 5 (bs P) Tryz.underlying9 Tryz.underlying26 Tryz.underlying5
          go_upto_region 7 with fail
          obtain ⟨W5, hW5⟩ : ∃ W5, Lib.bytesWorld W4 5 (bs P) = W5 := ⟨_, rfl⟩
          rw [hW5]
          clear hcv
          generalize grownCap W4 (bs P).size 0 5 = cb at *
          have b5 : Below W4.heap.size W4 W5 := by rw [← hW5]; exact Lib.bytesWorld_below _ _ _
          have C5 : Hid (∀ k, k < P.length → W5.cell? ⟨W4.heap.size, k, none⟩ = some (.int .u8 ((P.getD k 0).toNat : Int))) := fun k hk => by rw [← hW5]; exact Lib.bytesWorld_cell W4 _ (bs P) k hk
          have hs5 : W4.heap.size < W5.heap.size := by rw [← hW5, Lib.bytesWorld_size]; omega
          have B5 := Lib.hid (B4.out.trans (b5.mono B4.out.size))
          have L5 := Lib.hid (L4.out.keep b5)
          have E5 := Lib.hid (E4.out.keep b5)
          have V5 := Lib.hid (V4.out.keep b5)
          clear hW5 b5 L4 E4 V4 V3 W2 B3 B4
          have hsb : W.heap.size ≤ W4.heap.size := by omega
          generalize W4.heap.size = bk at *
          have hsl : w3.heap.size < W5.heap.size := by omega
          have hvl : vb < W5.heap.size := by omega
          generalize w3.heap.size = lb at *
          go_loopw [6, 41] (fun ov iv wr => ∃ k : Nat, k ≤ P.length ∧ iv = .int .i64 k ∧ ((k = 0 ∧ ov = .slice (some ⟨lb, 0, none⟩) 1 1) ∨ (1 ≤ k ∧ Own1 wr W5.heap.size 9 ov (strs ((showW e v.name (P.take k)).map bs)))) ∧ Below W5.heap.size W5 wr) (fun _ iv _ => P.length - (intOf iv).toNat)
          case atStart => exact ⟨0, Nat.zero_le _, rfl, .inl ⟨rfl, rfl⟩, Below.refl _ _⟩
          case round =>
            obtain ⟨k, hk, rfl, hov, hb6⟩ := hrel
            have B6 := Lib.hid (B5.out.trans (hb6.mono B5.out.size))
            have E6 := Lib.hid (E5.out.keep hb6)
            have V6 := Lib.hid (V5.out.keep hb6)
            have L6 := Lib.hid (L5.out.keep hb6)
            have X6 := Lib.hid hb6
            have hs6 := hb6.size
            by_cases hlt2 : k < P.length
            · have hlt2I : (k : Int) < (P.length : Int) := by omega
              have hcb := bkeep hb6 (C5.out k hlt2)
              have x1 := E6.out.cell 1
              have x2 := E6.out.cell 2
              have x4 := E6.out.cell 4
              have x5 := E6.out.cell 5
              have x6 := E6.out.cell 6
              simp only [evW, List.getElem?_cons_succ, List.getElem?_cons_zero] at x1 x2 x4 x5 x6
              by_cases hk0 : k = 0
              · subst hk0
                have hov2 : u6 = .slice (some ⟨lb, 0, none⟩) 1 1 := by
                  rcases hov with ⟨-, h⟩ | ⟨h, -⟩
                  · exact h
                  · omega
                subst hov2
                have hr0 : P.getD 0 0 = 114 := by
                  rw [← HPP.out, ← HV.out]
                  exact (show ∀ j, j < 15 → (Shl.verbs.getD j dV).pat.getD 0 0 = 114 by decide) j hlt
                rw [hr0] at hcb
                have hcb2 : wr.cell? ⟨bk, 0, none⟩ = some (.int .u8 114) := hcb
                clear hcb hov hb6
                go_wp2_with (first
                  | (go_at_call 15; refine (Itoa_any e.a ha.1 ha.2 _ (HGW.out.keep B6.out)).mono ?_; rintro en w7 ⟨rfl, hb7⟩; have B7 := Lib.hid (X6.out.trans (hb7.mono hs6)); have L7 := Lib.hid (L6.out.keep hb7); have hs7 := hb7.size; clear hb7)
                  | (at_builtin; go_loud (refine app_full Tryz.underlying43 info_string rfl rfl (.tmp 54) (.tmp 58) rfl lb 1 [.string (bs v.name)] rfl rfl (fun j u hj => by rw [Nat.zero_add]; exact ((L7.out.alloc _).cell j).trans hj) w7.heap.size 1 1 [.string (bs (Lib.itoa e.a))] rfl rfl (fun j u hj => by rw [Nat.zero_add]; exact ((Row.new w7 9 [.string (bs (Lib.itoa e.a))]).cell j).trans hj) (by intro q hq; simp at hq; subst hq; rfl) (by omega) (by omega) (by omega) ?_; intro v9 w9 ho9 hb9)))
                have O9 : Hid (Own1 w9 W5.heap.size 9 v9 ([.string (bs v.name)] ++ [.string (bs (Lib.itoa e.a))])) := ho9.mono (by simp; omega)
                have B9 := Lib.hid (B7.out.trans ((balloc (Below.refl w7.heap.size w7) _).trans (hb9.mono (by simp))|>.mono (by omega)))
                refine ⟨⟨1, hlt2, by rfl, .inr ⟨Nat.le_refl _, ?_⟩, B9.out⟩, by simp [intOf] <;> omega⟩
                have ht : P.take 1 = [114] := by
                  rcases P with _ | ⟨c, P⟩
                  · simp at hlt2
                  · simp at hr0; simp [hr0]
                rw [ht]
                exact O9.out
              · obtain ⟨hk1, hown⟩ : 1 ≤ k ∧ Own1 wr W5.heap.size 9 u6 (strs ((showW e v.name (P.take k)).map bs)) := by
                  rcases hov with ⟨h, -⟩ | h
                  · exact absurd h hk0
                  · exact h
                have O6 := Lib.hid hown
                have hsk : (strs ((showW e v.name (P.take k)).map bs)).length = k + 1 := by rw [show_len, List.length_take]; omega
                have hpl : P.length ≤ 3 := by
                  rw [← HPP.out, ← HV.out]
                  exact (show ∀ j, j < 15 → (Shl.verbs.getD j dV).pat.length ≤ 3 by decide) j hlt
                have hc : P.getD k 0 = 98 := by
                  have h0 : (Shl.verbs.getD j dV).kind ≠ 0 := by rw [HV.out, C0.out]; exact C1.out
                  rw [← HPP.out, ← HV.out] at hlt2 ⊢
                  exact (show ∀ j, j < 15 → ∀ k, k < 3 → ((Shl.verbs.getD j dV).kind ≠ 0 ∧ 1 ≤ k ∧ k < (Shl.verbs.getD j dV).pat.length) → (Shl.verbs.getD j dV).pat.getD k 0 = 98 by decide) j hlt k (by omega) ⟨h0, hk1, hlt2⟩
                clear hov hown hb6
                have hcb2 : wr.cell? ⟨bk, k, none⟩ = some (.int .u8 98) := by have h := hcb; rw [hc] at h; exact h
                have HC := Lib.hid hc
                clear hcb hc
                go_wp2_with (first
                  | (go_at_call 15; refine (Itoa_any e.b hb.1 hb.2 _ (HGW.out.keep B6.out)).mono ?_; rintro en w7 ⟨rfl, hb7⟩; have B7 := Lib.hid (X6.out.trans (hb7.mono hs6)); have O7 := Lib.hid (Own1.below O6.out hb7); have hs7 := hb7.size; clear hb7)
                  | (at_builtin; go_loud (refine app_one (base := W5.heap.size) (l := strs ((showW e v.name (P.take k)).map bs)) (m := [.string (bs (Lib.itoa e.b))]) Tryz.underlying43 info_string rfl rfl (.tmp 62) (.tmp 66) rfl rfl (Own1.alloc O7.out _) rfl ((Own1.lit w7 9 [.string (bs (Lib.itoa e.b))]).shows) (by intro q hq; simp at hq; subst hq; rfl) (by rw [hsk]; simp; omega) (by rw [hsk]; simp; omega) (by simp; omega) ?_; intro v9 w9 ho9 hb9)))
                have B9 := Lib.hid (B7.out.trans ((balloc (Below.refl w7.heap.size w7) _).mono (by omega) |>.trans hb9))
                refine ⟨⟨k + 1, hlt2, by go_num, .inr ⟨by omega, ?_⟩, B9.out⟩, by simp [intOf] <;> omega⟩
                rw [show_step e v.name P k 98 hlt2 HC.out]
                exact ho9
            · have hke : k = P.length := by omega
              have hkI : ¬ (k : Int) < (P.length : Int) := by omega
              have hp1 : 1 ≤ P.length := by
                rw [← HPP.out, ← HV.out]
                exact (show ∀ j, j < 15 → 1 ≤ (Shl.verbs.getD j dV).pat.length by decide) j hlt
              have hown : Own1 wr W5.heap.size 9 u6 (strs ((showW e v.name P).map bs)) := by
                rcases hov with ⟨h, -⟩ | ⟨-, h⟩
                · omega
                · rw [hke, List.take_length] at h; exact h
              have O6 := Lib.hid hown
              clear hov hown hb6
              go_upto_region 22 with fail
              have hsh := O6.out.shows
              rw [show_len] at hsh
              obtain ⟨a9, c9, hv9, hn9, hc9, -, hsh2⟩ := hsh.open
              obtain ⟨jb, jo, rfl, hcells⟩ := hsh2.cells1 (by rw [show_len]; omega)
              subst hv9
              have hpl : P.length ≤ 3 := by
                rw [← HPP.out, ← HV.out]
                exact (show ∀ j, j < 15 → (Shl.verbs.getD j dV).pat.length ≤ 3 by decide) j hlt
              have hjc : ∀ q, q < P.length + 1 → wr.cell? ⟨jb, jo + q, none⟩ = some (.string (bs ((showW e v.name P).getD q []))) := fun q hq => hcells q _ (by
                have hl : q < (showW e v.name P).length := by simp [showW]; omega
                unfold strs
                rw [List.getElem?_map, List.getElem?_map, List.getElem?_eq_getElem hl]
                simp [List.getD, hl])
              have hjb : jb < wr.heap.size := World.block_lt_of_cell? _ _ (hjc 0 (by omega))
              obtain ⟨L, hL⟩ : ∃ L, Shl.lineOf v e = L := ⟨_, rfl⟩
              have hL2 : Shl.joinL (showW e v.name P) = L := by rw [← hL, ← HPP.out]; rfl
              have hLl : L.length ≤ 4000404 := by rw [← hL]; exact Shl.lineOf_len e ha hb hn hsz v (by rw [← HV.out]; exact Shl.verb_mem hlt dV)
              have hj9 := Join_any jb jo (P.length + 1) c9 (showW e v.name P) wr (by simp [showW]) hjc hjb hn9 (by omega) (by rw [hL2]; omega)
              rw [hL2] at hj9
              have HJ := Lib.hid hj9
              have HLL := Lib.hid hL
              clear hL hL2 hcells hjc hsh hsh2 hj9
              go_upto_region 23 with (go_at_call 17; refine HJ.out.mono ?_; rintro en w7 ⟨rfl, hb7⟩; have B7 := Lib.hid (B6.out.trans (hb7.mono B6.out.size)); have E7 := Lib.hid (E6.out.keep hb7); have hs7 := hb7.size; clear hb7)
              clear O6 L6 V6 X6 E6 B6 HJ L5 V5 C5 E5 B5
              obtain ⟨pr, hpr⟩ : ∃ pr, Shl.parseL L = pr := ⟨_, rfl⟩
              have hpa := parse_any (bs L) (by rw [bs_size]; omega) w7 (HGW.out.keep B7.out)
              rw [bs_data, hpr] at hpa
              have HPR := Lib.hid hpr
              clear hpr
              rcases pr with nn | x
              · obtain ⟨Y, hY⟩ : ∃ Y, evC ev00 = Y := ⟨_, rfl⟩
                have HYL : Hid (Y.length = 11) := by rw [← hY]; exact (rfl : (evC ev00).length = 11)
                have HY1 : Hid (∀ u ∈ Y, u.oneCell' = true) := by rw [← hY]; exact evOne ev00
                simp only [parseV, evV, Errs.flt, hY] at hpa
                have HPA := Lib.hid hpa
                clear hpa hY
                have HM : Hid (hitB e at_ ep ne nt v = false) := by show _ = _; unfold hitB; rw [HLL.out, HPR.out]; simp
                go_wp2_with (first
                  | (go_at_call 18; refine HPA.out.mono ?_; rintro en w8 ⟨rfl, hb8⟩; have B8 := Lib.hid (B7.out.trans (hb8.mono B7.out.size)); have E8 := Lib.hid (E7.out.keep hb8); have hs8 := hb8.size; have hs8b := B8.out.size; clear hb8)
                  | (refine store_box rfl 28 (.tmp 10) (.tmp 100) (by rfl) w8.heap.size (by rfl) Y (by rfl) 28 (evC ev00) (Row.new w8 _ _) (by rw [HYL.out]; rfl) (by rw [HYL.out]; kernel_rfl) HY1.out ?_; intro w9 hr9 hu9; have R9 := Lib.hid hr9; have B9 := Lib.hid (Upd.below' (B8.out.alloc hs8b _) hu9 hs8b (by simp; omega)); have E9 := Lib.hid (hu9.row (E8.out.alloc _) (by omega)); clear hr9 hu9))
                exact FIN.out HM.out _ B9.out
              · have hsm : ∀ w, Calls Tryz.prog 19 #[.agg (evC x).toArray, .agg (evW e at_ ep se st).toArray] w fun en w' => en = .returned (.bool (sameB x e at_ ep ne nt)) ∧ Below w.heap.size w w' := fun w => by
                  rw [← HSE.out, ← HST.out]; exact same_any x e at_ ep ae at2 ne ce nt ct w hne hnt
                obtain ⟨Y, hY⟩ : ∃ Y, evC x = Y := ⟨_, rfl⟩
                have HYL : Hid (Y.length = 11) := by rw [← hY]; exact (rfl : (evC x).length = 11)
                have HY1 : Hid (∀ u ∈ Y, u.oneCell' = true) := by rw [← hY]; exact evOne x
                simp only [parseV, evV, hY] at hpa
                rw [hY] at hsm
                have HPA := Lib.hid hpa
                clear hpa hY
                obtain ⟨sb, hsb⟩ : ∃ sb, sameB x e at_ ep ne nt = sb := ⟨_, rfl⟩
                rw [hsb] at hsm
                have HSB := Lib.hid hsb
                have HSM := Lib.hid hsm
                clear hsm hsb
                have HEL : Hid ((evW e at_ ep se st).length = 11) := (rfl : (evW e at_ ep se st).length = 11)
                obtain ⟨Z, hZ⟩ : ∃ Z, evW e at_ ep se st = Z := ⟨_, rfl⟩
                rw [hZ] at HEL HSM E7
                clear hZ
                cases sb
                · have HM : Hid (hitB e at_ ep ne nt v = false) := by show _ = _; unfold hitB; rw [HLL.out, HPR.out]; show (_ && sameB x e at_ ep ne nt) = false; rw [HSB.out, Bool.and_false]
                  go_wp2_with (first
                    | (go_at_call 18; refine HPA.out.mono ?_; rintro en w8 ⟨rfl, hb8⟩; have B8 := Lib.hid (B7.out.trans (hb8.mono B7.out.size)); have E8 := Lib.hid (E7.out.keep hb8); have hs8 := hb8.size; have hs8b := B8.out.size; clear hb8)
                    | (refine store_box rfl 28 (.tmp 10) (.tmp 100) (by rfl) w8.heap.size (by rfl) Y (by rfl) 28 (evC ev00) (Row.new w8 _ _) (by rw [HYL.out]; rfl) (by rw [HYL.out]; kernel_rfl) HY1.out ?_; intro w9 hr9 hu9; have R9 := Lib.hid hr9; have B9 := Lib.hid (Upd.below' (B8.out.alloc hs8b _) hu9 hs8b (by simp; omega)); have E9 := Lib.hid (hu9.row (E8.out.alloc _) (by omega)); clear hr9 hu9)
                    | (refine load_box_g (by kernel_rfl) 28 (.tmp 10) rfl w8.heap.size rfl Y 28 R9.out _ Tryz.underlying28 rfl (by rw [HYL.out]; kernel_rfl) ?_)
                    | (refine load_box_g (by kernel_rfl) 28 (.tmp 1) rfl w.heap.size rfl Z 28 E9.out _ Tryz.underlying28 rfl (by rw [HEL.out]; kernel_rfl) ?_)
                    | (go_at_call 19; refine (HSM.out _).mono ?_; rintro en w10 ⟨rfl, hb10⟩; have B10 := Lib.hid (B9.out.trans (hb10.mono B9.out.size)); clear hb10))
                  exact FIN.out HM.out _ B10.out
                · have HM : Hid (hitB e at_ ep ne nt v = true) := by show _ = _; unfold hitB; rw [HLL.out, HPR.out, HHIT.out]; show (_ && sameB x e at_ ep ne nt) = true; rw [HSB.out]; rfl
                  go_wp2_with (first
                    | (go_at_call 18; refine HPA.out.mono ?_; rintro en w8 ⟨rfl, hb8⟩; have B8 := Lib.hid (B7.out.trans (hb8.mono B7.out.size)); have E8 := Lib.hid (E7.out.keep hb8); have hs8 := hb8.size; have hs8b := B8.out.size; clear hb8)
                    | (refine store_box rfl 28 (.tmp 10) (.tmp 100) (by rfl) w8.heap.size (by rfl) Y (by rfl) 28 (evC ev00) (Row.new w8 _ _) (by rw [HYL.out]; rfl) (by rw [HYL.out]; kernel_rfl) HY1.out ?_; intro w9 hr9 hu9; have R9 := Lib.hid hr9; have B9 := Lib.hid (Upd.below' (B8.out.alloc hs8b _) hu9 hs8b (by simp; omega)); have E9 := Lib.hid (hu9.row (E8.out.alloc _) (by omega)); clear hr9 hu9)
                    | (refine load_box_g (by kernel_rfl) 28 (.tmp 10) rfl w8.heap.size rfl Y 28 R9.out _ Tryz.underlying28 rfl (by rw [HYL.out]; kernel_rfl) ?_)
                    | (refine load_box_g (by kernel_rfl) 28 (.tmp 1) rfl w.heap.size rfl Z 28 E9.out _ Tryz.underlying28 rfl (by rw [HEL.out]; kernel_rfl) ?_)
                    | (go_at_call 19; refine (HSM.out _).mono ?_; rintro en w10 ⟨rfl, hb10⟩; have B10 := Lib.hid (B9.out.trans (hb10.mono B9.out.size)); clear hb10))
                  go_ret2
                  refine ⟨?_, B1.out.trans (B10.out.mono B1.out.size)⟩
                  unfold showV
                  rw [Shl.verbs_one (hitB e at_ ep ne nt) dV j hlt H1.out (by rw [HV.out]; exact HM.out), HV.out]
                  simp only []
                  rw [HLL.out]
                  all_goals rfl
    · have hje : j = 15 := by omega
      have hltI : ¬ (j : Int) < 15 := by omega
      have HN : Hid (Shl.verbs.find? (hitB e at_ ep ne nt) = none) := Shl.verbs_each _ dV (fun k hk => H1.out k (by omega))
      go_wp2_with fail
      go_ret2
      refine ⟨?_, B1.out.trans (B2.out.mono B1.out.size)⟩
      unfold showV
      rw [HN.out]
      all_goals rfl
end Go.Proofs.YtojoeaaodomfnaaGreatDoor
