/- Rows of the call's own that begin anywhere, their elements of one cell each: append, cut; a queue of paths. -/
import Derived.Test.YticabllkadpmeaaGreatDoorTAny
namespace Go.Proofs.YticabllkadpmeaaGreatDoor
set_option linter.unusedVariables false
set_option linter.unusedSimpArgs false
set_option linter.unnecessarySimpa false
open Go.RowKit

/-- v shows the values xs, in a row of type e, at or beyond block 'base', of the call's own. -/
def RowV (w : World) (base e : Nat) (v : Value) (xs : List Value) : Prop :=
  ∃ g off cap C, v = .slice (some ⟨g, off, none⟩) xs.length cap ∧ base ≤ g ∧ Row w g e C ∧ xs.length ≤ cap ∧ off + cap ≤ C.length ∧ cap ≤ maxLen ∧ ∀ j, j < xs.length → C[off + j]? = xs[j]?
theorem RowV.shows {w : World} {base e : Nat} {v : Value} {xs : List Value} (h : RowV w base e v xs) : Shows w 1 v xs.length xs := by
  obtain ⟨g, off, cap, C, rfl, h1, h2, h3, h4, h5, h6⟩ := h
  refine ⟨by simp, _, _, rfl, h3, h5, fun e => by simp at e, fun x hx j u hu => ?_⟩
  simp only [Option.some.injEq] at hx
  subst hx
  have hj : j < xs.length := (List.getElem?_eq_some_iff.1 hu).1
  rw [Addr.add_lit, h2.cell, h6 j hj, hu]
theorem RowV.lit (w : World) (e : Nat) (u : Value) : RowV (w.alloc (.cells #[u] e)) w.heap.size e (.slice (some ⟨w.heap.size, 0, none⟩) 1 1) [u] :=
  ⟨w.heap.size, 0, 1, [u], rfl, Nat.le_refl _, Row.new w e [u], Nat.le_refl _, Nat.le_refl _, by unfold maxLen; omega, fun j hj => by rw [Nat.zero_add]⟩
theorem RowV.cel {A B : World} {base e : Nat} {v : Value} {xs : List Value} (h : RowV A base e v xs) (hk : Cel A B) : RowV B base e v xs := by
  obtain ⟨g, off, cap, C, hv, h1, h2, h3⟩ := h
  exact ⟨g, off, cap, C, hv, h1, hk.same g _ h2 rfl, h3⟩
theorem RowV.cut {w : World} {base e n cap : Nat} {a z : Option Addr} {x : Value} {xs : List Value} (h : RowV w base e (.slice a n cap) (x :: xs)) (hz : (if cap = 1 then a else a.map (fun x => x.add 1)) = z) : RowV w base e (.slice z (n - 1) (cap - 1)) xs := by
  obtain ⟨g, off, cap', C, hv, h1, h2, h3, h4, h5, h6⟩ := h
  simp only [Value.slice.injEq] at hv
  obtain ⟨rfl, rfl, rfl⟩ := hv
  simp only [List.length_cons] at h3 h6
  by_cases hc : cap = 1
  · rw [if_pos hc] at hz
    subst hz
    exact ⟨g, off, cap - 1, C, by simp, h1, h2, by omega, by omega, by omega, fun j hj => by omega⟩
  · rw [if_neg hc] at hz
    subst hz
    refine ⟨g, off + 1, cap - 1, C, by simp [Addr.add_lit], h1, h2, by omega, by omega, by omega, fun j hj => ?_⟩
    have := h6 (j + 1) (by omega)
    rw [show off + 1 + j = off + (j + 1) by omega, this]
    simp
theorem run_room_atV {P : Program} {w : World} {t ty e : TypeId} {i : TypeInfo} (ht : P.underlying t = some (.slice e)) (hi : P.info? e = some i) (hz1 : i.size = 1) (g off n cap : Nat) (C : List Value) (T : TypeId) (hr : Row w g T C) {sv : Value} {m : List Value} (hsh : Shows w 1 sv m.length m) (h1 : ∀ u ∈ m, u.oneCell' = true)
    (hfit : n + m.length ≤ cap) (hC : off + cap ≤ C.length) :
    (Builtin.append_ #[t, t] ty #[.slice (some ⟨g, off, none⟩) n cap, sv]).run P w = .ok (.slice (some ⟨g, off, none⟩) (n + m.length) cap) (w.setRow g (splice C (off + n) m).toArray) := by
  obtain ⟨hbl, ax, cx, rfl, q1, q2, q3, q4⟩ := hsh
  have hst := run_storeCells_at P g (off + n) T m 0 C.toArray w hr (by simp; omega) h1
  have hsp : (C.toArray.toList.take (off + n + 0) ++ m ++ C.toArray.toList.drop (off + n + 0 + m.length)).toArray = (splice C (off + n) m).toArray := by simp [splice]
  rw [hsp] at hst
  cases ax with
  | none =>
    have h0 := q3 rfl
    have hm0 : m.length = 0 := by omega
    obtain rfl : m = [] := List.eq_nil_of_length_eq_zero hm0
    have hse : (splice C (off + n) ([] : List Value)).toArray = C.toArray := by simp [splice]
    have hself := setRow_self w g C.toArray T (0, 0) hr
    subst h0
    rw [hse, hself]
    simp at hfit
    simp [Builtin.append_, run_underlying ht, sizeOf, typeInfo, hi, Builtin.lenOf, Builtin.firstCells, hfit, storeCells]
  | some x =>
    have hl := run_loadCells_list (P := P) w x m (q4 x rfl)
    have hl2 : (loadCells x (m.length * i.size)).run P w = .ok m.toArray w := by rw [hz1, Nat.mul_one]; simpa using hl
    have hadd : (⟨g, off, none⟩ : Addr).add (n * i.size) = ⟨g, off + n, none⟩ := by rw [hz1, Nat.mul_one, Addr.add_lit]
    simp [Builtin.append_, run_underlying ht, sizeOf, typeInfo, hi, Builtin.lenOf, Builtin.firstCells, hfit, hl2, hadd, hst]
theorem app_rowV {P : Program} {t e : TypeId} {z : Value} {by_ : Nat} (ht : P.underlying t = some (.slice e)) (he : (P.info? e).map (fun i => (i.zero, i.size, i.bytes)) = some (some z, 1, by_)) (hz : z.cells.size = 1)
    {w : World} {ops : Array Oper} {rest : List Oper} {o : Oper} {a : Act} {Q : Exit → Act → World → Prop} (hgd : o.guard = none) (s x : Operand)
    (ho : o.op = .call { callee := .builtin .append, args := #[s, x], argTypes := #[t, t] })
    {base : Nat} {v sv : Value} {l m : List Value} (hs : a.eval s = v) (hown : RowV w base e v l) (hx : a.eval x = sv) (hsh : Shows w 1 sv m.length m) (h1 : ∀ u ∈ m, u.oneCell' = true)
    (hlen : l.length + m.length ≤ 140737488355328) (hlen2 : (l.length + m.length) * by_ ≤ 140737488355328) (hbase : base ≤ w.heap.size)
    (hK : ∀ v' w', RowV w' base e v' (l ++ m) → Below base w w' → (∀ b T C, T ≠ e → Row w b T C → Row w' b T C) → wpList P ops Q rest (a.put o.dst v') w') : wpList P ops Q (o :: rest) a w := by
  obtain ⟨i, hi, hz0, hz1, hz2⟩ := info_parts he
  have e1 : (l ++ m).length = l.length + m.length := List.length_append
  obtain ⟨g, off, cap, C, rfl, k1, k2, k3, k4, k5, k6⟩ := hown
  by_cases hfit : l.length + m.length ≤ cap
  · have hrun := run_room_atV (ty := o.type) ht hi hz1 g off l.length cap C e k2 hsh h1 hfit k4
    refine wpList_plain hgd fun K hKK => ?_
    unfold Oper.wp
    simp [execOp, ho, resolve, invoke, builtin, hs, hx, hrun, Result.andThen]
    refine hKK _ _ (hK _ _ ?_ (below_setRow (Below.refl _ _) k1 _) ?_)
    · refine ⟨g, off, cap, splice C (off + l.length) m, by rw [e1], k1, setRow_heap w g _ _ e _ k2, by omega, by rw [length_splice _ _ _ (by omega)]; exact k4, k5, fun j hj => ?_⟩
      rw [splice_at (by omega)]
      by_cases hj1 : j < l.length
      · rw [if_pos (by omega), k6 j hj1, List.getElem?_append_left hj1]
      · rw [if_neg (by omega), if_pos (by omega), show off + j - (off + l.length) = j - l.length by omega, List.getElem?_append_right (by omega)]
    · intro b T D hT hr
      refine (setRow_other w g b _ ?_).trans hr
      rintro rfl
      unfold Row at hr k2
      rw [k2] at hr
      simp only [Option.some.injEq, Obj.cells.injEq] at hr
      exact hT hr.2.1.symm
  · have hw : RowV w base e (.slice (some ⟨g, off, none⟩) l.length cap) l := ⟨g, off, cap, C, rfl, k1, k2, k3, k4, k5, k6⟩
    obtain ⟨hbl, ax, cx, hse, q1, q2, q3, q4⟩ := hsh
    cases ax with
    | none => have := q3 rfl; omega
    | some ax =>
      have hcl : ∀ b, (some ⟨g, off, none⟩ : Option Addr) = some b → ∀ j u, l[j]? = some u → w.cell? (b.add j) = some u := fun b hb j u hu => by
        obtain ⟨_, a2, c2, he2, _, _, _, hc⟩ := hw.shows
        simp only [Value.slice.injEq] at he2
        exact hc b (by rw [← he2.1]; exact hb) j u hu
      refine wpList_append_grows w hgd s x t ho e i z 1 by_ ht hi hz0 hz1 hz2 hz (by decide) (some ⟨g, off, none⟩) l.length cap l hs (fun e => by simp at e) (by simp) hcl ax m.length cx m (by rw [hx, hse]) hbl (q4 ax rfl) h1 (by omega) (by simp only [maxLen]; omega) hlen2 ?_
      intro v' w' r1 r2
      have hb' : Below w.heap.size w w' := ⟨r2.os, r2.tape, r2.output, r2.size, fun k hk => r2.block k hk (by simp)⟩
      refine hK v' w' ?_ (hb'.mono hbase) (fun b T D hT hr => (r2.block b hr.lt (by simp)).trans hr)
      rcases r1.2 with ⟨hv, hn⟩ | ⟨g2, cap2, cur, hv, s1, s2, s3, s4, s5, s6⟩
      · omega
      · refine ⟨g2, 0, cap2, cur.toList, by rw [e1]; exact hv, Nat.le_trans hbase s1, s2, by rw [e1]; exact s3, by simp [s5], s4, fun j hj => ?_⟩
        rw [Nat.zero_add]
        have : (List.take (l ++ m).length cur.toList)[j]? = (l ++ m)[j]? := by
          have h9 := s6
          rw [Nat.mul_one] at h9
          rw [e1, h9]
        rw [List.getElem?_take, if_pos hj] at this
        exact this
/-- A queue of paths. -/
def Que (w : World) (base : Nat) (v : Value) (Ps : List (List Int)) : Prop :=
  ∃ xs : List Value, RowV w base 23 v xs ∧ xs.length = Ps.length ∧ ∀ j, j < xs.length → OwnN w 0 (xs.getD j undef) (Ps.getD j [])
theorem Que.cel {A B : World} {base : Nat} {v : Value} {Ps : List (List Int)} (h : Que A base v Ps) (hk : Cel A B) : Que B base v Ps := by
  obtain ⟨xs, h1, h2, h3⟩ := h
  exact ⟨xs, h1.cel hk, h2, fun j hj => (h3 j hj).cel hk⟩
theorem Que.start (w : World) : Que (w.alloc (.cells #[.slice none 0 0] 23)) w.heap.size (.slice (some ⟨w.heap.size, 0, none⟩) 1 1) [[]] :=
  ⟨_, RowV.lit w _ _, rfl, fun j hj => by
    obtain rfl : j = 0 := by simpa using hj
    exact OwnN.nil _ _⟩
theorem Que.len {w : World} {base : Nat} {v : Value} {Ps : List (List Int)} (h : Que w base v Ps) : ∃ g o c, v = .slice (some ⟨g, o, none⟩) Ps.length c ∧ Ps.length ≤ c ∧ c ≤ 9223372036854775807 := by
  obtain ⟨xs, ⟨g, off, cap, C, hv, h1, h2, h3, h4, h5, h6⟩, k2, k3⟩ := h
  exact ⟨g, off, cap, by rw [← k2]; exact hv, by omega, by simpa [maxLen] using h5⟩
theorem Que.head {w : World} {base n c : Nat} {a : Option Addr} {P : List Int} {Ps : List (List Int)} (h : Que w base (.slice a n c) (P :: Ps)) : ∃ g o u, a = some ⟨g, o, none⟩ ∧ w.cell? ⟨g, o, none⟩ = some u ∧ OwnN w 0 u P := by
  obtain ⟨xs, ⟨g, off, cap, C, hv, h1, h2, h3, h4, h5, h6⟩, k2, k3⟩ := h
  simp only [Value.slice.injEq] at hv
  obtain ⟨rfl, rfl, rfl⟩ := hv
  have hl : 0 < xs.length := by rw [k2]; simp
  refine ⟨g, off, xs.getD 0 undef, rfl, ?_, k3 0 hl⟩
  rw [h2.cell]
  have := h6 0 hl
  rw [Nat.add_zero] at this
  rw [this]
  simp [List.getD, List.getElem?_eq_getElem hl]
theorem Que.cut {w : World} {base n c : Nat} {a z : Option Addr} {P : List Int} {Ps : List (List Int)} (h : Que w base (.slice a n c) (P :: Ps)) (hz : (if c = 1 then a else a.map (fun x => x.add 1)) = z) : Que w base (.slice z (n - 1) (c - 1)) Ps := by
  obtain ⟨xs, h1, h2, h3⟩ := h
  match xs, h1, h2, h3 with
  | x :: xs, h1, h2, h3 =>
    refine ⟨xs, h1.cut hz, by simpa using h2, fun j hj => ?_⟩
    have := h3 (j + 1) (by simpa using hj)
    simpa [List.getD] using this
theorem own_rows {w w' : World} {base e size n : Nat} {v : Value} {xs : List Value} (h : w.ownsRow base e size v n xs) (hk : ∀ b T C, T ≠ 23 → Row w b T C → Row w' b T C) (he : e ≠ 23) : w'.ownsRow base e size v n xs := by
  refine ⟨h.1, ?_⟩
  rcases h.2 with hv | ⟨g, cap, cur, hv, a1, a2, a3⟩
  · exact .inl hv
  · refine .inr ⟨g, cap, cur, hv, a1, ?_, a3⟩
    have := hk g e cur.toList he (by unfold Row; simpa using a2)
    unfold Row at this
    simpa using this
theorem app_que {w : World} {ops : Array Oper} {rest : List Oper} {o : Oper} {a : Act} {Q : Exit → Act → World → Prop} (hgd : o.guard = none) (s x : Operand)
    (ho : o.op = .call { callee := .builtin .append, args := #[s, x], argTypes := #[26, 26] })
    {base B2 : Nat} {v sv : Value} {Ps Qs : List (List Int)} (hs : a.eval s = v) (hown : Que w base v Ps) (hx : a.eval x = sv) (hsh : PL w B2 sv Qs)
    (hlen : Ps.length + Qs.length ≤ 1000000000) (hbase : base ≤ w.heap.size)
    (hK : ∀ v' w', Que w' base v' (Ps ++ Qs) → Below base w w' → (∀ b T C, T ≠ 23 → Row w b T C → Row w' b T C) → wpList Tryz.prog ops Q rest (a.put o.dst v') w') : wpList Tryz.prog ops Q (o :: rest) a w := by
  obtain ⟨xs, h1, h2, h3⟩ := hown
  obtain ⟨ys, g1, g2, g3⟩ := hsh
  refine app_rowV Tryz.underlying26 slice_info rfl hgd s x ho hs h1 hx (Shows.of_own g1) (fun u hu => ?_) (by omega) (by omega) hbase fun v' w' k1 k2 k3 => hK v' w' ⟨xs ++ ys, k1, by simp [h2, g2], fun j hj => ?_⟩ k2 k3
  · obtain ⟨j, hj, rfl⟩ := List.getElem_of_mem hu
    have := g3 j hj
    rw [show ys.getD j undef = ys[j] from by simp [List.getD, List.getElem?_eq_getElem hj]] at this
    obtain ⟨a, n, c, hv⟩ := this.form
    rw [hv]; rfl
  · by_cases hj1 : j < xs.length
    · rw [show (xs ++ ys).getD j undef = xs.getD j undef from by simp [List.getD, List.getElem?_append_left hj1], show (Ps ++ Qs).getD j [] = Ps.getD j [] from by simp [List.getD, List.getElem?_append_left (show j < Ps.length by omega)]]
      exact own_rows (h3 j hj1) k3 (by decide)
    · have hj2 : j - xs.length < ys.length := by rw [List.length_append] at hj; omega
      rw [show (xs ++ ys).getD j undef = ys.getD (j - xs.length) undef from by simp [List.getD, List.getElem?_append_right (show xs.length ≤ j by omega)], show (Ps ++ Qs).getD j [] = Qs.getD (j - xs.length) [] from by rw [h2]; simp [List.getD, List.getElem?_append_right (show Ps.length ≤ j by omega)]]
      exact own_rows (g3 _ hj2) k3 (by decide)
end Go.Proofs.YticabllkadpmeaaGreatDoor
