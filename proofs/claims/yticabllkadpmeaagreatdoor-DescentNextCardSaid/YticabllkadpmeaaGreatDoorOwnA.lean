/- Of no program: bytes of the call's own that begin anywhere in a row, and append onto them. -/
import Derived.Test.YticabllkadpmeaaGreatDoorBase
import Derived.Test.YticabllkadpmeaaGreatDoorRegion
import Derived.ArgAppend
import Derived.Laws.IdiomCopy
import Derived.Laws.CopyOwn
namespace Go.Proofs.YticabllkadpmeaaGreatDoor
set_option linter.unusedVariables false
set_option linter.unusedSimpArgs false
set_option linter.unnecessarySimpa false
open Go.RowKit

/-- v shows the bytes l, in a row of type e, at or beyond block 'base', of the call's own. -/
def OwnA (w : World) (base e : Nat) (v : Value) (l : List UInt8) : Prop :=
  (v = .slice none 0 0 ∧ l = []) ∨ ∃ g off cap C, v = .slice (some ⟨g, off, none⟩) l.length cap ∧ base ≤ g ∧ Row w g e C ∧ l.length ≤ cap ∧ off + cap ≤ C.length ∧ cap ≤ maxLen ∧ ∀ j, j < l.length → C[off + j]? = some (.int .u8 ((l.getD j 0).toNat : Int))
theorem OwnA.nil (w : World) (base e : Nat) : OwnA w base e (.slice none 0 0) [] := .inl ⟨rfl, rfl⟩
theorem OwnA.sh {w : World} {base e : Nat} {v : Value} {l : List UInt8} (h : OwnA w base e v l) : Sh w v l := by
  rcases h with ⟨rfl, rfl⟩ | ⟨g, off, cap, C, rfl, h1, h2, h3, h4, h5, h6⟩
  · exact Sh.nil w
  · refine ⟨by simp, _, _, rfl, h3, h5, fun e => by simp at e, fun x hx j u hu => ?_⟩
    simp only [Option.some.injEq] at hx
    subst hx
    have hj : j < l.length := by have := (List.getElem?_eq_some_iff.1 hu).1; simpa using this
    rw [Addr.add_lit, h2.cell, h6 j hj, ← hu, bytes_get, List.getElem?_eq_getElem hj]
    simp [List.getD, List.getElem?_eq_getElem hj]
theorem OwnA.of_own {w : World} {base e : Nat} {v : Value} {l : List UInt8} (h : Own w base e v l) : OwnA w base e v l := by
  rcases h.2 with ⟨hv, hn⟩ | ⟨g, cap, cur, hv, hb, hg, hnc, hcm, hcs, htake⟩
  · exact .inl ⟨hv, List.eq_nil_of_length_eq_zero hn⟩
  · refine .inr ⟨g, 0, cap, cur.toList, hv, hb, hg, hnc, by simp [hcs], hcm, fun j hj => ?_⟩
    have : (bytes l)[j]? = some (.int .u8 ((l.getD j 0).toNat : Int)) := by rw [bytes_get, List.getElem?_eq_getElem hj]; simp [List.getD, List.getElem?_eq_getElem hj]
    rw [← htake] at this
    rw [Nat.zero_add]
    rw [List.getElem?_take] at this
    split at this
    · exact this
    · cases this
theorem OwnA.below {w w' : World} {B base e : Nat} {v : Value} {l : List UInt8} (h : OwnA w base e v l) (hb : Below B w w') (hB : w.heap.size ≤ B) : OwnA w' base e v l := by
  rcases h with h | ⟨g, off, cap, C, hv, h1, h2, h3⟩
  · exact .inl h
  · exact .inr ⟨g, off, cap, C, hv, h1, Row.below h2 hb (by have := h2.lt; omega), h3⟩
/-- What is of another type is another block. -/
theorem OwnA.set_other {w : World} {base e p t j : Nat} {v : Value} {l : List UInt8} {K : List Value} (h : OwnA w base e v l) (hr : Row w p t K) (ht : e ≠ t) (u : Value) : OwnA (w.setCell ⟨p, j, none⟩ u) base e v l := by
  rcases h with h | ⟨g, off, cap, C, hv, h1, h2, h3⟩
  · exact .inl h
  · refine .inr ⟨g, off, cap, C, hv, h1, Row.set_other h2 ?_ u, h3⟩
    rintro rfl
    unfold Row at h2 hr
    rw [h2] at hr
    simp only [Option.some.injEq, Obj.cells.injEq] at hr
    exact ht hr.2.1
/-- A step that turns one block, of another type. -/
theorem OwnA.grown {w w' : World} {base e p t : Nat} {v : Value} {l : List UInt8} {K : List Value} (h : OwnA w base e v l) (hg : w.grownBy w' (some p)) (hr : Row w p t K) (ht : e ≠ t) : OwnA w' base e v l := by
  rcases h with h | ⟨g, off, cap, C, hv, h1, h2, h3⟩
  · exact .inl h
  · refine .inr ⟨g, off, cap, C, hv, h1, (hg.block g h2.lt fun hc => ?_).trans h2, h3⟩
    simp only [Option.some.injEq] at hc
    subst hc
    unfold Row at h2 hr
    rw [h2] at hr
    simp only [Option.some.injEq, Obj.cells.injEq] at hr
    exact ht hr.2.1
/-- 'v[k:]', as the walk writes it. -/
theorem OwnA.cut {w : World} {base e n cap k : Nat} {a z : Option Addr} {l : List UInt8} (h : OwnA w base e (.slice a n cap) l) (hk : k ≤ l.length) (hz : (if cap = k then a else a.map (fun x => x.add k)) = z) (h0 : 0 < k) : OwnA w base e (.slice z (n - k) (cap - k)) (l.drop k) := by
  rcases h with ⟨hv, rfl⟩ | ⟨g, off, cap', C, hv, h1, h2, h3, h4, h5, h6⟩
  · simp at hk; omega
  · simp only [Value.slice.injEq] at hv
    obtain ⟨rfl, rfl, rfl⟩ := hv
    have hl : (l.drop k).length = l.length - k := by simp
    by_cases hc : cap = k
    · rw [if_pos hc] at hz
      subst hz
      have : l.length = k := by omega
      refine .inr ⟨g, off, cap - k, C, by rw [hl], h1, h2, by omega, by omega, by omega, fun j hj => by rw [hl] at hj; omega⟩
    · rw [if_neg hc] at hz
      subst hz
      refine .inr ⟨g, off + k, cap - k, C, by rw [hl]; simp [Addr.add_lit], h1, h2, by omega, by omega, by omega, fun j hj => ?_⟩
      rw [hl] at hj
      rw [Nat.add_assoc, h6 (k + j) (by omega)]
      simp [List.getD, List.getElem?_drop]
theorem run_room_at {P : Program} {w : World} {t ty e : TypeId} {i : TypeInfo} (ht : P.underlying t = some (.slice e)) (hi : P.info? e = some i) (hz1 : i.size = 1) (g off n cap : Nat) (C : List Value) (T : TypeId) (hr : Row w g T C) {sv : Value} {m : List UInt8} (hsh : Sh w sv m)
    (hfit : n + m.length ≤ cap) (hC : off + cap ≤ C.length) :
    (Builtin.append_ #[t, t] ty #[.slice (some ⟨g, off, none⟩) n cap, sv]).run P w = .ok (.slice (some ⟨g, off, none⟩) (n + m.length) cap) (w.setRow g (splice C (off + n) (bytes m)).toArray) := by
  obtain ⟨hbl, ax, cx, rfl, q1, q2, q3, q4⟩ := hsh
  have hst := run_storeCells_at P g (off + n) T (bytes m) 0 C.toArray w hr (by simp; omega) (bytes_one m)
  have hsp : (C.toArray.toList.take (off + n + 0) ++ bytes m ++ C.toArray.toList.drop (off + n + 0 + (bytes m).length)).toArray = (splice C (off + n) (bytes m)).toArray := by simp [splice]
  rw [hsp] at hst
  cases ax with
  | none =>
    have h0 := q3 rfl
    have hm0 : m.length = 0 := by omega
    obtain rfl : m = [] := List.eq_nil_of_length_eq_zero hm0
    have hse : (splice C (off + n) (bytes [])).toArray = C.toArray := by simp [splice, bytes]
    have hself := setRow_self w g C.toArray T (0, 0) hr
    subst h0
    rw [hse, hself]
    simp at hfit
    simp [Builtin.append_, run_underlying ht, sizeOf, typeInfo, hi, Builtin.lenOf, Builtin.firstCells, hfit, storeCells]
  | some x =>
    have hl := run_loadCells_list (P := P) w x (bytes m) (q4 x rfl)
    have hl2 : (loadCells x (m.length * i.size)).run P w = .ok (bytes m).toArray w := by rw [hz1, Nat.mul_one]; simpa using hl
    have hadd : (⟨g, off, none⟩ : Addr).add (n * i.size) = ⟨g, off + n, none⟩ := by rw [hz1, Nat.mul_one, Addr.add_lit]
    simp [Builtin.append_, run_underlying ht, sizeOf, typeInfo, hi, Builtin.lenOf, Builtin.firstCells, hfit, hl2, hadd, hst]
theorem splice_at {α : Type} {L cs : List α} {o : Nat} (h : o + cs.length ≤ L.length) (j : Nat) : (splice L o cs)[j]? = if j < o then L[j]? else if j < o + cs.length then cs[j - o]? else L[j]? := by
  unfold splice
  have h1 : (L.take o).length = o := by simp; omega
  by_cases hj : j < o
  · rw [if_pos hj, List.getElem?_append_left (by omega), List.getElem?_take, if_pos hj]
  · rw [if_neg hj, List.getElem?_append_right (by omega), h1]
    by_cases hj2 : j < o + cs.length
    · rw [if_pos hj2, List.getElem?_append_left (by omega)]
    · rw [if_neg hj2, List.getElem?_append_right (by omega), List.getElem?_drop]
      congr 1; omega
theorem app_ownA {P : Program} {w : World} {ops : Array Oper} {rest : List Oper} {o : Oper} {a : Act} {Q : Exit → Act → World → Prop} {t e : TypeId} (ht : P.underlying t = some (.slice e)) (he : (P.info? e).map (fun i => (i.zero, i.size, i.bytes)) = some (some (.int .u8 0), 1, 1)) (hgd : o.guard = none) (s x : Operand)
    (ho : o.op = .call { callee := .builtin .append, args := #[s, x], argTypes := #[t, t] })
    {base : Nat} {v sv : Value} {l m : List UInt8} (hs : a.eval s = v) (hown : OwnA w base e v l) (hx : a.eval x = sv) (hsh : Sh w sv m) (hlen : l.length + m.length ≤ 140737488355328) (hbase : base ≤ w.heap.size)
    (hK : ∀ v' w', OwnA w' base e v' (l ++ m) → Below base w w' → wpList P ops Q rest (a.put o.dst v') w') : wpList P ops Q (o :: rest) a w := by
  obtain ⟨i, hi, hz0, hz1, hz2⟩ := info_parts he
  have e1 : (l ++ m).length = l.length + m.length := List.length_append
  rcases hown with ⟨rfl, rfl⟩ | ⟨g, off, cap, C, rfl, h1, h2, h3, h4, h5, h6⟩
  · exact app_bytes (base := base) ht he hgd s x ho hs (Own.nil w base e) hx hsh hlen hbase fun v' w' ho hb => hK v' w' (OwnA.of_own ho) hb
  by_cases hfit : l.length + m.length ≤ cap
  · have hrun := run_room_at (ty := o.type) ht hi hz1 g off l.length cap C e h2 hsh hfit h4
    refine wpList_plain hgd fun K hKK => ?_
    unfold Oper.wp
    simp [execOp, ho, resolve, invoke, builtin, hs, hx, hrun, Result.andThen]
    refine hKK _ _ (hK _ _ ?_ (below_setRow (Below.refl _ _) h1 _))
    have hlb : (bytes m).length = m.length := by simp
    refine .inr ⟨g, off, cap, splice C (off + l.length) (bytes m), by rw [e1], h1, setRow_heap w g _ _ e _ h2, by omega, by rw [length_splice _ _ _ (by omega)]; exact h4, h5, fun j hj => ?_⟩
    rw [splice_at (by omega)]
    by_cases hj1 : j < l.length
    · rw [if_pos (by omega), h6 j hj1]
      simp [List.getD, List.getElem?_append_left hj1]
    · rw [if_neg (by omega), if_pos (by omega), show off + j - (off + l.length) = j - l.length by omega, bytes_get, List.getElem?_eq_getElem (by omega)]
      simp [List.getD, List.getElem?_append_right (show l.length ≤ j by omega), List.getElem?_eq_getElem (show j - l.length < m.length by omega)]
  · obtain ⟨hbl, ax, cx, hse, q1, q2, q3, q4⟩ := hsh
    cases ax with
    | none => have := q3 rfl; omega
    | some ax =>
      have hw : OwnA w base e (.slice (some ⟨g, off, none⟩) l.length cap) l := .inr ⟨g, off, cap, C, rfl, h1, h2, h3, h4, h5, h6⟩
      have hcl : ∀ b, (some ⟨g, off, none⟩ : Option Addr) = some b → ∀ j u, (bytes l)[j]? = some u → w.cell? (b.add j) = some u := fun b hb j u hu => by
        obtain ⟨_, a2, c2, he2, _, _, _, hc⟩ := hw.sh
        simp only [Value.slice.injEq] at he2
        exact hc b (by rw [← he2.1]; exact hb) j u hu
      refine wpList_append_grows w hgd s x t ho e i (.int .u8 0) 1 1 ht hi hz0 hz1 hz2 rfl (by decide) (some ⟨g, off, none⟩) l.length cap (bytes l) hs (fun e => by simp at e) (by simp) hcl ax m.length cx (bytes m) (by rw [hx, hse]) hbl (q4 ax rfl) (bytes_one _) (by omega) (by simp only [maxLen]; omega) (by omega) ?_
      intro v' w' k1 k2
      have ho' : Own w' w.heap.size e v' (l ++ m) := by unfold Own; rw [bytes_append, e1]; exact k1
      exact hK v' w' (OwnA.of_own (ho'.mono hbase)) ((show Below w.heap.size w w' from ⟨k2.os, k2.tape, k2.output, k2.size, fun k hk => k2.block k hk (by simp)⟩).mono hbase)
end Go.Proofs.YticabllkadpmeaaGreatDoor
