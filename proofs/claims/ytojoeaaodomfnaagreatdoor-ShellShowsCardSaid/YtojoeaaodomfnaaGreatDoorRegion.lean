/- Of no program: append onto a row of the call's own as a step of a region that draws its order. -/
import Derived.Test.YtojoeaaodomfnaaGreatDoorBase
import Derived.Test.YtojoeaaodomfnaaGreatDoorArr
import Derived.Deep.RegionWith
import Derived.Deep.DeepCutAuto
import Derived.Deep.RegionLaw
import Derived.Deep.QuietTactic
import Derived.BigQuiet
import Derived.StillTailTactics
namespace Go.Proofs.YtojoeaaodomfnaaGreatDoor
set_option linter.unusedVariables false
set_option linter.unusedSimpArgs false
set_option linter.unnecessarySimpa false
open Go.RowKit

section
variable {P : Program}
theorem run_append_shows (w : World) (base : Nat) (t ty e : TypeId) (i : TypeInfo) (z : Value) (size bytes : Nat) (ht : P.underlying t = some (.slice e)) (hi : P.info? e = some i) (hz : i.zero = some z)
    (hsize : i.size = size) (hby : i.bytes = bytes) (hzs : z.cells.size = size) (hsz : 0 < size)
    (v : Value) (n : Nat) (xs : List Value) (hown : w.ownsRow base e size v n xs) (sv : Value) (m : Nat) (news : List Value) (hsh : Shows w size sv m news) (h1 : ∀ u ∈ news, u.oneCell' = true)
    (h63 : n + m ≤ maxLen) (hbytes : (n + m) * bytes ≤ 140737488355328) (hbase : base ≤ w.heap.size) :
    ∃ v' w', (Builtin.append_ #[t, t] ty #[v, sv]).run P w = .ok v' w' ∧ w'.ownsRow base e size v' (n + m) (xs ++ news) ∧ w.grownBy w' v.ownBlock := by
  obtain ⟨hl, ad, c, rfl, h2, h3, h4, h5⟩ := hsh
  cases ad with
  | some ad =>
    obtain ⟨v', w', hr, g1, g2, _⟩ := run_append_own (P := P) w base t ty e i z size bytes ht hi hz hsize hby hzs hsz v n xs hown ad m c news hl (h5 ad rfl) h1 h63 hbytes hbase
    exact ⟨v', w', hr, g1, g2⟩
  | none =>
    have hc := h4 rfl
    subst hc
    obtain rfl : m = 0 := by omega
    have hn : news = [] := List.eq_nil_of_length_eq_zero (by simpa using hl)
    subst hn
    exact ⟨v, w, run_append_owned_none (P := P) (w := w) base t ty e i size ht hi v n xs hown, by simpa using hown, World.grownBy.refl _ _⟩
theorem step_app_one {t e : TypeId} {z : Value} {by_ : Nat} (ht : P.underlying t = some (.slice e)) (he : (P.info? e).map (fun i => (i.zero, i.size, i.bytes)) = some (some z, 1, by_)) (hz : z.cells.size = 1)
    {ops : Array Oper} {o : Oper} {a : Act} {w : World} {K : Act → World → Prop} {Q : Exit → Act → World → Prop} {E : Prop} (hgd : o.guard = none) (s x : Operand)
    (ho : o.op = .call { callee := .builtin .append, args := #[s, x], argTypes := #[t, t] })
    {base : Nat} {v sv : Value} {l m : List Value} (hs : a.eval s = v) (hown : Own1 w base e v l) (hx : a.eval x = sv) (hsh : Shows w 1 sv m.length m) (h1 : ∀ u ∈ m, u.oneCell' = true)
    (hlen : l.length + m.length ≤ 140737488355328) (hlen2 : (l.length + m.length) * by_ ≤ 140737488355328) (hbase : base ≤ w.heap.size)
    (h : ∀ v' w', Own1 w' base e v' (l ++ m) → Below base w w' → K (a.put o.dst v') w') : if Region.wanted o (yielded ops a.tmps) = true then Oper.wp P o a w K Q else E := by
  have hw : Region.wanted o (yielded ops a.tmps) = true := by simp [Region.wanted, hgd]
  rw [if_pos hw]
  obtain ⟨i, hi, hz0, hz1, hz2⟩ := info_parts he
  obtain ⟨v', w', hr, g1, g2⟩ := run_append_shows (P := P) w base t o.type e i z 1 by_ ht hi hz0 hz1 hz2 hz (by decide) v _ _ hown sv _ _ hsh h1 (by simp only [maxLen]; omega) hlen2 hbase
  unfold Oper.wp
  simp [execOp, ho, resolve, invoke, builtin, hs, hx, hr, Result.andThen]
  refine h v' w' ?_ ((Below.refl _ _).grown g2 hbase fun k hk => (World.ownsRow.lt hown k hk).1)
  unfold Own1
  rw [List.length_append]; exact g1
/-- 'append([]T{}, l...)': what is made is new, whatever there was stands. -/
theorem run_app_fresh (w : World) (t ty e : TypeId) (i : TypeInfo) (z : Value) (size bytes : Nat) (ht : P.underlying t = some (.slice e)) (hi : P.info? e = some i) (hz : i.zero = some z)
    (hsize : i.size = size) (hby : i.bytes = bytes) (hzs : z.cells.size = size) (hsz : 0 < size)
    (g : Nat) (hg : Row w g e []) (sv : Value) (m : Nat) (news : List Value) (hsh : Shows w size sv m news) (h1 : ∀ u ∈ news, u.oneCell' = true)
    (h63 : m ≤ maxLen) (hbytes : m * bytes ≤ 140737488355328) :
    ∃ v' w', (Builtin.append_ #[t, t] ty #[.slice (some ⟨g, 0, none⟩) 0 0, sv]).run P w = .ok v' w' ∧ w'.ownsRow g e size v' m news ∧ Below w.heap.size w w' := by
  have hown : w.ownsRow g e size (.slice (some ⟨g, 0, none⟩) 0 0) 0 [] := ⟨by simp, .inr ⟨g, 0, #[], rfl, Nat.le_refl _, hg, Nat.le_refl _, by simp [maxLen], by simp, by simp⟩⟩
  obtain ⟨hl, ad, c, rfl, h2, h3, h4, h5⟩ := hsh
  have hgl : g < w.heap.size := hg.lt
  cases ad with
  | none =>
    have hc := h4 rfl
    subst hc
    obtain rfl : m = 0 := by omega
    have hn : news = [] := List.eq_nil_of_length_eq_zero (by simpa using hl)
    subst hn
    exact ⟨_, w, run_append_owned_none (P := P) (w := w) g t ty e i size ht hi _ 0 [] hown, hown, Below.refl _ _⟩
  | some ad =>
    obtain ⟨v', w', hr, g1, g2, _⟩ := run_append_own (P := P) w g t ty e i z size bytes ht hi hz hsize hby hzs hsz _ 0 [] hown ad m c news hl (h5 ad rfl) h1 (by omega) (by simpa using hbytes) (Nat.le_of_lt hgl)
    refine ⟨v', w', hr, by simpa using g1, ?_⟩
    by_cases hm : m = 0
    · subst hm
      have hn : news = [] := List.eq_nil_of_length_eq_zero (by simpa using hl)
      subst hn
      have hr2 := run_append_room (P := P) w t ty e i ht hi g 0 0 #[] hg ad 0 c [] (by simp) (by simp) (by simp) (by simp) (by simp)
      rw [hr] at hr2
      simp only [Result.ok.injEq] at hr2
      obtain ⟨_, rfl⟩ := hr2
      refine ⟨rfl, rfl, rfl, by simp, fun k _ => ?_⟩
      by_cases hk : k = g
      · subst hk
        rw [setRow_heap w k #[] _ e (0, 0) hg]
        simpa using hg.symm
      · exact setRow_other w g k _ hk
    · subst hsize
      subst hby
      have hr2 := run_append_grow (P := P) w t ty e i z ht hi hz ⟨g, 0, none⟩ 0 0 [] (by simp) (by simp) ad m c news hl (h5 ad rfl) (by omega) (by simp only [maxLen] at h63; omega) (growslice_fits (by omega) (by simpa using hbytes))
      rw [hr] at hr2
      simp only [Result.ok.injEq] at hr2
      obtain ⟨_, rfl⟩ := hr2
      exact (Below.refl _ _).drew.alloc (Nat.le_refl _) _
theorem step_app_fresh {t e : TypeId} {z : Value} {size bytes : Nat} (ht : P.underlying t = some (.slice e)) (he : (P.info? e).map (fun i => (i.zero, i.size, i.bytes)) = some (some z, size, bytes)) (hz : z.cells.size = size) (hsz : 0 < size)
    {ops : Array Oper} {o : Oper} {a : Act} {w : World} {K : Act → World → Prop} {Q : Exit → Act → World → Prop} {E : Prop} (hgd : o.guard = none) (s x : Operand)
    (ho : o.op = .call { callee := .builtin .append, args := #[s, x], argTypes := #[t, t] })
    {g m : Nat} {sv : Value} {news : List Value} (hs : a.eval s = .slice (some ⟨g, 0, none⟩) 0 0) (hg : Row w g e []) (hx : a.eval x = sv) (hsh : Shows w size sv m news) (h1 : ∀ u ∈ news, u.oneCell' = true)
    (hlen : m ≤ 140737488355328) (hlen2 : m * bytes ≤ 140737488355328)
    (h : ∀ v' w', Shows w' size v' m news → Below w.heap.size w w' → K (a.put o.dst v') w') : if Region.wanted o (yielded ops a.tmps) = true then Oper.wp P o a w K Q else E := by
  have hw : Region.wanted o (yielded ops a.tmps) = true := by simp [Region.wanted, hgd]
  rw [if_pos hw]
  obtain ⟨i, hi, hz0, hz1, hz2⟩ := info_parts he
  obtain ⟨v', w', hr, g1, g2⟩ := run_app_fresh (P := P) w t o.type e i z size bytes ht hi hz0 hz1 hz2 hz hsz g hg sv m news hsh h1 (by simp only [maxLen]; omega) hlen2
  unfold Oper.wp
  simp [execOp, ho, resolve, invoke, builtin, hs, hx, hr, Result.andThen]
  exact h v' w' (Shows.of_own g1) g2
theorem wpList_app_fresh {t e : TypeId} {z : Value} {size bytes : Nat} (ht : P.underlying t = some (.slice e)) (he : (P.info? e).map (fun i => (i.zero, i.size, i.bytes)) = some (some z, size, bytes)) (hz : z.cells.size = size) (hsz : 0 < size)
    {w : World} {ops : Array Oper} {rest : List Oper} {o : Oper} {a : Act} {Q : Exit → Act → World → Prop} (hgd : o.guard = none) (s x : Operand)
    (ho : o.op = .call { callee := .builtin .append, args := #[s, x], argTypes := #[t, t] })
    {g m : Nat} {sv : Value} {news : List Value} (hs : a.eval s = .slice (some ⟨g, 0, none⟩) 0 0) (hg : Row w g e []) (hx : a.eval x = sv) (hsh : Shows w size sv m news) (h1 : ∀ u ∈ news, u.oneCell' = true)
    (hlen : m ≤ 140737488355328) (hlen2 : m * bytes ≤ 140737488355328)
    (h : ∀ v' w', w'.ownsRow g e size v' m news → Below w.heap.size w w' → wpList P ops Q rest (a.put o.dst v') w') : wpList P ops Q (o :: rest) a w := by
  refine wpList_plain hgd fun K hK => ?_
  obtain ⟨i, hi, hz0, hz1, hz2⟩ := info_parts he
  obtain ⟨v', w', hr, g1, g2⟩ := run_app_fresh (P := P) w t o.type e i z size bytes ht hi hz0 hz1 hz2 hz hsz g hg sv m news hsh h1 (by simp only [maxLen]; omega) hlen2
  unfold Oper.wp
  simp [execOp, ho, resolve, invoke, builtin, hs, hx, hr, Result.andThen]
  exact hK _ _ (h v' w' g1 g2)
end
/-! ### chains of worlds -/
theorem bstep {a b c : World} (h : Below a.heap.size a b) (k : Below b.heap.size b c) : Below a.heap.size a c := bthen h k (Nat.le_refl _)
theorem balloc {a b : World} (h : Below a.heap.size a b) (o : Obj) : Below a.heap.size a (b.alloc o) := h.alloc h.size o
theorem bdrew {a b : World} (h : Below a.heap.size a b) : Below a.heap.size a b.drew := h.drew
theorem bdrewN {a b : World} (h : Below a.heap.size a b) (n : Nat) : Below a.heap.size a (b.drewN n) := bstep h (drewN_below b n)
end Go.Proofs.YtojoeaaodomfnaaGreatDoor
