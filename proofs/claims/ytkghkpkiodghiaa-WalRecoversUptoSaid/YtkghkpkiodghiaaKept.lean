/- Of no program: an append touches one block alone. -/
import Derived.Test.YtkghkpkiodghiaaBase
namespace Go.Proofs.Ytkghkpkiodghiaa
set_option linter.unusedVariables false
set_option linter.unusedSimpArgs false
set_option linter.unnecessarySimpa false
open Go.RowKit

theorem Own.kept {w w' : World} {N e : Nat} {x : Value} {m : List UInt8} {row : Option Nat} (h : Own w N e x m) (hg : w.grownBy w' row) (hr : ∀ k, row = some k → k < N) : Own w' N e x m := by
  refine World.ownsRow.kept h hg ?_
  cases hx : x.ownBlock with
  | none => exact .inl rfl
  | some k =>
    refine .inr fun he => ?_
    have h1 := h.row k hx
    have h2 := hr k he.symm
    omega
theorem Own.lt {w : World} {N e : Nat} {x : Value} {m : List UInt8} (h : Own w N e x m) : ∀ k, x.ownBlock = some k → k < w.heap.size := fun k hk => (World.ownsRow.lt h k hk).2
section
variable {P : Program}
/-- 'app_bytes', and which block alone it touches. -/
theorem app_bytes_row {t e : TypeId} (ht : P.underlying t = some (.slice e)) (he : (P.info? e).map (fun i => (i.zero, i.size, i.bytes)) = some (some (.int .u8 0), 1, 1))
    {w : World} {ops : Array Oper} {rest : List Oper} {o : Oper} {a : Act} {Q : Exit → Act → World → Prop} (hgd : o.guard = none) (s x : Operand)
    (ho : o.op = .call { callee := .builtin .append, args := #[s, x], argTypes := #[t, t] })
    {base : Nat} {v sv : Value} {l m : List UInt8} (hs : a.eval s = v) (hown : Own w base e v l) (hx : a.eval x = sv) (hsh : Sh w sv m)
    (hlen : l.length + m.length ≤ 140737488355328) (hbase : base ≤ w.heap.size)
    (h : ∀ v' w', Own w' base e v' (l ++ m) → Below base w w' → w.grownBy w' v.ownBlock → wpList P ops Q rest (a.put o.dst v') w') : wpList P ops Q (o :: rest) a w := by
  obtain ⟨i, hi, hz0, hz1, hz2⟩ := info_parts he
  refine wpList_append_shows hgd s x t ho base e i (.int .u8 0) 1 1 ht hi hz0 hz1 hz2 rfl (by decide) v _ _ hs hown sv _ _ hx hsh (bytes_one _) (by simp only [maxLen]; omega) (by omega) hbase ?_
  intro v' w' h1 h2
  refine h v' w' ?_ ((Below.refl _ _).grown h2 hbase hown.row) h2
  unfold Own
  rw [bytes_append, List.length_append]; exact h1
end
end Go.Proofs.Ytkghkpkiodghiaa
