/- Of no program: copy of elements of several cells, into a row. -/
import Derived.Test.YticabllkadpmeaaDoorBase
import Derived.Test.YticabllkadpmeaaDoorArr
import Derived.Laws.CopyRow
import Derived.Laws.CopyOwn
namespace Go.Proofs.YticabllkadpmeaaDoor
set_option linter.unusedVariables false
set_option linter.unusedSimpArgs false
set_option linter.unnecessarySimpa false
open Go.RowKit
section
variable {P : Program}
theorem run_copy_rows (w : World) (dT sT ty elem : TypeId) (size g o dLen dCap : Nat) (a : Option Addr) (sLen sCap : Nat) (cur : List Value) (t : TypeId) (cs : List Value)
    (hu : P.underlying dT = some (.slice elem)) (hs : (P.info? elem).map (·.size) = some size)
    (hg : w.heap[g]? = some (.cells cur.toArray t (0, 0))) (hn : cs.length = Nat.min sLen dLen * size)
    (hsrc : ∀ x, a = some x → ∀ j v, cs[j]? = some v → w.cell? (x.add j) = some v) (hnil : a = none → sLen = 0) (hfit : o + cs.length ≤ cur.length) (h1 : ∀ v ∈ cs, v.oneCell' = true) :
    (Builtin.copy_ #[dT, sT] ty #[.slice (some ⟨g, o, none⟩) dLen dCap, .slice a sLen sCap]).run P w =
      .ok (goInt (Nat.min sLen dLen)) (w.setRow g (splice cur o cs).toArray) := by
  have hst := run_storeCells_at P g o t cs 0 cur.toArray w hg (by simpa using hfit) h1
  have hsp : (cur.toArray.toList.take (o + 0) ++ cs ++ cur.toArray.toList.drop (o + 0 + cs.length)).toArray = (splice cur o cs).toArray := by simp [splice]
  rw [hsp] at hst
  cases hq : P.info? elem with
  | none => simp [hq] at hs
  | some i =>
    have hi : i.size = size := by simpa [hq] using hs
    cases a with
    | none =>
      have h0 := hnil rfl
      subst h0
      have hcs : cs = [] := List.eq_nil_of_length_eq_zero (by rw [hn]; simp)
      subst hcs
      have hse : (splice cur o ([] : List Value)).toArray = cur.toArray := by simp [splice]
      have hself := setRow_self w g cur.toArray t (0, 0) hg
      simp [Builtin.copy_, run_underlying hu, Builtin.lenOf, Builtin.firstCells, sizeOf, typeInfo, hq, storeCells, hse, hself]
    | some x =>
      have hl := run_loadCells_list (P := P) w x cs (hsrc x rfl)
      have hl2 : (loadCells x (Nat.min sLen dLen * i.size)).run P w = .ok cs.toArray w := by rw [hi, ← hn]; exact hl
      simp [Builtin.copy_, run_underlying hu, Builtin.lenOf, Builtin.firstCells, sizeOf, typeInfo, hq, hl2, hst]
end
theorem splice_append {α : Type} (A B C D : List α) (h : D.length = B.length) : splice (A ++ B ++ C) A.length D = A ++ D ++ C := by
  simp [splice, h]
end Go.Proofs.YticabllkadpmeaaDoor
