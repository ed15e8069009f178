/- What the bound on the bulk gives, of lists of bytes and of calls of a disk. -/
import Derived.Test.YtadmjhlcdoghpacBulk
import Derived.Test.YtadmjhlcdoghpacOpenAct
namespace Go.Proofs.Ytadmjhlcdoghpac.bulks
set_option linter.unusedVariables false
set_option linter.unusedSimpArgs false
set_option linter.unnecessarySimpa false

theorem mem_le {H : Type} {x : DataW H} {es : List (DataW H)} (h : x ∈ es) : Rows.uptoBulk x ≤ Rows.uptoBulkAll es := by
  induction es with
  | nil => simp at h
  | cons y r ih =>
    simp only [Rows.uptoBulkAll]
    rcases List.mem_cons.1 h with rfl | h
    · omega
    · have := ih h; omega
theorem inner_le {H : Type} {d x : DataW H} {es sp : List (DataW H)} (hd : d = .slice es sp) (h : x ∈ es) : dlen x ≤ Rows.uptoBulk d := by
  have h1 := dlen_le x
  have h2 := mem_le h
  subst hd
  simp only [Rows.uptoBulk]
  omega
theorem act_le {H : Type} (a b c y : DataW H) : dlen y ≤ Rows.uptoBulk (DataW.agg [a, b, c, y]) := by
  have h1 := dlen_le y
  simp only [Rows.uptoBulk, Rows.uptoBulkAll]
  omega
end Go.Proofs.Ytadmjhlcdoghpac.bulks
