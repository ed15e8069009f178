/- What the bound on the bulk gives. -/
import Derived.Test.YtkghkpkiodghiaaOpen
import Derived.Test.YtkghkpkiodghiaaPlain
import Derived.Test.YtkghkpkiodghiaaOpenW
namespace Go.Proofs.Ytkghkpkiodghiaa.bulks
set_option linter.unusedVariables false
set_option linter.unusedSimpArgs false
set_option linter.unnecessarySimpa false

theorem bound {H : Type} {l : List (DataW H)} (hk : Rows.uptoSmall H l = true) : Rows.uptoBulkAll l ≤ 1048576 := of_decide_eq_true hk
theorem one_le {H : Type} (d : DataW H) : 1 ≤ Rows.uptoBulk d := by
  cases d with
  | lit l => cases l <;> simp [Rows.uptoBulk]
  | nil => simp [Rows.uptoBulk]
  | ptr d => simp [Rows.uptoBulk]
  | slice elems spare => simp [Rows.uptoBulk]
  | agg parts => simp [Rows.uptoBulk]
  | iface t d => simp [Rows.uptoBulk]
  | map entries => simp [Rows.uptoBulk]
  | held h => simp [Rows.uptoBulk]
theorem length_le {H : Type} (l : List (DataW H)) : l.length ≤ Rows.uptoBulkAll l := by
  induction l with
  | nil => simp [Rows.uptoBulkAll]
  | cons x r ih => have := one_le x; simp only [Rows.uptoBulkAll, List.length_cons]; omega
/-- A slice's places. -/
theorem dlen_le {H : Type} (d : DataW H) : dlen d + 1 ≤ Rows.uptoBulk d := by
  cases d with
  | slice es sp =>
    have h1 := length_le es
    have h2 := length_le sp
    simp only [Rows.uptoBulk, dlen]; omega
  | lit l => have := one_le (DataW.lit (H := H) l); simpa [dlen] using this
  | nil => have := one_le (DataW.nil (H := H)); simpa [dlen] using this
  | ptr d => have := one_le (DataW.ptr d); simpa [dlen] using this
  | agg d => have := one_le (DataW.agg d); simpa [dlen] using this
  | iface t d => have := one_le (DataW.iface t d); simpa [dlen] using this
  | map d => have := one_le (DataW.map d); simpa [dlen] using this
  | held d => have := one_le (DataW.held d); simpa [dlen] using this
/-- A string's letters. -/
theorem string_size {H : Type} (s : ByteArray) : s.size + 1 ≤ Rows.uptoBulk (DataW.lit (H := H) (.string s.data.toList)) := by
  have e : s.data.toList.length = s.size := by rw [Array.length_toList]; rfl
  simp only [Rows.uptoBulk]; omega
theorem strs_bulk {H : Type} (ss : List ByteArray) : Rows.uptoBulkAll (ss.map (strD H)) = (ss.map fun s => s.size + 1).sum := by
  induction ss with
  | nil => simp [Rows.uptoBulkAll]
  | cons s ss ih =>
    have e : s.data.toList.length = s.size := by rw [Array.length_toList]; rfl
    simp only [List.map_cons, Rows.uptoBulkAll, List.sum_cons, ih, strD, Rows.uptoBulk, e]
/-- What a list of texts comes to. -/
theorem strs_le {H : Type} {d : DataW H} {ss : List ByteArray} (h : (ss = [] ∧ d = .nil) ∨ ∃ sp, d = .slice (ss.map (strD H)) sp) : (ss.map fun s => s.size + 1).sum ≤ Rows.uptoBulk d := by
  rcases h with ⟨rfl, rfl⟩ | ⟨sp, rfl⟩
  · simp
  · simp only [Rows.uptoBulk, strs_bulk]; omega
theorem sum_len (ss : List ByteArray) : ss.length ≤ (ss.map fun s => s.size + 1).sum := by
  induction ss with
  | nil => simp
  | cons s ss ih => simp only [List.map_cons, List.sum_cons, List.length_cons]; omega
theorem tot_le (ss : List ByteArray) : tot ss ≤ 8 * (ss.map fun s => s.size + 1).sum := by
  induction ss with
  | nil => simp [tot]
  | cons s ss ih =>
    simp only [tot, List.map_cons, List.sum_cons] at ih ⊢
    omega
end Go.Proofs.Ytkghkpkiodghiaa.bulks
namespace Go.Proofs.Ytkghkpkiodghiaa.bulks
set_option linter.unusedVariables false
set_option linter.unusedSimpArgs false
set_option linter.unnecessarySimpa false

theorem mem_le {H : Type} {x : DataW H} {es : List (DataW H)} (h : x ∈ es) : Rows.uptoBulk x ≤ Rows.uptoBulkAll es := by
  induction es with
  | nil => simp at h
  | cons y r ih =>
    simp only [Rows.uptoBulkAll]
    rcases List.mem_cons.1 h with rfl | h
    · omega
    · have := ih h; omega
theorem act3_le {H : Type} (a b y : DataW H) : dlen y ≤ Rows.uptoBulk (DataW.agg [a, b, y]) := by
  have h1 := dlen_le y
  simp only [Rows.uptoBulk, Rows.uptoBulkAll]
  omega
end Go.Proofs.Ytkghkpkiodghiaa.bulks
