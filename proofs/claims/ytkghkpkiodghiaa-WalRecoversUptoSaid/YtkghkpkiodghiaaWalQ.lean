/- A log's bytes behind a crash, plainly: what stands behind whole frames is no frame. -/
import Derived.Test.YtkghkpkiodghiaaWalP
import Derived.Test.YtkghkpkiodghiaaFrm6
namespace Go.Proofs.Ytkghkpkiodghiaa
set_option linter.unusedVariables false
set_option linter.unusedSimpArgs false
set_option linter.unnecessarySimpa false

theorem tkF_sound (l : List UInt8) (h : (tkF l).2.2 = 0) : ∃ b, b.length ≤ 1048576 ∧ tkF l = (b, (frameB b).length, 0) ∧ ∃ r, l = frameB b ++ r := by
  rcases tk_cases l with ⟨e, ht, he⟩ | ⟨n, k, ht, hk1, hk2, hn⟩
  · have e1 : tkF l = ([], 0, e) := by unfold tkF; rw [ht, if_pos (by show e ≠ 0; omega)]
    rw [e1] at h; simp at h; omega
  · by_cases h1 : 1048576 < n
    · have e1 : tkF l = ([], 0, 2) := by unfold tkF; rw [ht, if_neg (by simp), if_pos h1]
      rw [e1] at h; simp at h
    · by_cases h2 : l.length - k < n + 4
      · have e1 : tkF l = ([], 0, 3) := by unfold tkF; rw [ht, if_neg (by simp), if_neg h1, if_pos h2]
        rw [e1] at h; simp at h
      · have e0 : tkF l = if goodB (l.take (k + n + 4)) = true then ((l.drop k).take n, k + n + 4, 0) else ([], 0, 50) := by unfold tkF; rw [ht, if_neg (by simp), if_neg h1, if_neg h2]
        cases hg : goodB (l.take (k + n + 4))
        · rw [hg] at e0; rw [e0] at h; simp at h
        · rw [hg] at e0
          rw [if_pos rfl] at e0
          have hbl : ((l.drop k).take n).length = n := by rw [List.length_take, List.length_drop]; omega
          have hen := enc_tk l n k ht
          have hks : nsize n = k := by rw [← enc_length n hn, hen, List.length_take]; omega
          have hfb : fB ((l.drop k).take n) = l.take (k + n) := by
            unfold fB
            rw [hbl, hen, List.take_add]
          have hl4 : (l.take (k + n + 4)).length = k + n + 4 := by rw [List.length_take]; omega
          rw [goodB_iff _ (by omega), hl4, Nat.add_sub_cancel, List.take_take, show min (k + n) (k + n + 4) = k + n by omega, ← hfb, decide_eq_true_eq] at hg
          have hfr : frameB ((l.drop k).take n) = l.take (k + n + 4) := by
            unfold frameB
            rw [← hg, hfb]
            have := List.take_append_drop (k + n) (l.take (k + n + 4))
            rw [List.take_take, show min (k + n) (k + n + 4) = k + n by omega] at this
            exact this
          refine ⟨(l.drop k).take n, by omega, ?_, l.drop (k + n + 4), ?_⟩
          · rw [e0, hfr, hl4]
          · rw [hfr, List.take_append_drop]
theorem tkF_short (l : List UInt8) (h : l.length < 5) : (tkF l).2.2 ≠ 0 := fun h0 => by have := tkF_facts l h0; omega
theorem enc_head (n : Nat) (h : n ≤ 1048576) : ∃ c r, enc n = c :: r ∧ c.toNat < 192 ∧ (n < 64 → c.toNat < 64) ∧ (64 ≤ n → 64 ≤ c.toNat) := by
  rcases size_cases n (by omega) with h1 | ⟨h1, h2⟩ | ⟨h1, h2⟩ | ⟨h1, h2⟩
  · exact ⟨_, _, enc_1 n h1, by rw [u8_toNat]; omega, fun _ => by rw [u8_toNat]; omega, fun _ => by omega⟩
  · exact ⟨_, _, enc_2 n h1 h2, by rw [u8_toNat]; omega, fun _ => by omega, fun _ => by rw [u8_toNat]; omega⟩
  · exact ⟨_, _, enc_4 n h1 h2, by rw [u8_toNat]; omega, fun _ => by omega, fun _ => by rw [u8_toNat]; omega⟩
  · omega
theorem frameB_head (d : List UInt8) (h : d.length ≤ 1048576) : ∃ c r, frameB d = c :: r ∧ c.toNat < 192 ∧ (d.length < 64 → c.toNat < 64) ∧ (64 ≤ d.length → 64 ≤ c.toNat) := by
  obtain ⟨c, r, h1, h2, h3, h4⟩ := enc_head d.length h
  exact ⟨c, r ++ (d ++ sumB (onL 4294967295 (fB d))), by rw [frameB_eq, h1]; rfl, h2, h3, h4⟩
theorem tkF_255 (c : UInt8) (r : List UInt8) (hc : 192 ≤ c.toNat) : (tkF (c :: r)).2.2 ≠ 0 := fun h0 => by
  obtain ⟨b, hb, -, q, hq⟩ := tkF_sound _ h0
  obtain ⟨x, y, hx, h1, -⟩ := frameB_head b hb
  rw [hx] at hq
  simp only [List.cons_append, List.cons.injEq] at hq
  rw [hq.1] at hc
  omega
theorem nsize_small (n : Nat) (h : n ≤ 1048576) : nsize n ≤ 4 := by
  unfold nsize
  split
  · omega
  · split
    · omega
    · split
      · omega
      · omega
/-- A part of a frame, and up to three bytes behind it: no frame, or the frame itself. -/
theorem junk_part (d : List UInt8) (hd : d.length ≤ 1048576) (k : Nat) (hk : 0 < k) (hkl : k < (frameB d).length) (t : List UInt8) (ht : t.length ≤ 3) :
    (tkF ((frameB d).take k ++ t)).2.2 ≠ 0 ∨ ∃ r, (frameB d).take k ++ t = frameB d ++ r ∧ r.length < 3 := by
  by_cases h0 : (tkF ((frameB d).take k ++ t)).2.2 = 0
  · right
    obtain ⟨b, hb, he, q, hq⟩ := tkF_sound _ h0
    have hl := frameB_length d hd
    have hlb := frameB_length b hb
    have hnd := enc_length d.length (by omega)
    have hnb := enc_length b.length (by omega)
    have hxl : ((frameB d).take k ++ t).length = k + t.length := by rw [List.length_append, List.length_take]; omega
    have hql : k + t.length = (frameB b).length + q.length := by rw [← hxl, hq, List.length_append]
    have hb1 : 1 ≤ nsize b.length := by unfold nsize; split <;> (try split) <;> (try split) <;> omega
    obtain ⟨c, r, hcr, -, hc1, hc2⟩ := frameB_head d hd
    obtain ⟨c', r', hcr', -, hc1', hc2'⟩ := frameB_head b hb
    have hcc : c = c' := by
      have h1 := congrArg List.head? hq
      rw [hcr, hcr'] at h1
      obtain ⟨k', rfl⟩ : ∃ k', k = k' + 1 := ⟨k - 1, by omega⟩
      simpa using h1
    subst hcc
    have hns := nsize_small d.length hd
    by_cases hkn : k < nsize d.length
    · exfalso
      have hd64 : 64 ≤ d.length := by
        by_cases h : d.length < 64
        · rw [nsize_1 h] at hkn; omega
        · omega
      have hb64 : 64 ≤ b.length := by
        by_cases h : b.length < 64
        · have := hc1' h; have := hc2 hd64; omega
        · omega
      omega
    · have hx1 : (frameB d).take k ++ t = enc d.length ++ (((d ++ sumB (onL 4294967295 (fB d))).take (k - nsize d.length)) ++ t) := by
        rw [frameB_eq, List.take_append, List.take_of_length_le (by omega), hnd, List.append_assoc]
      have ht1 : tk ((frameB d).take k ++ t) = (d.length, nsize d.length, 0) := by rw [hx1]; exact tk_enc _ (by omega) _
      have ht2 : tk ((frameB d).take k ++ t) = (b.length, nsize b.length, 0) := by rw [hq, frameB_eq, List.append_assoc]; exact tk_enc _ (by omega) _
      have hbd : b.length = d.length := by rw [ht1] at ht2; simp only [Prod.mk.injEq] at ht2; omega
      have hkd : nsize d.length + d.length ≤ k := by rw [hbd] at hlb; omega
      have hx2 : (frameB d).take k ++ t = enc d.length ++ (d ++ ((sumB (onL 4294967295 (fB d))).take (k - nsize d.length - d.length) ++ t)) := by
        rw [hx1, List.take_append, List.take_of_length_le (by omega), List.append_assoc]
      have hbe : b = d := by
        rw [hx2, frameB_eq, hbd, List.append_assoc] at hq
        have := List.append_cancel_left hq
        rw [List.append_assoc] at this
        exact ((List.append_inj this hbd.symm).1).symm
      subst hbe
      exact ⟨q, hq, by omega⟩
  · exact .inl h0
/-- Records are read from a number on; those ahead of it are passed by. -/
theorem recF_from (first : Nat) (rs : List (List UInt8)) : ∀ (a : Nat) (R : List (List UInt8)), first + R.length + rs.length ≤ 1000000000 → recF first (bods (first + R.length) rs) a R (first + R.length) = (a + (frames (bods (first + R.length) rs)).length, R ++ rs, first + R.length + rs.length) := by
  induction rs with
  | nil => intro a R h; simp [bods, recF, frames]
  | cons r rs ih =>
    intro a R h
    simp only [List.length_cons] at h
    obtain ⟨h1, h2⟩ := body_take (first + R.length) r (by omega)
    have h3 := ih (a + (frameB (enc (first + R.length) ++ r)).length) (R ++ [r]) (by simp; omega)
    simp only [List.length_append, List.length_cons, List.length_nil, Nat.zero_add] at h3
    rw [← Nat.add_assoc] at h3
    show recF first ((enc (first + R.length) ++ r) :: bods (first + R.length + 1) rs) a R (first + R.length) = _
    unfold recF
    rw [h1, h2]
    simp only [ne_eq, not_true_eq_false, if_false]
    rw [if_neg (by omega), if_pos trivial, h3]
    show _ = (a + (frames ((enc (first + R.length) ++ r) :: bods (first + R.length + 1) rs)).length, R ++ (r :: rs), first + R.length + (rs.length + 1))
    rw [frames_cons, List.length_append]
    simp only [Prod.mk.injEq, List.append_assoc, List.singleton_append, List.cons_append, List.nil_append, true_and]
    exact ⟨by omega, by omega⟩
theorem recF_skip (first : Nat) (L : List (List UInt8)) (old : List (List UInt8)) : ∀ (s a : Nat), s + old.length = first → first + L.length ≤ 1000000000 → recF first (bods s (old ++ L)) a [] first = (a + (frames (bods s (old ++ L))).length, L, first + L.length) := by
  induction old with
  | nil =>
    intro s a h hl
    simp only [List.length_nil, Nat.add_zero] at h
    subst h
    have := recF_from s L a [] (by simpa using hl)
    simpa using this
  | cons r old ih =>
    intro s a h hl
    simp only [List.length_cons] at h
    obtain ⟨h1, h2⟩ := body_take s r (by omega)
    have h3 := ih (s + 1) (a + (frameB (enc s ++ r)).length) (by omega) hl
    show recF first ((enc s ++ r) :: bods (s + 1) (old ++ L)) a [] first = _
    unfold recF
    rw [h1, h2]
    simp only [ne_eq, not_true_eq_false, if_false, List.length_nil]
    rw [if_pos ⟨by omega, trivial⟩, h3]
    show _ = (a + (frames ((enc s ++ r) :: bods (s + 1) (old ++ L))).length, L, first + L.length)
    rw [frames_cons, List.length_append]
    simp only [Prod.mk.injEq, true_and]
    exact ⟨by omega, trivial⟩
/-- What stands behind a log's frames. -/
def Junk (t : List UInt8) : Prop := t = [] ∨ (t ≠ [] ∧ (tkF t).2.2 ≠ 0)
theorem bods_le (rs : List (List UInt8)) (s : Nat) (h : ∀ r ∈ rs, r.length ≤ 1000000) (hn : s + rs.length ≤ 1000000) : ∀ d ∈ bods s rs, d.length ≤ 1048576 := by
  intro d hd
  obtain ⟨j, hj, rfl⟩ := List.getElem_of_mem hd
  rw [bods_length] at hj
  have e := bods_get rs s j hj
  rw [List.getD, List.getElem?_eq_getElem (by rw [bods_length]; exact hj)] at e
  simp only [Option.getD_some] at e
  rw [e, List.length_append]
  have h1 := h (rs.getD j []) (by rw [List.getD, List.getElem?_eq_getElem hj]; exact List.getElem_mem hj)
  have h2 := enc_length (s + j) (by omega)
  have h3 := nsize_le (s + j)
  omega
theorem scan_junk (rs : List (List UInt8)) (s : Nat) (t : List UInt8) (h : ∀ r ∈ rs, r.length ≤ 1000000) (hn : s + rs.length ≤ 1000000) (ht : Junk t) : ∃ e, scF ((frames (bods s rs) ++ t).length + 1) (frames (bods s rs) ++ t) = (bods s rs, (frames (bods s rs)).length, e) := by
  have hb := bods_le rs s h hn
  rcases ht with rfl | ⟨h1, h2⟩
  · exact ⟨0, scF_stop _ hb [] 0 (.inl ⟨rfl, rfl⟩)⟩
  · exact ⟨_, scF_stop _ hb t _ (.inr ⟨h1, rfl, h2⟩)⟩
end Go.Proofs.Ytkghkpkiodghiaa
