/- Frames: Scan; lists of bytes that the call makes. -/
import Derived.Test.YtkghkpkiodghiaaFrm4
namespace Go.Proofs.Ytkghkpkiodghiaa
set_option linter.unusedVariables false
set_option linter.unusedSimpArgs false
set_option linter.unnecessarySimpa false
open Go.RowKit
set_option maxRecDepth 100000
set_option maxHeartbeats 4000000

/-- A list of bytes of the call's own: the row of slices, and each slice a row of bytes. -/
def BOs (w : World) (base : Nat) (v : Value) (acc : List (List UInt8)) : Prop :=
  ∃ xs : List Value, Own1 w base 27 v xs ∧ xs.length = acc.length ∧ ∀ i, i < acc.length → ∃ u, xs[i]? = some u ∧ Own w 0 5 u (acc.getD i [])
theorem BOs.nil (w : World) (base : Nat) : BOs w base (.slice none 0 0) [] := ⟨[], Own1.nil _ _ _, rfl, fun i hi => by simp at hi⟩
theorem BOs.below {w w' : World} {base : Nat} {v : Value} {acc : List (List UInt8)} (h : BOs w base v acc) (hb : Below w.heap.size w w') : BOs w' base v acc := by
  obtain ⟨xs, h1, h2, h3⟩ := h
  exact ⟨xs, h1.below hb, h2, fun i hi => by obtain ⟨u, hu, ho⟩ := h3 i hi; exact ⟨u, hu, ho.below hb⟩⟩
theorem BOs.bss {w : World} {base : Nat} {v : Value} {acc : List (List UInt8)} (h : BOs w base v acc) : Bss w v acc := by
  obtain ⟨xs, h1, h2, h3⟩ := h
  refine ⟨xs, ?_, fun i hi => by obtain ⟨u, hu, ho⟩ := h3 i hi; exact ⟨u, hu, ho.sh⟩⟩
  rw [← h2]; exact h1.shows
/-- Rows of different elements are different rows. -/
theorem apart_rows {w : World} {b1 b2 e1 e2 n1 n2 s1 s2 : Nat} {v1 v2 : Value} {x1 x2 : List Value} (h1 : w.ownsRow b1 e1 s1 v1 n1 x1) (h2 : w.ownsRow b2 e2 s2 v2 n2 x2) (he : e1 ≠ e2) : v1.ownBlock = none ∨ v1.ownBlock ≠ v2.ownBlock := by
  obtain ⟨_, h1⟩ := h1
  obtain ⟨_, h2⟩ := h2
  rcases h1 with ⟨rfl, _⟩ | ⟨g, cap, cur, rfl, _, hg, _⟩
  · exact .inl rfl
  · refine .inr fun hc => ?_
    rcases h2 with ⟨rfl, _⟩ | ⟨g', cap', cur', rfl, _, hg', _⟩
    · simp [Value.ownBlock] at hc
    · simp only [Value.ownBlock, Option.some.injEq] at hc
      subst hc
      rw [hg] at hg'
      simp only [Option.some.injEq, Obj.cells.injEq] at hg'
      exact he hg'.2.1
theorem info_slice : (Try.prog.info? 27).map (fun i => (i.zero, i.size, i.bytes)) = some (some (.slice none 0 0), 1, 24) := by kernel_rfl
theorem app_bss {w : World} {ops : Array Oper} {rest : List Oper} {o : Oper} {a : Act} {Q : Exit → Act → World → Prop} (hgd : o.guard = none) (s x : Operand)
    (ho : o.op = .call { callee := .builtin .append, args := #[s, x], argTypes := #[28, 28] })
    {base : Nat} {v sv u : Value} {acc : List (List UInt8)} {l : List UInt8} (hs : a.eval s = v) (hown : BOs w base v acc) (hx : a.eval x = sv) (hsh : Shows w 1 sv 1 [u]) (hu : Own w 0 5 u l) (h1 : u.oneCell' = true)
    (hlen : acc.length ≤ 1000000000000) (hbase : base ≤ w.heap.size)
    (h : ∀ v' w', BOs w' base v' (acc ++ [l]) → Below base w w' → wpList Try.prog ops Q rest (a.put o.dst v') w') : wpList Try.prog ops Q (o :: rest) a w := by
  obtain ⟨i, hi, hz0, hz1, hz2⟩ := info_parts info_slice
  obtain ⟨xs, k1, k2, k3⟩ := hown
  refine wpList_append_shows hgd s x 28 ho base 27 i (.slice none 0 0) 1 24 Try.underlying28 hi hz0 hz1 hz2 rfl (by decide) v _ _ hs k1 sv _ _ hx hsh (by simpa using h1) (by simp only [maxLen]; omega) (by omega) hbase ?_
  intro v' w' g1 g2
  refine h v' w' ⟨xs ++ [u], ?_, by simp [k2], fun j hj => ?_⟩ ((Below.refl _ _).grown g2 hbase fun k hk => (World.ownsRow.lt k1 k hk).1)
  · unfold Own1
    rw [List.length_append]; exact g1
  · by_cases hjl : j < acc.length
    · obtain ⟨y, hy, hoy⟩ := k3 j hjl
      refine ⟨y, by rw [List.getElem?_append_left (by omega)]; exact hy, ?_⟩
      have := World.ownsRow.kept hoy g2 (apart_rows hoy k1 (by decide))
      simpa [Own, List.getD, List.getElem?_append_left hjl] using this
    · have hjj : j = acc.length := by simp at hj; omega
      subst hjj
      refine ⟨u, by rw [List.getElem?_append_right (by omega)]; simp [k2], ?_⟩
      have := World.ownsRow.kept hu g2 (apart_rows hu k1 (by decide))
      simpa [Own, List.getD] using this
theorem tkF_facts (l : List UInt8) (h : (tkF l).2.2 = 0) : 5 ≤ (tkF l).2.1 ∧ (tkF l).2.1 ≤ l.length ∧ (tkF l).1.length ≤ 1048576 := by
  rcases tk_cases l with ⟨e, ht, he⟩ | ⟨n, k, ht, hk1, hk2, hn⟩
  · have e1 : tkF l = ([], 0, e) := by unfold tkF; rw [ht, if_pos (by show e ≠ 0; omega)]
    rw [e1] at h; simp at h; omega
  · by_cases h1 : 1048576 < n
    · have e1 : tkF l = ([], 0, 2) := by unfold tkF; rw [ht, if_neg (by simp), if_pos h1]
      rw [e1] at h; simp at h
    · by_cases h2 : l.length - k < n + 4
      · have e1 : tkF l = ([], 0, 3) := by unfold tkF; rw [ht, if_neg (by simp), if_neg h1, if_pos h2]
        rw [e1] at h; simp at h
      · have e0 : tkF l = if goodB (l.take (k + n + 4)) = true then ((l.drop k).take n, k + n + 4, 0) else ([], 0, 50) := by unfold tkF; rw [ht, if_neg (by simp), if_neg h1, if_neg h2]
        cases hg : goodB (l.take (k + n + 4))
        · rw [hg] at e0; rw [e0] at h; simp at h
        · rw [hg] at e0; rw [e0]; simp; omega
/-- All frames, one behind the other: their bodies, how far, or why no further. -/
def scF : Nat → List UInt8 → List (List UInt8) × Nat × Nat
  | 0, _ => ([], 0, 0)
  | f + 1, l => if l.length = 0 then ([], 0, 0) else if (tkF l).2.2 ≠ 0 then ([], 0, (tkF l).2.2) else ((tkF l).1 :: (scF f (l.drop (tkF l).2.1)).1, (tkF l).2.1 + (scF f (l.drop (tkF l).2.1)).2.1, (scF f (l.drop (tkF l).2.1)).2.2)
def slLen : Value → Nat
  | .slice _ n _ => n
  | _ => 0
theorem ScanO_any (v : Value) (l : List UInt8) (w : World) (h : Sh w v l) (hl : l.length ≤ 1000000000) :
    Calls Try.prog 40 #[v] w fun e w' => ∃ v', e = .returned (.tuple #[v', .int .i64 ((scF (l.length + 1) l).2.1 : Int), .int .i64 ((scF (l.length + 1) l).2.2 : Int)]) ∧ BOs w' w.heap.size v' (scF (l.length + 1) l).1 ∧ Below w.heap.size w w' := by
  obtain ⟨a, cap, rfl, g1, g2, g3, g4⟩ := h.open
  have H := Lib.hid g4
  clear h g3 g4
  generalize hS : scF (l.length + 1) l = S at *
  have HS := Lib.hid hS
  clear hS
  go_enter Try.func40, Try.ntmps40
  go_wp2_with fail
  go_loopw [5, 6] (fun o r wr => ∃ (acc : List (List UInt8)) (kk f : Nat), kk ≤ l.length ∧ Sh w r (l.drop kk) ∧ BOs wr w.heap.size o acc ∧ acc.length ≤ kk ∧ Below w.heap.size w wr ∧ l.length - kk < f ∧ S = (acc ++ (scF f (l.drop kk)).1, kk + (scF f (l.drop kk)).2.1, (scF f (l.drop kk)).2.2)) (fun _ r _ => slLen r)
  case atStart => exact ⟨[], 0, l.length + 1, by omega, by simpa using H.out, BOs.nil _ _, by simp, Below.refl _ _, by omega, by rw [← HS.out]; simp⟩
  case round =>
    obtain ⟨acc, kk, f, hk, hr, ho, hal, hb, hf, hSS⟩ := hrel
    obtain ⟨f, rfl⟩ : ∃ f', f = f' + 1 := ⟨f - 1, by omega⟩
    have hql : (l.drop kk).length = l.length - kk := List.length_drop
    have hft := tkF_facts (l.drop kk)
    have hdd (t : Nat) : (l.drop kk).drop t = l.drop (kk + t) := by rw [List.drop_drop]
    have HDD := Lib.hid hdd
    have hrr : (tkF (l.drop kk)).2.2 = 0 → tkFRest (l.drop kk) = (l.drop kk).drop (tkF (l.drop kk)).2.1 := fun h => by unfold tkFRest; rw [if_pos h]
    have HRR := Lib.hid hrr
    have HFT := Lib.hid hft
    have hun : scF (f + 1) (l.drop kk) = if (l.drop kk).length = 0 then ([], 0, 0) else if (tkF (l.drop kk)).2.2 ≠ 0 then ([], 0, (tkF (l.drop kk)).2.2) else ((tkF (l.drop kk)).1 :: (scF f ((l.drop kk).drop (tkF (l.drop kk)).2.1)).1, (tkF (l.drop kk)).2.1 + (scF f ((l.drop kk).drop (tkF (l.drop kk)).2.1)).2.1, (scF f ((l.drop kk).drop (tkF (l.drop kk)).2.1)).2.2) := rfl
    rw [hun] at hSS
    have hr' := hr
    obtain ⟨x6, c6, rfl, -⟩ := hr.open
    have HR := Lib.hid hr'
    have HO := Lib.hid ho
    have HB := Lib.hid hb
    clear hr hr' ho hb hun hft hrr hdd
    generalize hq : l.drop kk = q at *
    have HQ := Lib.hid hq
    clear hq
    have hsz := HB.out.size
    have HQL := Lib.hid hql
    have HAL := Lib.hid hal
    have HFu := Lib.hid hf
    have hqlI : q.length ≤ 1000000000 := by omega
    clear hal hf
    by_cases hq0 : q.length = 0
    · rw [if_pos hq0] at hSS
      have hkl : kk = l.length := by omega
      have e1 : S.2.1 = l.length := by rw [hSS]; simp [hkl]
      have e2 : S.2.2 = 0 := by rw [hSS]
      have e3 : S.1 = acc := by rw [hSS]; simp
      have E1 := Lib.hid e1
      have E2 := Lib.hid e2
      have E3 := Lib.hid e3
      clear hSS e1 e2 e3
      rw [hq0]
      go_wp2_with fail
      go_ret3
      rw [E1.out, E2.out, E3.out]
      exact ⟨_, rfl, HO.out, HB.out⟩
    · clear hql
      rw [if_neg hq0] at hSS
      have HSS := Lib.hid hSS
      clear hSS
      have hq0I : 0 < (q.length : Int) := by omega
      by_cases he : (tkF q).2.2 = 0
      · have hr2 := HRR.out he
        have HR2 := Lib.hid hr2
        have HF2 := Lib.hid (HFT.out he)
        have HT := Lib.hid (show ((tkF q).2.2 : Int) = 0 by rw [he]; rfl)
        clear hr2
        go_wp2_with (first
          | (go_at_call 55; refine (takef_any _ q _ (HR.out.at' HB.out (Nat.le_refl _)) (by omega)).mono ?_; rw [HT.out]; rintro e w1 ⟨v7, v8, rfl, hs, hb1⟩; have hs7 := (hs _ (HR.out.at' (bthen HB.out hb1 (Nat.le_refl _)) (Nat.le_refl _))).1; have hs8 := (hs _ HR.out).2; have s1 := hb1.size; clear hs)
          | (go_at_call 37; refine (clone_any v7 _ _ hs7 (by have := HF2.out.2.2; omega)).mono ?_; rintro e w2 ⟨v9, rfl, ho9, hb2⟩; have s2 := hb2.size; obtain ⟨y9, c9, rfl, -⟩ := ho9.sh.open)
          | (at_builtin; refine app_bss rfl (.tmp 29) (.tmp 32) rfl rfl ((((HO.out.below hb1).below hb2)).below (balloc (Below.refl _ _) _)) rfl (Own1.lit _ 27 [_]).shows ((ho9.mono (Nat.zero_le _)).alloc _) rfl (by have := HAL.out; omega) (by simp; omega) ?_; intro v10 w3 ho10 hb3; have s3 := hb3.size))
        have hne := HSS.out
        rw [if_neg (show ¬ (tkF q).2.2 ≠ 0 from fun h => h he), HDD.out] at hne
        have hr3 := hs8
        rw [HR2.out, HDD.out] at hr3
        have hf2 := HF2.out
        have hqq := HQL.out
        have hfu := HFu.out
        have hal := HAL.out
        obtain ⟨x8, c8, e8, -⟩ := hr3.open
        refine ⟨⟨acc ++ [(tkF q).1], kk + (tkF q).2.1, f, by omega, hr3, ho10, by simp; omega, ?_, by omega, ?_⟩, ?_⟩
        · exact ((bthen (bthen HB.out hb1 (Nat.le_refl _)) hb2 (Nat.le_refl _)).alloc (by omega) _).trans hb3
        · rw [hne]; simp [Nat.add_assoc]
        · rw [e8]; simp only [slLen, List.length_drop]; omega
      · have heI : ((tkF q).2.2 : Int) != 0 := by rw [bne_iff_ne]; omega
        have hSS2 := HSS.out
        rw [if_pos (show (tkF q).2.2 ≠ 0 from he)] at hSS2
        have E1 := Lib.hid (show S.2.1 = kk by rw [hSS2]; simp)
        have E2 := Lib.hid (show S.2.2 = (tkF q).2.2 by rw [hSS2])
        have E3 := Lib.hid (show S.1 = acc by rw [hSS2]; simp)
        clear hSS2 HSS
        go_wp2_with (go_at_call 55; refine (takef_any _ q _ (HR.out.at' HB.out (Nat.le_refl _)) (by omega)).mono ?_; rintro e w1 ⟨v7, v8, rfl, hs, hb1⟩)
        have hlq : (l.length : Int) - (q.length : Int) = (kk : Int) := by have := HQL.out; omega
        go_ret3
        rw [E1.out, E2.out, E3.out]
        simp only [hlq]
        exact ⟨_, rfl, HO.out.below hb1, bthen HB.out hb1 (Nat.le_refl _)⟩
theorem Scan_any (v : Value) (l : List UInt8) (w : World) (h : Sh w v l) (hl : l.length ≤ 1000000000) :
    Calls Try.prog 40 #[v] w fun e w' => ∃ v', e = .returned (.tuple #[v', .int .i64 ((scF (l.length + 1) l).2.1 : Int), .int .i64 ((scF (l.length + 1) l).2.2 : Int)]) ∧ Bss w' v' (scF (l.length + 1) l).1 ∧ Below w.heap.size w w' :=
  (ScanO_any v l w h hl).mono fun e w' ⟨v', h1, h2, h3⟩ => ⟨v', h1, h2.bss, h3⟩
end Go.Proofs.Ytkghkpkiodghiaa
