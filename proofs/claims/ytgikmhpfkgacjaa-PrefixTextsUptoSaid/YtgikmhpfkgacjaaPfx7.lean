import Derived.Test.YtgikmhpfkgacjaaPfx6
namespace Go.Proofs.Ytgikmhpfkgacjaa
set_option linter.unusedVariables false
set_option linter.unusedSimpArgs false
set_option linter.unnecessarySimpa false
open Go.RowKit
set_option maxRecDepth 20000
set_option maxHeartbeats 1000000

/-- What the reference's TakeTexts hands back. -/
def RefTakes (l : List UInt8) (most each : Int) (w : World) (r : Ending) (w' : World) : Prop :=
  ∃ ov, r = .returned (.tuple #[ov, .int .i64 (txs l most each).2.1, .int .i64 (txs l most each).2.2]) ∧ Shows w' 1 ov (txs l most each).1.length (tvals (txs l most each).1) ∧ Below w.heap.size w w'
theorem refTakes_no (l : List UInt8) (most each : Int) (w w' : World) (e : Nat) (h : txs l most each = ([], 0, e)) (hb : Below w.heap.size w w') :
    RefTakes l most each w (.returned (.tuple #[.slice none 0 0, .int .i64 0, .int .i64 e])) w' := by
  refine ⟨.slice none 0 0, by rw [h]; rfl, ?_, hb⟩
  rw [h]; exact Shows.nil _ _

theorem refTakeText_eq (v : Value) (l : List UInt8) (most : Int) (t : List UInt8 × Nat × Nat) (w : World) (h : Sh w v l) (hm : most ≤ 9223372036854775807) (ht : ttx l most = t) :
    Calls Try.prog 22 #[v, .int .i64 most] w fun r w' => r = .returned (.tuple #[.string ⟨t.1.toArray⟩, .int .i64 t.2.1, .int .i64 t.2.2]) ∧ w = w' := by
  subst ht; exact refTakeText_any v l most w h hm
theorem refTakeTexts_any (v : Value) (l : List UInt8) (most each : Int) (w : World) (h : Sh w v l) (hm : most ≤ 9223372036854775807) (hme : each ≤ 9223372036854775807) (hl : (l.length + 1) * 16 ≤ 140737488355328) :
    Calls Try.prog 25 #[v, .int .i64 most, .int .i64 each] w (RefTakes l most each w) := by
  obtain ⟨a, cap, rfl, g1, g2, g3, g4⟩ := h.open
  clear g3
  rcases tk_cases l with ⟨e, ht, he⟩ | ⟨n, k, ht, hk1, hk2, hn⟩
  · have hx := txs_err l most each e ht (by omega)
    have HX := Lib.hid hx
    clear hx
    have hne : ((e : Int) != 0) = true := by rw [bne_iff_ne]; omega
    go_enter Try.func25, Try.ntmps25
    go_wp2_with (go_at_call 19; refine (refTake_any _ l w h).mono ?_; rw [ht]; rintro r w' ⟨rfl, rfl⟩)
    go_ret3
    exact refTakes_no l most each w _ e HX.out (Below.refl _ _)
  · have hln := h.len
    by_cases h1 : most < 0 ∨ most < n
    · have hx := txs_long l most each n k ht h1
      have HX := Lib.hid hx
      have HT := Lib.hid ht
      clear hx ht
      by_cases h0 : most < 0
      all_goals
        go_enter Try.func25, Try.ntmps25
        go_wp2_with (go_at_call 19; refine (refTake_any _ l w h).mono ?_; rw [HT.out]; rintro r w' ⟨rfl, rfl⟩)
        go_ret3
        exact refTakes_no l most each w _ 2 HX.out (Below.refl _ _)
    · have h0 : ¬ most < 0 := by omega
      have h0' : ¬ most < n := by omega
      have hx := txs_ok l most each n k ht h1
      have HX := Lib.hid hx
      have HT := Lib.hid ht
      clear hx h1 ht
      have hO0 := Own1.lit w 9 []
      have hB0 : Below w.heap.size w (w.alloc (.cells #[] 9)) := (Below.refl _ _).alloc (Nat.le_refl _) _
      have HO0 := Lib.hid hO0
      have HB0 := Lib.hid hB0
      clear hO0 hB0
      go_enter Try.func25, Try.ntmps25
      go_wp2_with (go_at_call 19; refine (refTake_any _ l w h).mono ?_; rw [HT.out]; rintro r w' ⟨rfl, rfl⟩)
      go_loopw [10, 12, 13] (fun at_ o i wr => ∃ (j kk : Nat) (acc : List (List UInt8)), j ≤ n ∧ i = .int .u64 j ∧ at_ = .int .i64 kk ∧ Own1 wr w.heap.size 9 o (tvals acc) ∧ acc.length ≤ kk ∧ kk ≤ l.length ∧ Below w.heap.size w wr ∧
          txs l most each = txsA (n - j) acc kk (l.drop kk) each) (fun _ _ i _ => n - (intOf i).toNat)
      case atStart => exact ⟨0, k, [], by omega, rfl, rfl, HO0.out, by simp, hk2, HB0.out, HX.out⟩
      case round =>
        obtain ⟨j, kk, acc, hj, rfl, rfl, hor, hac, hkk, hbr, htx⟩ := hrel
        have hsz := hbr.size
        have HTX := Lib.hid htx
        have HBr := Lib.hid hbr
        have HOr := Lib.hid hor
        have hkI : (kk : Int) ≤ (l.length : Int) := by omega
        have hkC : (kk : Int) ≤ (cap : Int) := by omega
        have hdrop := (Sh.at' g4 hbr (Nat.le_refl _)).drop kk hkk
        obtain ⟨zv, hzv, hzs⟩ : ∃ zv, zv = (.slice (if cap = kk then a else a.map (·.add kk)) (l.length - kk) (cap - kk) : Value) ∧ Sh wr zv (l.drop kk) := ⟨_, rfl, hdrop⟩
        have hzv2 : zv = if cap = kk then .slice a (l.length - kk) 0 else .slice (a.map (·.add kk)) (l.length - kk) (cap - kk) := by
          rw [hzv]; by_cases hck : cap = kk
          · rw [if_pos hck, if_pos hck, hck, Nat.sub_self]
          · rw [if_neg hck, if_neg hck]
        clear hzv hdrop
        have hck : cap = kk ∨ ¬ cap = kk := by omega
        have HD : Hid ((cap = kk → Sh wr (.slice a (l.length - kk) 0) (l.drop kk)) ∧ (¬ cap = kk → Sh wr (.slice (a.map (·.add kk)) (l.length - kk) (cap - kk)) (l.drop kk))) := by
          refine Lib.hid ⟨fun h => ?_, fun h => ?_⟩
          · rw [hzv2, if_pos h] at hzs; exact hzs
          · rw [hzv2, if_neg h] at hzs; exact hzs
        clear htx hbr hor hzv2 hzs zv
        by_cases hlt : j < n
        · obtain ⟨q, hq⟩ : ∃ q, n - j = q + 1 := ⟨n - j - 1, by omega⟩
          by_cases herr : (ttx (l.drop kk) each).2.2 = 0
          · have hf := ttx_facts (l.drop kk) each herr
            have hstep := txsA_ok q acc kk (l.drop kk) each herr
            have HQ := Lib.hid hq
            have HS := Lib.hid hstep
            have hdl : (l.drop kk).length = l.length - kk := by simp
            rw [hdl] at hf
            clear hq hstep hdl
            generalize hT : ttx (l.drop kk) each = t at *
            have HTt := Lib.hid hT
            clear hT
            rcases hck with hck | hck
            · exfalso; omega
            · have HD' := HD.out.2 hck
              go_wp2_with (first
                | (go_at_call 22; (refine (refTakeText_eq _ _ each t _ HD' hme HTt.out).mono ?_); rintro r w3 ⟨rfl, rfl⟩)
                | (at_builtin; refine app_one (base := w.heap.size) Try.underlying32 info_string rfl rfl (.tmp 52) (.tmp 54) rfl rfl (HOr.out.alloc _) rfl (m := [.string ⟨t.1.toArray⟩]) (Own1.lit wr 9 [_]).shows (by intro u hu; simp at hu; subst hu; rfl) (by simp; omega) (by simp; omega) (by simp; omega) ?_; intro v4 w4 ho4 hb4))
              all_goals
                go_roundw
                case rel =>
                  refine ⟨j + 1, kk + t.2.1, acc ++ [t.1], by omega, by go_num, by go_num, by simpa [tvals] using ho4, by simp; omega, by omega, ?_, ?_⟩
                  · exact HBr.out.trans (((Below.refl _ _).alloc hsz _).trans hb4)
                  · rw [HTX.out, HQ.out, HS.out, show n - (j + 1) = q by have := HQ.out; omega, List.drop_drop]
                case measure => simp [intOf]; omega
          · have hstep := txsA_err q acc kk (l.drop kk) each herr
            have hfin : txs l most each = ([], 0, (ttx (l.drop kk) each).2.2) := by rw [HTX.out, hq, hstep]
            have HF := Lib.hid hfin
            have hne : (((ttx (l.drop kk) each).2.2 : Int) != 0) = true := by rw [bne_iff_ne]; omega
            have HE := Lib.hid herr
            clear herr hstep hfin hq
            generalize hT : ttx (l.drop kk) each = t at *
            have HTt := Lib.hid hT
            clear hT
            rcases hck with hck | hck
            · have HD' := HD.out.1 hck
              go_wp2_with (go_at_call 22; (refine (refTakeText_eq _ _ each t _ HD' hme HTt.out).mono ?_); rintro r w3 ⟨rfl, rfl⟩)
              all_goals
                go_ret3
                exact refTakes_no l most each w _ _ HF.out HBr.out
            · have HD' := HD.out.2 hck
              go_wp2_with (go_at_call 22; (refine (refTakeText_eq _ _ each t _ HD' hme HTt.out).mono ?_); rintro r w3 ⟨rfl, rfl⟩)
              all_goals
                go_ret3
                exact refTakes_no l most each w _ _ HF.out HBr.out
        · obtain rfl : j = n := by omega
          have hfin : txs l most each = (acc, kk, 0) := by rw [HTX.out, Nat.sub_self, txsA]
          have HF := Lib.hid hfin
          clear hfin
          go_wp2
          go_ret3
          refine ⟨_, by rw [HF.out]; rfl, ?_, HBr.out⟩
          rw [HF.out]
          have := HOr.out.shows
          simpa using this

theorem refSame_any (av bv : Value) (ts : List (List UInt8)) (w : World) (h1 : Shows w 1 av ts.length (tvals ts)) (h2 : Shows w 1 bv ts.length (tvals ts)) (hl : ts.length < 4611686018427387904) :
    Calls Try.prog 26 #[av, bv] w fun r w' => r = .returned (.bool true) ∧ Below w.heap.size w w' := by
  obtain ⟨a, cap, rfl, a1, a2, a3, a4⟩ := h1.open
  obtain ⟨b, cap2, rfl, b1, b2, b3, b4⟩ := h2.open
  clear a3 b3 h1 h2
  have hx : ∀ j, j < ts.length → (tvals ts)[j]? = some (.string ⟨(ts.getD j []).toArray⟩) := fun j hj => by
    simp [tvals, List.getD, List.getElem?_eq_getElem hj]
  have HX := Lib.hid hx
  clear hx
  have htl : (tvals ts).length = ts.length := tvals_length ts
  generalize hL : ts.length = L at *
  clear hL
  generalize tvals ts = xs at *
  have HTL := Lib.hid htl
  clear htl
  have hlI : (L : Int) < 4611686018427387904 := by omega
  have hne : ((L : Int) != (L : Int)) = false := by simp
  go_enter Try.func26, Try.ntmps26
  go_wp2
  go_loopw [5] (fun i wr => ∃ j : Nat, j ≤ L ∧ i = .int .i64 j ∧ ∃ m, wr = w.drewN m) (fun i _ => L - (intOf i).toNat)
  case atStart => exact ⟨0, by omega, rfl, 0, rfl⟩
  case round =>
    obtain ⟨j, hj, rfl, m, rfl⟩ := hrel
    by_cases hlt : j < L
    · obtain ⟨ba, oa, rfl, hca⟩ := a4.cells1 (by rw [HTL.out]; omega)
      obtain ⟨bb, ob, rfl, hcb⟩ := b4.cells1 (by rw [HTL.out]; omega)
      have ka := hca j _ (HX.out j hlt)
      have kb := hcb j _ (HX.out j hlt)
      clear hca hcb
      have hjI : (j : Int) < (L : Int) := by omega
      generalize ts.getD j [] = t at *
      go_wp2
      go_quiet (fail)
      go_wp2
      go_roundw
      case rel => exact ⟨j + 1, by omega, by go_num, m + nq, by simp⟩
      case measure => simp [intOf]; omega
    · obtain rfl : j = L := by omega
      go_wp2
      go_ret
      exact ⟨rfl, drewN_below w m⟩
end Go.Proofs.Ytgikmhpfkgacjaa
