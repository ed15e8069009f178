import Derived.Test.YtgikmhpfkgacjaaPfx5
namespace Go.Proofs.Ytgikmhpfkgacjaa
set_option linter.unusedVariables false
set_option linter.unusedSimpArgs false
set_option linter.unnecessarySimpa false
open Go.RowKit
set_option maxRecDepth 20000

theorem refTakeText_any (v : Value) (l : List UInt8) (most : Int) (w : World) (h : Sh w v l) (hm : most ≤ 9223372036854775807) :
    Calls Try.prog 22 #[v, .int .i64 most] w fun r w' => r = .returned (.tuple #[.string ⟨(ttx l most).1.toArray⟩, .int .i64 (ttx l most).2.1, .int .i64 (ttx l most).2.2]) ∧ w = w' := by
  rcases tk_cases l with ⟨e, ht, he⟩ | ⟨n, k, ht, hk1, hk2, hn⟩
  · have hx := ttx_err l most e ht (by omega)
    rw [hx]
    have hne : ((e : Int) != 0) = true := by rw [bne_iff_ne]; omega
    go_enter Try.func22, Try.ntmps22
    go_wp2_with (go_at_call 19; refine (refTake_any v l w h).mono ?_; rw [ht]; rintro r w' ⟨rfl, rfl⟩)
    go_ret3
    exact ⟨rfl, rfl⟩
  · have hln := h.len
    obtain ⟨a, cap, rfl, g1, g2, g3, g4⟩ := h.open
    clear h g3
    have HT := Lib.hid ht
    by_cases h1 : most < 0 ∨ most < n
    · have hx := ttx_long l most n k ht h1
      rw [hx]
      clear ht hx
      by_cases h0 : most < 0
      all_goals
        go_enter Try.func22, Try.ntmps22
        go_wp2_with (go_at_call 19; refine (refTake_any _ l w g4).mono ?_; rw [HT.out]; rintro r w' ⟨rfl, rfl⟩)
        go_ret3
        exact ⟨rfl, rfl⟩
    · have h0 : ¬ most < 0 := by omega
      have h0' : ¬ most < n := by omega
      by_cases h2 : l.length - k < n
      · have hx := ttx_short l most n k ht h1 h2
        rw [hx]
        have h2' : (l.length : Int) - k < n := by omega
        clear h1 hx ht h2
        go_enter Try.func22, Try.ntmps22
        go_wp2_with (go_at_call 19; refine (refTake_any _ l w g4).mono ?_; rw [HT.out]; rintro r w' ⟨rfl, rfl⟩)
        go_ret3
        exact ⟨rfl, rfl⟩
      · have hx := ttx_ok l most n k ht h1 h2
        rw [hx]
        have h2' : ¬ (l.length : Int) - k < n := by omega
        have h3 : (k : Int) + n ≤ l.length := by omega
        have h4 : (k : Int) ≤ (k : Int) + n := by omega
        have h5 : (k : Int) + n ≤ cap := by omega
        have hsl := g4.sliced (lo := k) (hi := k + n) (m := cap) (by omega) (by omega) (by omega) (Nat.le_refl _)
        have e1 : k + n - k = n := by omega
        have e2 : ((k : Int) + (n : Int)).toNat = k + n := by omega
        rw [e1] at hsl
        have hcv := conv_run hsl
        have E1 := e1
        clear h1 hx ht h2 hsl
        go_enter Try.func22, Try.ntmps22
        go_wp2_with (go_at_call 19; refine (refTake_any _ l w g4).mono ?_; rw [HT.out]; rintro r w' ⟨rfl, rfl⟩)
        all_goals
          go_ret3
          exact ⟨by simp, rfl⟩

/-- Texts as cells. -/
def tvals (ts : List (List UInt8)) : List Value := ts.map fun t => .string ⟨t.toArray⟩
@[simp] theorem tvals_length (ts : List (List UInt8)) : (tvals ts).length = ts.length := by simp [tvals]
theorem ttx_facts (l : List UInt8) (most : Int) (h : (ttx l most).2.2 = 0) : 1 ≤ (ttx l most).2.1 ∧ (ttx l most).2.1 ≤ l.length := by
  rcases tk_cases l with ⟨e, ht, he⟩ | ⟨n, k, ht, hk1, hk2, hn⟩
  · rw [ttx_err l most e ht (by omega)] at h; simp at h; omega
  · by_cases h1 : most < 0 ∨ most < n
    · rw [ttx_long l most n k ht h1] at h; simp at h
    · by_cases h2 : l.length - k < n
      · rw [ttx_short l most n k ht h1 h2] at h; simp at h
      · rw [ttx_ok l most n k ht h1 h2]; simp; omega
theorem txsA_err (m : Nat) (acc : List (List UInt8)) (k : Nat) (l : List UInt8) (each : Int) (h : (ttx l each).2.2 ≠ 0) : txsA (m + 1) acc k l each = ([], 0, (ttx l each).2.2) := by rw [txsA, if_pos h]
theorem txsA_ok (m : Nat) (acc : List (List UInt8)) (k : Nat) (l : List UInt8) (each : Int) (h : (ttx l each).2.2 = 0) :
    txsA (m + 1) acc k l each = txsA m (acc ++ [(ttx l each).1]) (k + (ttx l each).2.1) (l.drop (ttx l each).2.1) each := by rw [txsA, if_neg (by omega)]
theorem txs_err (l : List UInt8) (most each : Int) (e : Nat) (ht : tk l = (0, 0, e)) (he : e ≠ 0) : txs l most each = ([], 0, e) := by unfold txs; rw [ht, if_pos he]
theorem txs_long (l : List UInt8) (most each : Int) (n k : Nat) (ht : tk l = (n, k, 0)) (h : most < 0 ∨ most < n) : txs l most each = ([], 0, 2) := by unfold txs; rw [ht, if_neg (by simp), if_pos h]
theorem txs_ok (l : List UInt8) (most each : Int) (n k : Nat) (ht : tk l = (n, k, 0)) (h : ¬ (most < 0 ∨ most < n)) : txs l most each = txsA n [] k (l.drop k) each := by unfold txs; rw [ht, if_neg (by simp), if_neg h]

/-- What TakeTexts hands back. -/
def TakesTexts (l : List UInt8) (most each : Int) (w : World) (r : Ending) (w' : World) : Prop :=
  ∃ ov v', r = .returned (.tuple #[ov, v', .int .i64 (txs l most each).2.2]) ∧ Shows w' 1 ov (txs l most each).1.length (tvals (txs l most each).1) ∧ Sh w' v' (txsRest l most each) ∧ Below w.heap.size w w'
theorem takesTexts_no (l : List UInt8) (most each : Int) (w w' : World) (e : Nat) (he : e ≠ 0) (h : txs l most each = ([], 0, e)) (hb : Below w.heap.size w w') :
    TakesTexts l most each w (.returned (.tuple #[.slice none 0 0, .slice none 0 0, .int .i64 e])) w' := by
  refine ⟨.slice none 0 0, .slice none 0 0, by rw [h], ?_, ?_, hb⟩
  · rw [h]; exact Shows.nil _ _
  · unfold txsRest; rw [h, if_neg (by exact he)]; exact Sh.nil _

theorem TakeTexts_any (v : Value) (l : List UInt8) (most each : Int) (w : World) (h : Sh w v l) (hm : most ≤ 9223372036854775807) (hme : each ≤ 9223372036854775807) (hl : (l.length + 1) * 16 ≤ 140737488355328) :
    Calls Try.prog 24 #[v, .int .i64 most, .int .i64 each] w (TakesTexts l most each w) := by
  rcases tk_cases l with ⟨e, ht, he⟩ | ⟨n, k, ht, hk1, hk2, hn⟩
  · have hx := txs_err l most each e ht (by omega)
    have HX := Lib.hid hx
    clear hx
    have hne : ((e : Int) != 0) = true := by rw [bne_iff_ne]; omega
    go_enter Try.func24, Try.ntmps24
    go_wp2_with (go_at_call 31; refine (take_err v l e w h ht).mono ?_; rintro r w' ⟨v1, rfl, m, rfl⟩)
    go_ret3
    exact takesTexts_no l most each w _ e (by omega) HX.out (drewN_below w m)
  · have hln := h.len
    by_cases h1 : most < 0 ∨ most < n
    · have hx := txs_long l most each n k ht h1
      have HX := Lib.hid hx
      clear hx
      by_cases h0 : most < 0
      all_goals
        go_enter Try.func24, Try.ntmps24
        go_wp2_with (go_at_call 31; refine (take_ok v l n k w h ht).mono ?_; rintro r w' ⟨a, cap, rfl, g1, g2, g3, m, rfl⟩)
        go_ret3
        exact takesTexts_no l most each w _ 2 (by omega) HX.out (drewN_below w m)
    · have h0 : ¬ most < 0 := by omega
      have h0' : ¬ most < n := by omega
      have hx := txs_ok l most each n k ht h1
      have HX := Lib.hid hx
      have HT := Lib.hid ht
      clear hx h1 ht
      go_enter Try.func24, Try.ntmps24
      go_wp2_with (go_at_call 31; refine (take_ok v l n k w h HT.out).mono ?_; rintro r w' ⟨a, cap, rfl, g1, g2, g3, m, rfl⟩)
      have G1 := Lib.hid (g1 w h)
      have hB : Below w.heap.size w (w.drewN m) := drewN_below w m
      have HB := Lib.hid hB
      clear g1 hB
      go_loopw [0, 11, 33] (fun bv o i wr => ∃ (j kk : Nat) (acc : List (List UInt8)), j ≤ n ∧ i = .int .u64 j ∧ Own1 wr w.heap.size 9 o (tvals acc) ∧ acc.length ≤ kk ∧ kk ≤ l.length ∧ Sh w bv (l.drop kk) ∧ Below w.heap.size w wr ∧
          txs l most each = txsA (n - j) acc kk (l.drop kk) each) (fun _ _ i _ => n - (intOf i).toNat)
      case atStart => exact ⟨0, k, [], by omega, rfl, Own1.nil _ _ _, by simp, hk2, G1.out, HB.out, HX.out⟩
      case round =>
        obtain ⟨j, kk, acc, hj, rfl, hor, hac, hkk, hsh, hbr, htx⟩ := hrel
        have hsz := hbr.size
        have HTX := Lib.hid htx
        have HBr := Lib.hid hbr
        have HOr := Lib.hid hor
        have HSh := Lib.hid hsh
        clear htx hbr hor hsh
        by_cases hlt : j < n
        · obtain ⟨q, hq⟩ : ∃ q, n - j = q + 1 := ⟨n - j - 1, by omega⟩
          by_cases herr : (ttx (l.drop kk) each).2.2 = 0
          · have hf := ttx_facts (l.drop kk) each herr
            have hstep := txsA_ok q acc kk (l.drop kk) each herr
            have HQ := Lib.hid hq
            have HS := Lib.hid hstep
            have hrest : ttRest (l.drop kk) each = l.drop (kk + (ttx (l.drop kk) each).2.1) := by unfold ttRest; rw [if_pos herr, List.drop_drop]
            have HR := Lib.hid hrest
            have hdl : (l.drop kk).length = l.length - kk := by simp
            rw [hdl] at hf
            clear hq hstep hrest hdl
            have hmt := takeText_any _ _ each wr (HSh.out.at' HBr.out (Nat.le_refl _)) hme
            rw [HR.out, herr] at hmt
            have HM := Lib.hid hmt
            clear hmt herr
            generalize hT : ttx (l.drop kk) each = t at *
            clear hT
            go_wp2_with (first
              | (go_at_call 32; refine (HM.out).mono ?_; rintro r w3 ⟨v3, rfl, hs3, m3, rfl⟩)
              | (at_builtin; (refine app_one (base := w.heap.size) Try.underlying32 info_string rfl rfl (.tmp 45) (.tmp 47) rfl rfl ((HOr.out.below (drewN_below wr m3)).alloc _) rfl (m := [.string ⟨t.1.toArray⟩]) (Own1.lit (wr.drewN m3) 9 [_]).shows (by intro u hu; simp at hu; subst hu; rfl) (by simp; omega) (by simp; omega) (by simp; omega) ?_); intro v4 w4 ho4 hb4))
            go_roundw
            case rel =>
              refine ⟨j + 1, kk + t.2.1, acc ++ [t.1], by omega, by go_num, by simpa [tvals] using ho4, by simp; omega, by omega, ?_, ?_, ?_⟩
              · exact hs3 w HSh.out
              · exact HBr.out.trans (((((drewN_below wr m3).mono hsz).alloc (by simpa using hsz) _)).trans hb4)
              · rw [HTX.out, HQ.out, HS.out, show n - (j + 1) = q by have := HQ.out; omega, List.drop_drop]
            case measure => simp [intOf]; omega
          · have hstep := txsA_err q acc kk (l.drop kk) each herr
            have hfin : txs l most each = ([], 0, (ttx (l.drop kk) each).2.2) := by rw [HTX.out, hq, hstep]
            have HF := Lib.hid hfin
            have hmt := takeText_any _ _ each wr (HSh.out.at' HBr.out (Nat.le_refl _)) hme
            have hne : (((ttx (l.drop kk) each).2.2 : Int) != 0) = true := by rw [bne_iff_ne]; omega
            have HE := Lib.hid herr
            have HM := Lib.hid hmt
            clear hmt herr hstep hfin hq
            generalize hT : ttx (l.drop kk) each = t at *
            clear hT
            go_wp2_with (go_at_call 32; refine (HM.out).mono ?_; rintro r w3 ⟨v3, rfl, hs3, m3, rfl⟩)
            go_ret3
            exact takesTexts_no l most each w _ _ HE.out HF.out (HBr.out.trans ((drewN_below wr m3).mono hsz))
        · obtain rfl : j = n := by omega
          have hfin : txs l most each = (acc, kk, 0) := by rw [HTX.out, Nat.sub_self, txsA]
          have HF := Lib.hid hfin
          have hrest : txsRest l most each = l.drop kk := by unfold txsRest; rw [hfin, if_pos rfl]
          have HR := Lib.hid hrest
          clear hfin hrest
          go_wp2_with (go_at_call 27; refine (clone_any _ _ _ (HSh.out.at' HBr.out (Nat.le_refl _)) (by simp; omega)).mono ?_; rintro e w3 ⟨v3, rfl, ho3, hb3⟩)
          go_ret3
          refine ⟨_, v3, by rw [HF.out]; rfl, ?_, ?_, HBr.out.trans (hb3.mono hsz)⟩
          · rw [HF.out]
            have := HOr.out.shows.below hb3
            simpa using this
          · rw [HR.out]; exact ho3.sh
end Go.Proofs.Ytgikmhpfkgacjaa
