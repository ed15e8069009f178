import Derived.Test.YtgikmhpfkgacjaaPfxRef2
import Derived.Test.YtgikmhpfkgacjaaConv
namespace Go.Proofs.Ytgikmhpfkgacjaa
set_option linter.unusedVariables false
set_option linter.unusedSimpArgs false
set_option linter.unnecessarySimpa false
open Go.RowKit
set_option maxRecDepth 20000

theorem take_err (v : Value) (l : List UInt8) (e : Nat) (w : World) (h : Sh w v l) (ht : tk l = (0, 0, e)) :
    Calls Try.prog 31 #[v] w fun r w' => ∃ v', r = .returned (.tuple #[.int .u64 0, v', .int .i64 e]) ∧ ∃ m, w' = w.drewN m :=
  (take_any v l w h).mono fun r w' ⟨v', he, hs, hm⟩ => ⟨v', by rw [he, ht]; rfl, hm⟩
theorem take_ok (v : Value) (l : List UInt8) (n k : Nat) (w : World) (h : Sh w v l) (ht : tk l = (n, k, 0)) :
    Calls Try.prog 31 #[v] w fun r w' => ∃ a cap, r = .returned (.tuple #[.int .u64 n, .slice a (l.length - k) cap, .int .i64 0]) ∧ (∀ W, Sh W v l → Sh W (.slice a (l.length - k) cap) (l.drop k)) ∧
      l.length - k ≤ cap ∧ cap ≤ 9223372036854775807 ∧ ∃ m, w' = w.drewN m :=
  (take_any v l w h).mono fun r w' ⟨v', he, hs, hm⟩ => by
    have e1 : tkRest l = l.drop k := by unfold tkRest; rw [ht]; rfl
    rw [e1] at hs
    obtain ⟨a, cap, rfl, g1, g2, g3, g4⟩ := (hs w h).open
    have e2 : (l.drop k).length = l.length - k := by simp
    rw [e2] at g1 he hs
    exact ⟨a, cap, by rw [he, ht]; rfl, hs, g1, g2, hm⟩

theorem ttx_err (l : List UInt8) (most : Int) (e : Nat) (ht : tk l = (0, 0, e)) (he : e ≠ 0) : ttx l most = ([], 0, e) := by unfold ttx; rw [ht, if_pos he]
theorem ttx_long (l : List UInt8) (most : Int) (n k : Nat) (ht : tk l = (n, k, 0)) (h : most < 0 ∨ most < n) : ttx l most = ([], 0, 2) := by unfold ttx; rw [ht, if_neg (by simp), if_pos h]
theorem ttx_short (l : List UInt8) (most : Int) (n k : Nat) (ht : tk l = (n, k, 0)) (h : ¬ (most < 0 ∨ most < n)) (h2 : l.length - k < n) : ttx l most = ([], 0, 3) := by unfold ttx; rw [ht, if_neg (by simp), if_neg h, if_pos h2]
theorem ttx_ok (l : List UInt8) (most : Int) (n k : Nat) (ht : tk l = (n, k, 0)) (h : ¬ (most < 0 ∨ most < n)) (h2 : ¬ l.length - k < n) : ttx l most = ((l.drop k).take n, k + n, 0) := by unfold ttx; rw [ht, if_neg (by simp), if_neg h, if_neg h2]

theorem takeText_any (v : Value) (l : List UInt8) (most : Int) (w : World) (h : Sh w v l) (hm : most ≤ 9223372036854775807) :
    Calls Try.prog 32 #[v, .int .i64 most] w fun r w' => ∃ v', r = .returned (.tuple #[.string ⟨(ttx l most).1.toArray⟩, v', .int .i64 (ttx l most).2.2]) ∧ (∀ W, Sh W v l → Sh W v' (ttRest l most)) ∧ ∃ m, w' = w.drewN m := by
  rcases tk_cases l with ⟨e, ht, he⟩ | ⟨n, k, ht, hk1, hk2, hn⟩
  · have hx := ttx_err l most e ht (by omega)
    have e0 : ttRest l most = [] := by unfold ttRest; rw [hx, if_neg (by show ¬ e = 0; omega)]
    rw [hx, e0]
    have hne : ((e : Int) != 0) = true := by rw [bne_iff_ne]; omega
    go_enter Try.func32, Try.ntmps32
    go_wp2_with (go_at_call 31; refine (take_err v l e w h ht).mono ?_; rintro r w' ⟨v1, rfl, m, rfl⟩)
    go_ret3
    exact ⟨.slice none 0 0, rfl, fun W _ => Sh.nil W, m, rfl⟩
  · have hln := h.len
    by_cases h1 : most < 0 ∨ most < n
    · have hx := ttx_long l most n k ht h1
      have e0 : ttRest l most = [] := by unfold ttRest; rw [hx]; rfl
      rw [hx, e0]
      by_cases h0 : most < 0
      all_goals
        go_enter Try.func32, Try.ntmps32
        go_wp2_with (go_at_call 31; refine (take_ok v l n k w h ht).mono ?_; rintro r w' ⟨a, cap, rfl, g1, g2, g3, m, rfl⟩)
        go_ret3
        exact ⟨.slice none 0 0, rfl, fun W _ => Sh.nil W, m, rfl⟩
    · have h0 : ¬ most < 0 := by omega
      have h0' : ¬ most < n := by omega
      by_cases h2 : l.length - k < n
      · have hx := ttx_short l most n k ht h1 h2
        have e0 : ttRest l most = [] := by unfold ttRest; rw [hx]; rfl
        rw [hx, e0]
        clear h1 hx e0
        generalize hL : l.length - k = L at *
        go_enter Try.func32, Try.ntmps32
        go_wp2_with (go_at_call 31; refine (take_ok v l n k w h ht).mono ?_; rw [hL]; rintro r w' ⟨a, cap, rfl, g1, g2, g3, m, rfl⟩)
        go_ret3
        exact ⟨.slice none 0 0, rfl, fun W _ => Sh.nil W, m, rfl⟩
      · have hx := ttx_ok l most n k ht h1 h2
        have e0 : ttRest l most = (l.drop k).drop n := by unfold ttRest; rw [hx, List.drop_drop]; rfl
        rw [hx, e0]
        clear h1 hx e0
        have hL' : (l.drop k).length = l.length - k := by simp
        have HT := Lib.hid ht
        clear ht
        generalize hL : l.length - k = L at *
        generalize hr : l.drop k = r at *
        have HR := Lib.hid hr
        clear hr
        have HL := Lib.hid hL
        clear hL
        go_enter Try.func32, Try.ntmps32
        go_wp2_with (go_at_call 31; refine (take_ok v l n k w h HT.out).mono ?_; rw [HL.out, HR.out]; rintro e w' ⟨a, cap, rfl, g1, g2, g3, m, rfl⟩)
        have G1 := Lib.hid g1
        have htk := (g1 w h).take n (by rw [hL']; omega)
        clear g1
        have hcv : ∀ nq, (convert 22 9 (.slice a n cap)).run Try.prog (w.drewN nq) = .ok (.string ⟨(r.take n).toArray⟩) (w.drewN nq) := fun nq => conv_run (htk.drewN nq)
        go_quiet (fail)
        go_wp2
        all_goals
          go_ret3
          refine ⟨.slice (if cap = n then a else a.map (·.add n)) (L - n) (cap - n), ?_, fun W hW => (G1.out W hW).drop n (by rw [hL']; omega), m + nq, by simp⟩
          first | rfl | (simp [*])

theorem Take_any (v : Value) (l : List UInt8) (w : World) (h : Sh w v l) (hl : l.length ≤ 140737488355328) :
    Calls Try.prog 18 #[v] w fun r w' => ∃ v', r = .returned (.tuple #[.int .u64 (tk l).1, v', .int .i64 (tk l).2.2]) ∧ Own w' w.heap.size 5 v' (tkRest l) ∧ Below w.heap.size w w' := by
  have hr : (tkRest l).length ≤ l.length := by unfold tkRest; split <;> simp
  go_enter Try.func18, Try.ntmps18
  go_wp2_with (first
    | (go_at_call 31; refine (take_any v l w h).mono ?_; rintro e w' ⟨v1, rfl, hs1, m, rfl⟩)
    | (go_at_call 27; refine (clone_any v1 _ _ ((hs1 _ h).drewN m) (by omega)).mono ?_; rintro e w2 ⟨v2, rfl, ho2, hb2⟩))
  go_ret3
  exact ⟨v2, rfl, ho2, (drewN_below w m).trans hb2⟩
theorem TakeText_any (v : Value) (l : List UInt8) (most : Int) (w : World) (h : Sh w v l) (hl : l.length ≤ 140737488355328) (hm : most ≤ 9223372036854775807) :
    Calls Try.prog 21 #[v, .int .i64 most] w fun r w' => ∃ v', r = .returned (.tuple #[.string ⟨(ttx l most).1.toArray⟩, v', .int .i64 (ttx l most).2.2]) ∧ Own w' w.heap.size 5 v' (ttRest l most) ∧ Below w.heap.size w w' := by
  have hr : (ttRest l most).length ≤ l.length := by unfold ttRest; split <;> simp
  go_enter Try.func21, Try.ntmps21
  go_wp2_with (first
    | (go_at_call 32; refine (takeText_any v l most w h hm).mono ?_; rintro e w' ⟨v1, rfl, hs1, m, rfl⟩)
    | (go_at_call 27; refine (clone_any v1 _ _ ((hs1 _ h).drewN m) (by omega)).mono ?_; rintro e w2 ⟨v2, rfl, ho2, hb2⟩))
  go_ret3
  exact ⟨v2, rfl, ho2, (drewN_below w m).trans hb2⟩
end Go.Proofs.Ytgikmhpfkgacjaa
