/- Package tree: good, Path. -/
import Derived.Test.YticabllkadpmeaaGreatDoorTre2
namespace Go.Proofs.YticabllkadpmeaaGreatDoor
set_option linter.unusedVariables false
set_option linter.unusedSimpArgs false
set_option linter.unnecessarySimpa false
open Go.RowKit
open Tre (It)
set_option maxRecDepth 100000
set_option maxHeartbeats 4000000

/-- Numbers in memory. -/
def Ns (w : World) (v : Value) (P : List Int) : Prop := Shows w 1 v P.length (nums .i64 P)
theorem Ns.open {w : World} {v : Value} {P : List Int} (h : Ns w v P) : ∃ a cap, v = .slice a P.length cap ∧ P.length ≤ cap ∧ cap ≤ 9223372036854775807 ∧ (a = none → cap = 0) ∧ Ns w (.slice a P.length cap) P := by
  have h' := h
  obtain ⟨_, a, cap, rfl, h2, h3, h4, _⟩ := h
  exact ⟨a, cap, rfl, h2, by simpa [maxLen] using h3, h4, h'⟩
theorem Ns.below {w w' : World} {v : Value} {P : List Int} (h : Ns w v P) (hb : Below w.heap.size w w') : Ns w' v P := Shows.below h hb
theorem Ns.at {w : World} {a : Option Addr} {n cap : Nat} {P : List Int} (h : Ns w (.slice a n cap) P) (hl : 0 < P.length) : ∃ b off, a = some ⟨b, off, none⟩ ∧ ∀ j, j < P.length → w.cell? ⟨b, off + j, none⟩ = some (.int .i64 (P.getD j 0)) := by
  have hn : n = P.length := by obtain ⟨_, a', c', hv, _⟩ := h; simp only [Value.slice.injEq] at hv; exact hv.2.1
  subst hn
  obtain ⟨b, off, rfl, hc⟩ := (show Shows w 1 (.slice a (nums .i64 P).length cap) (nums .i64 P).length (nums .i64 P) by rw [nums_length]; exact h).cells1 (by simpa using hl)
  exact ⟨b, off, rfl, fun j hj => hc j _ (nums_get _ _ _ hj)⟩
def badN (n : Int) : Bool := decide (n < 0) || decide (4 ≤ n)
/-- Whether numbers are a path. -/
def goodP (P : List Int) : Bool := decide (P.length ≤ 2) && !(P.any badN)
theorem good1_any (n : Int) (w : World) : Calls Tryz.prog 65 #[.int .i64 n] w fun e w' => e = .returned (.bool (badN n)) ∧ w' = w := by
  by_cases h : n < 0
  · have e : badN n = true := by simp [badN, h]
    rw [e]
    go_enter Tryz.func65, Tryz.ntmps65
    go_wp2_with fail
    go_ret
    exact ⟨rfl, rfl⟩
  · have e : badN n = decide (4 ≤ n) := by simp [badN, h]
    rw [e]
    go_enter Tryz.func65, Tryz.ntmps65
    go_wp2_with fail
    go_ret
    exact ⟨rfl, rfl⟩
def idxN (P : List Int) : Int := match P.findIdx? badN with | some i => i | none => -1
theorem idxN_eq (P : List Int) (j : Nat) (hj : j < P.length) (h1 : ∀ k, k < j → badN (P.getD k 0) = false) (h2 : badN (P.getD j 0) = true) : idxN P = j := by
  have : P.findIdx? badN = some j := by
    rw [List.findIdx?_eq_some_iff_getElem]
    refine ⟨hj, by simpa [List.getD, List.getElem?_eq_getElem hj] using h2, fun k hk => ?_⟩
    have := h1 k hk
    simpa [List.getD, List.getElem?_eq_getElem (show k < P.length by omega)] using this
  unfold idxN; rw [this]
theorem idxN_none (P : List Int) (h1 : ∀ k, k < P.length → badN (P.getD k 0) = false) : idxN P = -1 := by
  have : P.findIdx? badN = none := by
    rw [List.findIdx?_eq_none_iff]
    intro x hx
    obtain ⟨k, hk, rfl⟩ := List.mem_iff_getElem.1 hx
    have := h1 k hk
    simpa [List.getD, List.getElem?_eq_getElem hk] using this
  unfold idxN; rw [this]
theorem idxf_any (v : Value) (P : List Int) (w : World) (hs : Ns w v P) :
    Calls Tryz.prog 86 #[v, .func (.func 65) #[] #[]] w fun e w' => e = .returned (.int .i64 (idxN P)) ∧ w' = w := by
  obtain ⟨xa, ca, rfl, hc1, hc2, -, -⟩ := hs.open
  have HS := Lib.hid hs
  clear hs
  go_enter Tryz.func86, Tryz.ntmps86
  go_wp2_with fail
  go_loopw [8] (fun iv wr => ∃ j : Nat, j ≤ P.length ∧ iv = .int .i64 j ∧ (∀ k, k < j → badN (P.getD k 0) = false) ∧ wr = w) (fun iv _ => P.length - (intOf iv).toNat)
  case atStart => exact ⟨0, Nat.zero_le _, rfl, (fun k hk => by omega), rfl⟩
  case round =>
    obtain ⟨j, hj, rfl, h1, hw⟩ := hrel
    have H1 := Lib.hid h1
    subst hw
    clear h1
    by_cases hlt : j < P.length
    · have hltI : (j : Int) < (P.length : Int) := by omega
      obtain ⟨b, off, rfl, hat⟩ := HS.out.at (by omega)
      have hc := hat j hlt
      obtain ⟨n, hn⟩ : ∃ n, P.getD j 0 = n := ⟨_, rfl⟩
      rw [hn] at hc
      have HN := Lib.hid hn
      clear hat hn
      obtain ⟨t, ht⟩ : ∃ t, badN n = t := ⟨_, rfl⟩
      have HT := Lib.hid ht
      clear ht
      cases t with
      | true =>
        have HI := Lib.hid (idxN_eq P j hlt H1.out (by rw [HN.out]; exact HT.out))
        go_wp2_with (go_at_call 65; refine (good1_any n _).mono ?_; rw [HT.out]; rintro e w1 ⟨rfl, rfl⟩)
        go_ret
        rw [HI.out]
        exact ⟨rfl, rfl⟩
      | false =>
        go_wp2_with (go_at_call 65; refine (good1_any n _).mono ?_; rw [HT.out]; rintro e w1 ⟨rfl, rfl⟩)
        refine ⟨⟨j + 1, by omega, by go_num, fun k hk => ?_, by trivial⟩, by simp [intOf]; omega⟩
        rcases Nat.lt_or_ge k j with h | h
        · exact H1.out k h
        · rw [show k = j by omega, HN.out]; exact HT.out
    · have hjl : j = P.length := by omega
      have hnI : ¬ (j : Int) < (P.length : Int) := by omega
      have HI := Lib.hid (idxN_none P (fun k hk => H1.out k (by omega)))
      clear hjl hlt hj
      go_wp2_with fail
      go_ret
      rw [HI.out]
      exact ⟨rfl, rfl⟩
theorem idxN_any (P : List Int) : decide (0 ≤ idxN P) = P.any badN := by
  unfold idxN
  cases h : P.findIdx? badN with
  | some i =>
    obtain ⟨hi, hb, -⟩ := List.findIdx?_eq_some_iff_getElem.1 h
    have : P.any badN = true := by rw [List.any_eq_true]; exact ⟨P[i], List.getElem_mem hi, hb⟩
    rw [this]; simp
  | none =>
    have : P.any badN = false := by
      rw [List.any_eq_false]
      intro x hx
      have := List.findIdx?_eq_none_iff.1 h x hx
      simp [this]
    rw [this]; simp
theorem contN_any (v : Value) (P : List Int) (w : World) (hs : Ns w v P) :
    Calls Tryz.prog 64 #[v, .func (.func 65) #[] #[]] w fun e w' => e = .returned (.bool (P.any badN)) ∧ w' = w := by
  have HS := Lib.hid hs
  have HA := Lib.hid (idxN_any P)
  clear hs
  go_enter Tryz.func64, Tryz.ntmps64
  go_wp2_with (go_at_call 86; refine (idxf_any v P _ HS.out).mono ?_; rintro e w1 ⟨rfl, rfl⟩)
  go_ret
  exact ⟨by rw [← HA.out]; rfl, rfl⟩
theorem good_any (v : Value) (P : List Int) (w : World) (hs : Ns w v P) :
    Calls Tryz.prog 41 #[v] w fun e w' => e = .returned (.bool (goodP P)) ∧ w' = w := by
  obtain ⟨xa, ca, rfl, hc1, hc2, -, -⟩ := hs.open
  have HS := Lib.hid hs
  clear hs
  by_cases hl : P.length ≤ 2
  · have e : goodP P = !(P.any badN) := by simp [goodP, hl]
    have hlI : (P.length : Int) ≤ 2 := by omega
    rw [e]
    go_enter Tryz.func41, Tryz.ntmps41
    go_wp2_with (go_at_call 64; refine (contN_any _ P _ HS.out).mono ?_; rintro e w1 ⟨rfl, rfl⟩)
    go_ret
    exact ⟨rfl, rfl⟩
  · have e : goodP P = false := by simp [goodP, hl]
    have hlI : ¬ (P.length : Int) ≤ 2 := by omega
    rw [e]
    go_enter Tryz.func41, Tryz.ntmps41
    go_wp2_with fail
    go_ret
    exact ⟨rfl, rfl⟩
end Go.Proofs.YticabllkadpmeaaGreatDoor
