/- What 'Below' tells at a path of a tree. -/
import Derived.Test.YticabllkadpmeaaDoorLaw21
namespace Go.Proofs.YticabllkadpmeaaDoor
set_option linter.unusedVariables false
set_option linter.unusedSimpArgs false
set_option linter.unnecessarySimpa false
open Go.RowKit
open Tre (It)
set_option maxRecDepth 100000
set_option maxHeartbeats 8000000

/-- The four sums below a path. -/
def belowAt (L : List It) : List Int → List (List UInt8)
  | [] => [Tre.nodeAt L 0, Tre.nodeAt L 1, Tre.nodeAt L 2, Tre.nodeAt L 3]
  | [k] => [Tre.leafAt L (4 * k.toNat), Tre.leafAt L (4 * k.toNat + 1), Tre.leafAt L (4 * k.toNat + 2), Tre.leafAt L (4 * k.toNat + 3)]
  | _ => []
theorem list4 {α : Type} {L : List α} {d : α} (h : L.length = 4) : L = [L.getD 0 d, L.getD 1 d, L.getD 2 d, L.getD 3 d] := by
  match L, h with
  | [a, b, c, e], _ => rfl
theorem belowAt_32 (A : List It) (P : List Int) : L32 (belowAt A P) := by
  intro x hx
  unfold belowAt at hx
  split at hx
  · simp only [List.mem_cons, List.not_mem_nil, or_false] at hx
    rcases hx with rfl | rfl | rfl | rfl <;> exact Tre.nodeAt_length _ _
  · simp only [List.mem_cons, List.not_mem_nil, or_false] at hx
    rcases hx with rfl | rfl | rfl | rfl <;> exact Tre.leafAt_length _ _
  · cases hx
theorem four_getD (T : TS) (k j : Nat) (hj : j < 4) : (T.four k).getD j [] = T.S.getD (4 * k + j) [] := by
  unfold TS.four
  simp only [List.getD, List.getElem?_take, List.getElem?_drop, if_pos hj]
theorem Below_good (w : World) (B b : Nat) (T : TS) (A : List It) (v : Value) (P : List Int) (h : Tr w B b T) (hA : IsT T A) (hs : Ns w v P) (hg : goodP P = true) :
    Calls Tryd.prog 40 #[.pointer (some ⟨b, 0, none⟩), v] w (SmsQ w (belowAt A P) (decide (P.length < 2))) := by
  rcases good_cases hg with rfl | ⟨k, hk, rfl⟩ | ⟨k, m, hk, hm, rfl⟩
  · have := Below_0 w B b T v h hs
    have e : T.A = belowAt A [] := by
      rw [list4 (d := []) h.ok.nA, hA.a 0 (by omega), hA.a 1 (by omega), hA.a 2 (by omega), hA.a 3 (by omega)]; rfl
    rw [e] at this
    exact this
  · have := Below_1 w B b T v k hk h hs
    have e : T.four k = belowAt A [(k : Int)] := by
      rw [list4 (d := []) (TS.four_length h.ok k hk), four_getD _ _ _ (by omega), four_getD _ _ _ (by omega), four_getD _ _ _ (by omega), four_getD _ _ _ (by omega), hA.s _ (by omega), hA.s _ (by omega), hA.s _ (by omega), hA.s _ (by omega)]
      simp [belowAt]
    rw [e] at this
    exact this
  · exact Below_2 w B b T v k m hk hm h hs
theorem own_cel {A B : World} {base e size n : Nat} {v : Value} {xs : List Value} (h : A.ownsRow base e size v n xs) (hk : Cel A B) : B.ownsRow base e size v n xs := by
  refine ⟨h.1, ?_⟩
  rcases h.2 with hv | ⟨g, cap, cur, hv, h1, h2, h3⟩
  · exact .inl hv
  · exact .inr ⟨g, cap, cur, hv, h1, hk.same g _ h2 rfl, h3⟩
theorem own_mono {w : World} {base base' e size n : Nat} {v : Value} {xs : List Value} (h : w.ownsRow base e size v n xs) (hb : base' ≤ base) : w.ownsRow base' e size v n xs := by
  refine ⟨h.1, ?_⟩
  rcases h.2 with h | ⟨g, cap, cur, r1, r2, r3⟩
  · exact .inl h
  · exact .inr ⟨g, cap, cur, r1, Nat.le_trans hb r2, r3⟩
end Go.Proofs.YticabllkadpmeaaDoor
