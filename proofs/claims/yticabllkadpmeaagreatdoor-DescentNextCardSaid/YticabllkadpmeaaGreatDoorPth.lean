/- Package tree: paths. -/
import Derived.Test.YticabllkadpmeaaGreatDoorCatN
import Derived.Test.YticabllkadpmeaaGreatDoorRng
import Derived.Shelf.Abstract
import Derived.Shelf.RegionOpen
import Derived.OwnWalkIn
import Derived.TacticsInMore
import Derived.LoopNIn
import Derived.LoopIn
import Derived.Deep.Cut
namespace Go.Proofs.YticabllkadpmeaaGreatDoor
set_option linter.unusedVariables false
set_option linter.unusedSimpArgs false
set_option linter.unnecessarySimpa false
open Go.RowKit Go.Shelf
set_option maxRecDepth 100000
set_option maxHeartbeats 4000000
attribute [local go_sem] Oper.semAt_some

/-- The k-th path of n numbers. -/
def pth : Nat → Nat → List Int
  | 0, _ => []
  | n + 1, k => pth n (k / 4) ++ [((k % 4 : Nat) : Int)]
theorem pth_length (n k : Nat) : (pth n k).length = n := by
  induction n generalizing k with
  | zero => rfl
  | succ n ih => simp [pth, ih]
/-- Rows of other types than those that the collecting writes. -/
def Sp (t : TypeId) : Prop := t ≠ 26 ∧ t ≠ 23
theorem OwnN.kpt {A B : World} {base : Nat} {v : Value} {l : List Int} (h : OwnN A base v l) (hk : Kpt Sp A B) : OwnN B base v l := by
  refine ⟨h.1, ?_⟩
  rcases h.2 with hv | ⟨g, cap, cur, hv, h1, h2, h3⟩
  · exact .inl hv
  · exact .inr ⟨g, cap, cur, hv, h1, hk.rows g cur _ (by unfold Sp; decide) h2, h3⟩
theorem OwnN.cel {A B : World} {base : Nat} {v : Value} {l : List Int} (h : OwnN A base v l) (hk : Cel A B) : OwnN B base v l := by
  refine ⟨h.1, ?_⟩
  rcases h.2 with hv | ⟨g, cap, cur, hv, h1, h2, h3⟩
  · exact .inl hv
  · exact .inr ⟨g, cap, cur, hv, h1, hk.same g _ h2 rfl, h3⟩
theorem OwnN.form {w : World} {B : Nat} {v : Value} {l : List Int} (h : OwnN w B v l) : ∃ a n c, v = .slice a n c := by
  rcases h.2 with ⟨h, -⟩ | ⟨g, cap, cur, h, -⟩
  · exact ⟨_, _, _, h⟩
  · exact ⟨_, _, _, h⟩
theorem own_zero {w : World} {B : Nat} {v : Value} {P : List Int} {k : Int} (h : OwnN w B v [P, [k]].flatten) : OwnN w 0 v (P ++ [k]) := by
  have e : [P, [k]].flatten = P ++ [k] := by simp
  rw [e] at h
  refine ⟨h.1, ?_⟩
  rcases h.2 with hv | ⟨g, cap, cur, hv, h1, h2⟩
  · exact .inl hv
  · exact .inr ⟨g, cap, cur, hv, Nat.zero_le _, h2⟩
theorem nss2 (w : World) (va : Option Addr) (vn vc : Nat) (P : List Int) (i : Nat) (h : Ns w (.slice va vn vc) P) :
    Nss ((w.alloc (.cells #[.int .i64 (i : Int)] 3)).alloc (.cells #[.slice va vn vc, .slice (some ⟨w.heap.size, 0, none⟩) 1 1] 23)).drew (.slice (some ⟨w.heap.size + 1, 0, none⟩) 2 2) [P, [(i : Int)]] := by
  have h1 : Ns ((w.alloc (.cells #[.int .i64 (i : Int)] 3)).alloc (.cells #[.slice va vn vc, .slice (some ⟨w.heap.size, 0, none⟩) 1 1] 23)) (.slice va vn vc) P :=
    h.below (((Below.refl _ w).alloc (Nat.le_refl _) _).alloc (by simp) _)
  have h2 : Ns ((w.alloc (.cells #[.int .i64 (i : Int)] 3)).alloc (.cells #[.slice va vn vc, .slice (some ⟨w.heap.size, 0, none⟩) 1 1] 23)) (.slice (some ⟨w.heap.size, 0, none⟩) 1 1) [(i : Int)] :=
    (Shows.of_own (Own1.lit w 3 (nums .i64 [(i : Int)]))).below ((Below.refl _ _).alloc (Nat.le_refl _) _)
  have h3 := Own1.lit (w.alloc (.cells #[.int .i64 (i : Int)] 3)) 23 [.slice va vn vc, .slice (some ⟨w.heap.size, 0, none⟩) 1 1]
  rw [World.size_alloc] at h3
  refine ⟨[.slice va vn vc, .slice (some ⟨w.heap.size, 0, none⟩) 1 1], Shows.drew h3.shows, fun j hj => ?_⟩
  simp only [List.length_cons, List.length_nil] at hj
  rcases (show j = 0 ∨ j = 1 by omega) with rfl | rfl
  · exact ⟨_, rfl, Shows.drew h1⟩
  · exact ⟨_, rfl, Shows.drew h2⟩
theorem RoundIn.anyDepth {m m' : Nat} {P : Program} {l : Nat} {f : FuncId} {tmps : Array Value} {assign body : Code} {w : World} {R : Ending → World → Prop}
    (h : RoundIn Fence.wide m P l f tmps assign body w R) : RoundIn Fence.wide m' P l f tmps assign body w R := ⟨h.1, fun c cs _ => h.2 c cs (room_wide _)⟩
theorem noDepth (k : Nat) : Fence.wide.depth.isSome = true → 1 ≤ k := fun h => by cases h
theorem Row.cel {A B : World} {b : Nat} {t : TypeId} {C : List Value} (h : Row A b t C) (hk : Cel A B) : Row B b t C := hk.same b _ h rfl
theorem Row.kpt {A B : World} {b : Nat} {t : TypeId} {C : List Value} (h : Row A b t C) (hk : Kpt Sp A B) (ht : Sp t) : Row B b t C := hk.rows b _ t ht h
end Go.Proofs.YticabllkadpmeaaGreatDoor
