/- Package tree: paths. -/
import Derived.Test.YticabllkadpmeaaDoorCatN
import Derived.Test.YticabllkadpmeaaDoorRng
import Derived.Shelf.Abstract
import Derived.Shelf.RegionOpen
import Derived.OwnWalkIn
import Derived.TacticsInMore
import Derived.LoopNIn
import Derived.LoopIn
import Derived.Deep.Cut
namespace Go.Proofs.YticabllkadpmeaaDoor
set_option linter.unusedVariables false
set_option linter.unusedSimpArgs false
set_option linter.unnecessarySimpa false
open Go.RowKit Go.Shelf
set_option maxRecDepth 100000
set_option maxHeartbeats 4000000
attribute [local go_sem] Oper.semAt_some

/-- The k-th path of n numbers. -/
def pth : Nat → Nat → List Int
  | 0, _ => []
  | n + 1, k => pth n (k / 4) ++ [((k % 4 : Nat) : Int)]
theorem pth_length (n k : Nat) : (pth n k).length = n := by
  induction n generalizing k with
  | zero => rfl
  | succ n ih => simp [pth, ih]
/-- Rows of other types than those that the collecting writes. -/
def Sp (t : TypeId) : Prop := t ≠ 78 ∧ t ≠ 79
theorem OwnN.kpt {A B : World} {base : Nat} {v : Value} {l : List Int} (h : OwnN A base v l) (hk : Kpt Sp A B) : OwnN B base v l := by
  refine ⟨h.1, ?_⟩
  rcases h.2 with hv | ⟨g, cap, cur, hv, h1, h2, h3⟩
  · exact .inl hv
  · exact .inr ⟨g, cap, cur, hv, h1, hk.rows g cur _ (by unfold Sp; decide) h2, h3⟩
theorem OwnN.cel {A B : World} {base : Nat} {v : Value} {l : List Int} (h : OwnN A base v l) (hk : Cel A B) : OwnN B base v l := by
  refine ⟨h.1, ?_⟩
  rcases h.2 with hv | ⟨g, cap, cur, hv, h1, h2, h3⟩
  · exact .inl hv
  · exact .inr ⟨g, cap, cur, hv, h1, hk.same g _ h2 rfl, h3⟩
theorem paths_any (n : Nat) (w : World) :
    Calls Tryd.prog 68 #[.int .i64 (n : Int)] w fun e w' => e = .returned (.func (.func 88) #[] #[.pointer (some ⟨w.heap.size, 0, none⟩)]) ∧ w' = w.alloc (.cells #[.int .i64 (n : Int)] 3) := by
  go_enter Tryd.func68, Tryd.ntmps68
  go_wp2
  go_ret
  exact ⟨rfl, rfl⟩
theorem OwnN.form {w : World} {B : Nat} {v : Value} {l : List Int} (h : OwnN w B v l) : ∃ a n c, v = .slice a n c := by
  rcases h.2 with ⟨h, -⟩ | ⟨g, cap, cur, h, -⟩
  · exact ⟨_, _, _, h⟩
  · exact ⟨_, _, _, h⟩
theorem own_zero {w : World} {B : Nat} {v : Value} {P : List Int} {k : Int} (h : OwnN w B v [P, [k]].flatten) : OwnN w 0 v (P ++ [k]) := by
  have e : [P, [k]].flatten = P ++ [k] := by simp
  rw [e] at h
  refine ⟨h.1, ?_⟩
  rcases h.2 with hv | ⟨g, cap, cur, hv, h1, h2⟩
  · exact .inl hv
  · exact .inr ⟨g, cap, cur, hv, Nat.zero_le _, h2⟩
theorem nss2 (w : World) (va : Option Addr) (vn vc : Nat) (P : List Int) (i : Nat) (h : Ns w (.slice va vn vc) P) :
    Nss ((w.alloc (.cells #[.int .i64 (i : Int)] 3)).alloc (.cells #[.slice va vn vc, .slice (some ⟨w.heap.size, 0, none⟩) 1 1] 79)).drew (.slice (some ⟨w.heap.size + 1, 0, none⟩) 2 2) [P, [(i : Int)]] := by
  have h1 : Ns ((w.alloc (.cells #[.int .i64 (i : Int)] 3)).alloc (.cells #[.slice va vn vc, .slice (some ⟨w.heap.size, 0, none⟩) 1 1] 79)) (.slice va vn vc) P :=
    h.below (((Below.refl _ w).alloc (Nat.le_refl _) _).alloc (by simp) _)
  have h2 : Ns ((w.alloc (.cells #[.int .i64 (i : Int)] 3)).alloc (.cells #[.slice va vn vc, .slice (some ⟨w.heap.size, 0, none⟩) 1 1] 79)) (.slice (some ⟨w.heap.size, 0, none⟩) 1 1) [(i : Int)] :=
    (Shows.of_own (Own1.lit w 3 (nums .i64 [(i : Int)]))).below ((Below.refl _ _).alloc (Nat.le_refl _) _)
  have h3 := Own1.lit (w.alloc (.cells #[.int .i64 (i : Int)] 3)) 79 [.slice va vn vc, .slice (some ⟨w.heap.size, 0, none⟩) 1 1]
  rw [World.size_alloc] at h3
  refine ⟨[.slice va vn vc, .slice (some ⟨w.heap.size, 0, none⟩) 1 1], Shows.drew h3.shows, fun j hj => ?_⟩
  simp only [List.length_cons, List.length_nil] at hj
  rcases (show j = 0 ∨ j = 1 by omega) with rfl | rfl
  · exact ⟨_, rfl, Shows.drew h1⟩
  · exact ⟨_, rfl, Shows.drew h2⟩
theorem RoundIn.anyDepth {m m' : Nat} {P : Program} {l : Nat} {f : FuncId} {tmps : Array Value} {assign body : Code} {w : World} {R : Ending → World → Prop}
    (h : RoundIn Fence.wide m P l f tmps assign body w R) : RoundIn Fence.wide m' P l f tmps assign body w R := ⟨h.1, fun c cs _ => h.2 c cs (room_wide _)⟩
theorem noDepth (k : Nat) : Fence.wide.depth.isSome = true → 1 ≤ k := fun h => by cases h
theorem Row.cel {A B : World} {b : Nat} {t : TypeId} {C : List Value} (h : Row A b t C) (hk : Cel A B) : Row B b t C := hk.same b _ h rfl
theorem Row.kpt {A B : World} {b : Nat} {t : TypeId} {C : List Value} (h : Row A b t C) (hk : Kpt Sp A B) (ht : Sp t) : Row B b t C := hk.rows b _ t ht h
theorem gives (n : Nat) : ∀ (Bn : Nat) (w0 : World), Row w0 Bn 3 [.int .i64 (n : Int)] → n ≤ 1000 →
    Gives Tryd.prog Sp 88 #[.pointer (some ⟨Bn, 0, none⟩)] (4 ^ n) (fun k v W => OwnN W 0 v (pth n k)) w0 := by
  induction n with
  | zero =>
    intro Bn w0 hr _ nn l J W hW hJ hY h0
    have hc : W.cell? ⟨Bn, 0, none⟩ = some (.int .i64 0) := Row.cell (hr.below hW hr.lt) 0
    obtain ⟨W1, hW1⟩ : ∃ W1, W.alloc (.cells #[.func (.yield l) #[] #[]] 105) = W1 := ⟨_, rfl⟩
    have hb1 : Below W.heap.size W W1 := by rw [← hW1]; exact (Below.refl _ _).alloc (Nat.le_refl _) _
    have hry : Row W1 W.heap.size 105 [.func (.yield l) #[] #[]] := by rw [← hW1]; exact Row.new W _ _
    have hcy : W1.cell? ⟨W.heap.size, 0, none⟩ = some (.func (.yield l) #[] #[]) := Row.cell hry 0
    have hc1 : W1.cell? ⟨Bn, 0, none⟩ = some (.int .i64 0) := bcell hb1 hc (blt hc)
    obtain ⟨fn, tmps, assign, body, hy, hR⟩ := hY 0 (.slice none 0 0) W1 (by decide) (hJ 0 _ _ h0 (Cel.of_below hb1) hb1) (OwnN.nil _ _)
    have HR := Lib.hid hR
    clear hR hY hJ h0 hW hr hb1 hry
    refine callsIn_of_wp Tryd.func88 rfl trivial ?_ rfl
    simp only [Tryd.ntmps88, List.size_toArray, List.length_cons, List.length_nil, Nat.reduceAdd, Nat.reduceSub, Array.replicate_succ, Array.replicate_zero, List.push_toArray, List.append_toArray, List.nil_append, List.cons_append]
    gi_wp2
    refine ⟨noDepth _, (RoundIn.anyDepth HR.out).mono ?_⟩
    rintro e W3 ⟨rfl, hJ3, hk3⟩
    gi_wp2
    refine bodyPost_ret (results_none rfl _ _ _) rfl ?_
    exact ⟨⟨_, rfl⟩, hJ3⟩
  | succ n ih =>
    intro Bn w0 hr hn nn l J W hW hJ hY h0
    have hc : W.cell? ⟨Bn, 0, none⟩ = some (.int .i64 ((n + 1 : Nat) : Int)) := Row.cell (hr.below hW hr.lt) 0
    obtain ⟨yb, hyb⟩ : ∃ yb, W.heap.size = yb := ⟨_, rfl⟩
    obtain ⟨W1, hW1⟩ : ∃ W1, W.alloc (.cells #[.func (.yield l) #[] #[]] 105) = W1 := ⟨_, rfl⟩
    have hb1 : Below W.heap.size W W1 := by rw [← hW1]; exact (Below.refl _ _).alloc (Nat.le_refl _) _
    have hry : Row W1 W.heap.size 105 [.func (.yield l) #[] #[]] := by rw [← hW1]; exact Row.new W _ _
    have hc1 : W1.cell? ⟨Bn, 0, none⟩ = some (.int .i64 ((n + 1 : Nat) : Int)) := bcell hb1 hc (blt hc)
    have hJ1 : J (4 * 0) W1 := hJ 0 _ _ h0 (Cel.of_below hb1) hb1
    have hnI : ¬ ((n + 1 : Nat) : Int) = 0 := by omega
    have hn1 : ((n + 1 : Nat) : Int) - 1 = (n : Int) := by omega
    have hyl := hry.lt
    rw [hyb] at hb1 hry hyl hJ
    have HRY := Lib.hid hry
    have HJ1 := Lib.hid hJ1
    have HJ := Lib.hid hJ
    have HY := Lib.hid hY
    have HB1 := Lib.hid hb1
    have HIH := Lib.hid ih
    have hnn : ((n + 1 : Nat) : Int) ≤ 1001 := by omega
    generalize ((n + 1 : Nat) : Int) = m at *
    clear hY hJ h0 hW hr hb1 hry hJ1 ih hc
    refine callsIn_of_wp_marks Tryd.func88 rfl trivial ?_ rfl
    simp only [Tryd.ntmps88, List.size_toArray, List.length_cons, List.length_nil, Nat.reduceAdd, Nat.reduceSub, Array.replicate_succ, Array.replicate_zero, List.push_toArray, List.append_toArray, List.nil_append, List.cons_append]
    gi_wp2_with (refine ⟨trivial, noDepth _, (callsIn_wide.2 (paths_any n _)).mono ?_⟩; rintro e w2 ⟨rfl, rfl⟩)
    clear hyb hW1 hc1
    obtain ⟨W2, hW2⟩ : ∃ W2, W1.alloc (.cells #[.int .i64 (n : Int)] 3) = W2 := ⟨_, rfl⟩
    have hr2 : Row W2 W1.heap.size 3 [.int .i64 (n : Int)] := by rw [← hW2]; exact Row.new W1 _ _
    have hb2 : Below W1.heap.size W1 W2 := by rw [← hW2]; exact (Below.refl _ _).alloc (Nat.le_refl _) _
    rw [hW2]
    clear hW2
    have J2 := Lib.hid (HJ.out (4 * 0) W1 W2 HJ1.out (Cel.of_below hb2) (hb2.mono (Nat.le_of_lt hyl)))
    have RY2 := Lib.hid (HRY.out.below hb2 hyl)
    have hw2 := hr2.lt
    have hyl2 : yb < W2.heap.size := by have := hb2.size; omega
    have SEQ := Lib.hid (HIH.out W1.heap.size W2 hr2 (by omega))
    clear hb2 HJ1 HRY hr2 HB1
    refine wpIn_range (S := Sp) (gf := 88) (lb := #[.pointer (some ⟨W1.heap.size, 0, none⟩)]) rfl (enters_of Tryd.func88 (by kernel_rfl) rfl) SEQ.out (Below.refl _ _) rfl (fun k v A B h hc => h.cel hc)
      (fun k W' => J (4 * k) W' ∧ Row W' yb 105 [.func (.yield l) #[] #[]]) (fun k A B h hc hb => ⟨HJ.out _ A B h.1 hc (hb.mono (Nat.le_of_lt hyl2)), h.2.cel hc⟩) ⟨J2.out, RY2.out⟩
      (fun v => { tmps := #[.func (.yield l) #[] #[], .pointer (some ⟨Bn, 0, none⟩), .pointer (some ⟨yb, 0, none⟩), v, undef, .int .i64 m, .bool false, undef, undef, .int .i64 m, .int .i64 (n : Int), .func (.func 88) #[] #[.pointer (some ⟨W1.heap.size, 0, none⟩)], v, undef, undef, undef, undef, undef, undef, undef, undef, undef, undef, undef, undef], defers := [] }) ?assign ?body ?done
    case assign =>
      intro n' l' v W' K hK
      gi_wp2
      exact hK
    case body =>
      intro n' l' k v W' hk hI hG
      obtain ⟨hJk, hRk⟩ := hI
      obtain ⟨va, vn, vc, rfl⟩ := hG.form
      have hmix : Tryd.prog.follows .mixedOrders = true := by kernel_rfl
      have JK := Lib.hid hJk
      have RK := Lib.hid hRk
      have GK := Lib.hid hG
      clear hJk hRk hG J2 RY2 SEQ HIH hn1 hnI
      gi_wp2
      gi_loopw [13] (fun iv wq => ∃ i : Nat, i ≤ 4 ∧ iv = .int .i64 i ∧ J (4 * k + i) wq ∧ Row wq yb 105 [.func (.yield l) #[] #[]] ∧ OwnN wq 0 (.slice va vn vc) (pth n k) ∧ Kpt Sp W' wq) (fun iv _ => 4 - (intOf iv).toNat)
      case atStart => exact ⟨0, by omega, rfl, JK.out, RK.out, GK.out, Kpt.refl _ _⟩
      case round =>
        clear JK RK GK
        obtain ⟨i, hi, rfl, hJi, hRi, hGi, hKi⟩ := hrel
        have JK := Lib.hid hJi
        have RK := Lib.hid hRi
        have GK := Lib.hid hGi
        have KK := Lib.hid hKi
        clear hJi hRi hGi hKi
        by_cases hlt : i < 4
        · have hltI : (i : Int) < 4 := by omega
          have hcy : wr.cell? ⟨yb, 0, none⟩ = some (.func (.yield l) #[] #[]) := Row.cell RK.out 0
          have hyr := RK.out.lt
          gi_wp2
          obtain ⟨W8, hW8⟩ : ∃ W8, ((wr.alloc (.cells #[.int .i64 (i : Int)] 3)).alloc (.cells #[.slice va vn vc, .slice (some ⟨wr.heap.size, 0, none⟩) 1 1] 79)).drew = W8 := ⟨_, rfl⟩
          have hb8 : Below wr.heap.size wr W8 := by rw [← hW8]; exact (((Below.refl _ wr).alloc (Nat.le_refl _) _).alloc (by simp) _).drew
          have hz8 : W8.heap.size = wr.heap.size + 2 := by rw [← hW8]; show ((wr.alloc _).alloc _).heap.size = _; rw [World.size_alloc, World.size_alloc]
          have HNS : Hid (Nss W8 (.slice (some ⟨wr.heap.size + 1, 0, none⟩) 2 2) [pth n k, [(i : Int)]]) := by rw [← hW8]; exact nss2 wr va vn vc (pth n k) i GK.out.ns
          have HB8 := Lib.hid hb8
          have hcy8 : W8.cell? ⟨yb, 0, none⟩ = some (.func (.yield l) #[] #[]) := bcell hb8 hcy hyr
          have hcyA : (wr.alloc (.cells #[.int .i64 (i : Int)] 3)).cell? ⟨yb, 0, none⟩ = some (.func (.yield l) #[] #[]) := bcell ((Below.refl _ wr).alloc (Nat.le_refl _) _) hcy hyr
          have HPT : Hid (pth (n + 1) (4 * k + i) = pth n k ++ [(i : Int)]) := by
            show pth n ((4 * k + i) / 4) ++ [(((4 * k + i) % 4 : Nat) : Int)] = _
            rw [show (4 * k + i) / 4 = k by omega, show (4 * k + i) % 4 = i by omega]
          have HLT : Hid (4 * k + i < 4 ^ (n + 1)) := by have := Nat.pow_succ 4 n; show _ < _; omega
          have HLN := Lib.hid (pth_length n k)
          have hn3 : n ≤ 1000 := by omega
          clear hb8
          gi_region_with_o (first
            | (refine ⟨trivial, noDepth _, ?_⟩; gi_at_call 63; refine (CallsIn.inRound l' (callsIn_wide.2 (concatN_any _ [pth n k, [(i : Int)]] W8 HNS.out (by simp) (by have := HLN.out; simp; omega)))).mono ?_; rintro e w3 ⟨v3, rfl, ho3, hb3⟩; have hb30 := HB8.out.trans (hb3.mono (by omega)); have hJ3 := HJ.out (4 * k + i) wr w3 JK.out (Cel.of_below hb30) (hb30.mono (Nat.le_of_lt hyr)); have hO3 : OwnN w3 0 v3 (pth (n + 1) (4 * k + i)) := (by rw [HPT.out]; exact own_zero ho3); obtain ⟨fn3, tmps3, assign3, body3, hy3, hR3⟩ := HY.out (4 * k + i) v3 w3 HLT.out hJ3 hO3; have HR3 := Lib.hid hR3; have hcy3 := bcell hb30 hcy hyr; have HB30 := Lib.hid hb30; clear hR3 hO3 hJ3 ho3 hb30)
            | (refine ⟨noDepth _, (RoundIn.anyDepth HR3.out : RoundIn (Fence.wide.inRound l') (n' - 1) Tryd.prog l fn3 tmps3 assign3 body3 w3 _).mono ?_⟩; rintro e w4 ⟨rfl, hJ4, hK4⟩; have J4 := Lib.hid hJ4; have K4 := Lib.hid hK4; clear hJ4 hK4))
          all_goals
            gi_wp2
            refine ⟨⟨i + 1, by omega, by go_num, J4.out, ?_, ?_, ?_⟩, by simp [intOf]; omega⟩
            · exact (RK.out.keep HB30.out).kpt K4.out (by unfold Sp; decide)
            · exact (GK.out.cel (Cel.of_below HB30.out)).kpt K4.out
            · exact KK.out.trans ((Kpt.of_below HB30.out).trans K4.out)
        · have hil : i = 4 := by omega
          subst hil
          have J4 : Hid (J (4 * (k + 1)) wr) := by have := JK.out; rwa [show 4 * k + 4 = 4 * (k + 1) by omega] at this
          gi_wp2
          exact ⟨KK.out, J4.out, RK.out⟩
    case done =>
      intro D W' hD hI hK
      gi_wp2
      refine ⟨by simp, .inl ⟨_, _, rfl, run_takeDeferred hK, ?_⟩⟩
      refine ⟨_, results_none rfl _ _ _, ⟨_, rfl⟩, ?_⟩
      rw [show 4 ^ (n + 1) = 4 * 4 ^ n by omega]
      exact HJ.out _ W' _ hI.1 (Cel.putObj _ hK rfl) ((Below.refl _ W').grown (grownBy_putObj' W' D _) (by have := (Array.getElem?_eq_some_iff.1 hK).1; omega) (fun j e => by cases e; omega))
end Go.Proofs.YticabllkadpmeaaDoor
