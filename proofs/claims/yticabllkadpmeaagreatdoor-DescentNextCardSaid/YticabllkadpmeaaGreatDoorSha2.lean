/- Package sha: takes. -/
import Derived.Test.YticabllkadpmeaaGreatDoorCopyS
import Derived.OrdersHeld
import Derived.Deep.MidRow
import Derived.Deep.RegionHeld
namespace Go.Proofs.YticabllkadpmeaaGreatDoor
set_option linter.unusedVariables false
set_option linter.unusedSimpArgs false
set_option linter.unnecessarySimpa false
open Go.RowKit
set_option maxRecDepth 100000
set_option maxHeartbeats 4000000

/-- Words as numbers. -/
def us (l : List UInt32) : List Int := l.map u
@[simp] theorem us_length (l : List UInt32) : (us l).length = l.length := by simp [us]
theorem us_getD (l : List UInt32) (j : Nat) (hj : j < l.length) : (us l).getD j 0 = u (l.getD j 0) := by simp [us, List.getD, hj]
/-- Some words of an array of 64. -/
def wTo (l : List UInt32) : List Int := us l ++ List.replicate (64 - l.length) 0
theorem wTo_length (l : List UInt32) (h : l.length ≤ 64) : (wTo l).length = 64 := by simp [wTo]; omega
theorem wTo_get (l : List UInt32) (j : Nat) (hj : j < l.length) : (wTo l).getD j 0 = u (l.getD j 0) := by
  have h1 : (us l ++ List.replicate (64 - l.length) 0)[j]? = (us l)[j]? := List.getElem?_append_left (by simpa using hj)
  unfold wTo
  rw [← us_getD l j hj]
  simp only [List.getD, h1]
theorem wTo_set (l : List UInt32) (x : UInt32) (h : l.length < 64) : (wTo l).set l.length (u x) = wTo (l ++ [x]) := by
  unfold wTo
  rw [List.set_append_right _ _ (by simp)]
  simp only [us_length, Nat.sub_self, List.length_append, List.length_singleton]
  rw [show 64 - l.length = (64 - (l.length + 1)) + 1 by omega, List.replicate_succ]
  simp [us]
/-- A hash's cells; eight words' cells. -/
def hashL (L : List UInt32) (left : Value) (n : Nat) : List Value := nums .u32 (us L) ++ [left, .int .u64 (n : Int)]
def hashC (s : Sha.St) (left : Value) (n : Nat) : List Value := hashL s.list left n
theorem hashC_eq (s : Sha.St) (left : Value) (n : Nat) : hashC s left n = [.int .u32 (u s.a), .int .u32 (u s.b), .int .u32 (u s.c), .int .u32 (u s.d), .int .u32 (u s.e), .int .u32 (u s.f), .int .u32 (u s.g), .int .u32 (u s.h), left, .int .u64 (n : Int)] := rfl
def stC (s : Sha.St) : List Value := nums .u32 (us s.list)
theorem stC_eq (s : Sha.St) : stC s = [.int .u32 (u s.a), .int .u32 (u s.b), .int .u32 (u s.c), .int .u32 (u s.d), .int .u32 (u s.e), .int .u32 (u s.f), .int .u32 (u s.g), .int .u32 (u s.h)] := rfl
theorem hashL_get (L : List UInt32) (left : Value) (n j : Nat) (hj : j < L.length) : (hashL L left n)[j]? = some (.int .u32 (u (L.getD j 0))) := by
  unfold hashL
  rw [List.getElem?_append_left (by simpa using hj), nums_get _ _ _ (by simpa using hj), us_getD L j hj]
theorem hashL_set (L : List UInt32) (left : Value) (n j : Nat) (x : UInt32) (hj : j < L.length) : (hashL L left n).set j (.int .u32 (u x)) = hashL (L.set j x) left n := by
  unfold hashL
  rw [List.set_append_left _ _ (by simpa using hj), nums_set]
  simp [us, List.map_set]
/-- The program's variables of package sha. -/
def Glob (w : World) : Prop := 3 ≤ w.heap.size ∧ (∀ j, j < 8 → w.cell? ⟨0, j, none⟩ = some (.int .u32 (u (Sha.first.getD j 0)))) ∧ ∀ j, j < 64 → w.cell? ⟨1, j, none⟩ = some (.int .u32 (u (Sha.roots.getD j 0)))
theorem Glob.below {B : Nat} {w w' : World} (h : Glob w) (hb : Below B w w') (hB : 3 ≤ B) : Glob w' :=
  ⟨Nat.le_trans h.1 hb.size, fun j hj => bcell hb (h.2.1 j hj) (by show 0 < B; omega), fun j hj => bcell hb (h.2.2 j hj) (by show 1 < B; omega)⟩

theorem u_or3 (x y : Int) (a b : UInt32) (h1 : x = u a) (h2 : y = u b) : bits .or .u32 x y = u (a ||| b) := by rw [h1, h2, u_or]
theorem word_eq (c0 c1 c2 c3 : UInt8) : bits .or .u32 (bits .or .u32 (bits .or .u32 ((c0.toNat : Int) % 4294967296 * 16777216 % 4294967296) ((c1.toNat : Int) % 4294967296 * 65536 % 4294967296)) ((c2.toNat : Int) % 4294967296 * 256 % 4294967296)) ((c3.toNat : Int) % 4294967296)
    = u (c0.toUInt32 <<< 24 ||| c1.toUInt32 <<< 16 ||| c2.toUInt32 <<< 8 ||| c3.toUInt32) := by
  rw [u_of8, u_of8, u_of8, u_of8]
  exact u_or3 _ _ _ _ (u_or3 _ _ _ _ (u_or3 _ _ _ _ (u_shl _ 24 (by decide)) (u_shl _ 16 (by decide))) (u_shl _ 8 (by decide))) rfl
theorem wordsTo_succ (b : List UInt8) (j : Nat) : Sha.wordsTo b (j + 1) = Sha.wordsTo b j ++ [Sha.wordAt b j] := by simp [Sha.wordsTo, List.range_succ]

theorem preS (s : Sha.St) (w : World) : ∃ W, (w.alloc (.cells #[.int .u32 (u s.a), .int .u32 (u s.b), .int .u32 (u s.c), .int .u32 (u s.d), .int .u32 (u s.e), .int .u32 (u s.f), .int .u32 (u s.g), .int .u32 (u s.h)] 91)) = W ∧ Hid (Row W w.heap.size 91 (stC s)) ∧ Hid (Below w.heap.size w W) ∧ Hid (W.heap.size = w.heap.size + 1) :=
  ⟨_, rfl, Row.new w _ (stC s), balloc (Below.refl _ _) _, show _ = _ by simp⟩
theorem size_u32 : (Tryz.prog.info? 90).map (·.size) = some 1 := by kernel_rfl
def rootsV : Value := .agg (nums .u32 (us Sha.roots)).toArray
def stV (s : Sha.St) : Value := .agg (stC s).toArray
theorem load_roots {w : World} {ops : Array Oper} {rest : List Oper} {o : Oper} {a : Act} {Q : Exit → Act → World → Prop} (hgd : o.guard = none) (ho : o.op = .load 106 (.global 1)) (h : Glob w)
    (hK : wpList Tryz.prog ops Q rest (a.put o.dst rootsV) w) : wpList Tryz.prog ops Q (o :: rest) a w := by
  refine wpList_load_mid hgd 106 (.global 1) ho 1 0 rfl (nums .u32 (us Sha.roots)) _ (fun j v hj => ?_) Tryz.underlying106 rfl (by kernel_rfl) hK
  have hl : j < 64 := by have := (List.getElem?_eq_some_iff.1 hj).1; simpa [Sha.roots] using this
  rw [nums_get _ _ _ (by simpa [Sha.roots] using hl), us_getD _ _ (by simpa [Sha.roots] using hl)] at hj
  rw [Nat.zero_add]
  exact (h.2.2 j hl).trans hj
theorem index_roots (j : Nat) (hj : j < 64) (w : World) : (Instr.index 106 rootsV (.int .i64 (j : Int))).run Tryz.prog w = .ok (.int .u32 (u (Sha.roots.getD j 0))) w := by
  unfold rootsV
  rw [run_index_nums Tryz.underlying106 Tryz.underlying90 size_u32 (us Sha.roots) j (by simpa [Sha.roots] using hj) rfl w, us_getD _ _ (by simpa [Sha.roots] using hj)]
theorem load_st {w : World} {ops : Array Oper} {rest : List Oper} {o : Oper} {a : Act} {Q : Exit → Act → World → Prop} (hgd : o.guard = none) (x : Operand) (ho : o.op = .load 91 x) (b : Nat) (hx : a.eval x = .pointer (some ⟨b, 0, none⟩)) (s : Sha.St) {t : TypeId} (h : Row w b t (stC s))
    (hK : wpList Tryz.prog ops Q rest (a.put o.dst (stV s)) w) : wpList Tryz.prog ops Q (o :: rest) a w :=
  wpList_load_mid hgd 91 x ho b 0 hx (stC s) _ (fun j v hj => by rw [Nat.zero_add, h.cell j]; exact hj) Tryz.underlying91 rfl (by kernel_rfl) hK
theorem index_st (s : Sha.St) (j : Nat) (hj : j < 8) (w : World) : (Instr.index 91 (stV s) (.int .i64 (j : Int))).run Tryz.prog w = .ok (.int .u32 (u (s.list.getD j 0))) w := by
  unfold stV stC
  rw [run_index_nums Tryz.underlying91 Tryz.underlying90 size_u32 (us s.list) j (by simpa [Sha.St.list] using hj) rfl w, us_getD _ _ (by simpa [Sha.St.list] using hj)]
/-- The words of a state of which j are added. -/
def mixL (s t : Sha.St) (j : Nat) : List UInt32 := (s.plus t).list.take j ++ s.list.drop j
theorem mixL_length (s t : Sha.St) (j : Nat) (hj : j ≤ 8) : (mixL s t j).length = 8 := by simp [mixL, Sha.St.list]; omega
theorem mixL_zero (s t : Sha.St) : mixL s t 0 = s.list := rfl
theorem mixL_all (s t : Sha.St) : mixL s t 8 = (s.plus t).list := rfl
theorem mixL_get (s t : Sha.St) (j : Nat) (hj : j < 8) : (mixL s t j).getD j 0 = s.list.getD j 0 := by
  match j, hj with
  | 0, _ => rfl
  | 1, _ => rfl
  | 2, _ => rfl
  | 3, _ => rfl
  | 4, _ => rfl
  | 5, _ => rfl
  | 6, _ => rfl
  | 7, _ => rfl
theorem mixL_set (s t : Sha.St) (j : Nat) (hj : j < 8) : (mixL s t j).set j (s.list.getD j 0 + t.list.getD j 0) = mixL s t (j + 1) := by
  match j, hj with
  | 0, _ => rfl
  | 1, _ => rfl
  | 2, _ => rfl
  | 3, _ => rfl
  | 4, _ => rfl
  | 5, _ => rfl
  | 6, _ => rfl
  | 7, _ => rfl
theorem pre64 (w : World) : ∃ W, (w.alloc (.cells #[.int .u32 0, .int .u32 0, .int .u32 0, .int .u32 0, .int .u32 0, .int .u32 0, .int .u32 0, .int .u32 0, .int .u32 0, .int .u32 0, .int .u32 0, .int .u32 0, .int .u32 0, .int .u32 0, .int .u32 0, .int .u32 0, .int .u32 0, .int .u32 0, .int .u32 0, .int .u32 0, .int .u32 0, .int .u32 0, .int .u32 0, .int .u32 0, .int .u32 0, .int .u32 0, .int .u32 0, .int .u32 0, .int .u32 0, .int .u32 0, .int .u32 0, .int .u32 0, .int .u32 0, .int .u32 0, .int .u32 0, .int .u32 0, .int .u32 0, .int .u32 0, .int .u32 0, .int .u32 0, .int .u32 0, .int .u32 0, .int .u32 0, .int .u32 0, .int .u32 0, .int .u32 0, .int .u32 0, .int .u32 0, .int .u32 0, .int .u32 0, .int .u32 0, .int .u32 0, .int .u32 0, .int .u32 0, .int .u32 0, .int .u32 0, .int .u32 0, .int .u32 0, .int .u32 0, .int .u32 0, .int .u32 0, .int .u32 0, .int .u32 0, .int .u32 0] 106)) = W ∧ Hid (Arr W w.heap.size 106 .u32 (wTo [])) ∧ Hid (Below w.heap.size w W) :=
  ⟨_, rfl, Row.new w _ (nums .u32 (wTo [])), balloc (Below.refl _ _) _⟩

theorem takes_any (p : Nat) (s : Sha.St) (left : Value) (n : Nat) (v : Value) (bs : List UInt8) (w : World) (hg : Glob w) (hr : Row w p 93 (hashC s left n)) (hs : Sh w v bs) (hl : bs.length = 64) (hp : 3 ≤ p) :
    Calls Tryz.prog 54 #[.pointer (some ⟨p, 0, none⟩), v] w fun e w' => e = .returned (.tuple #[]) ∧ Row w' p 93 (hashC (s.take bs) left n) ∧ Upd p w w' := by
  obtain ⟨a, cap, rfl, g1, g2, g3, g4⟩ := hs.open
  rw [hl] at hs g1 ⊢
  have H := Lib.hid hs
  have HL := Lib.hid hl
  have HR := Lib.hid hr
  have HG := Lib.hid hg
  clear hs g3 g4 hr hg hl
  go_enter Tryz.func54, Tryz.ntmps54
  go_upto_region 1 with fail
  obtain ⟨W, hW, R0, HB⟩ := pre64 w
  rw [hW]
  clear hW
  go_wp2_with fail
  go_loopw [18] (fun i wr => ∃ j : Nat, j ≤ 16 ∧ i = .int .i64 j ∧ Arr wr w.heap.size 106 .u32 (wTo (Sha.wordsTo bs j)) ∧ Below w.heap.size w wr) (fun i _ => 16 - (intOf i).toNat)
  case atStart => exact ⟨0, by omega, rfl, R0.out, HB.out⟩
  case round =>
    clear R0 HB
    obtain ⟨j, hj, rfl, r0, hb⟩ := hrel
    have R0 := Lib.hid r0
    have HB := Lib.hid hb
    clear r0 hb
    by_cases hlt : j < 16
    · skip
      have hl := HL.out
      obtain ⟨b, off, rfl, hby⟩ := H.out.cells (by omega)
      have hc0 := bcell HB.out (hby (4 * j) (by omega)) (blt (hby (4 * j) (by omega)))
      have hc1 := bcell HB.out (hby (4 * j + 1) (by omega)) (blt (hby (4 * j + 1) (by omega)))
      have hc2 := bcell HB.out (hby (4 * j + 2) (by omega)) (blt (hby (4 * j + 2) (by omega)))
      have hc3 := bcell HB.out (hby (4 * j + 3) (by omega)) (blt (hby (4 * j + 3) (by omega)))
      clear hby hl
      have hcw := R0.out.cell j (by rw [wTo_length _ (by rw [Sha.wordsTo_length]; omega)]; omega)
      have hfw := R0.out.frozen j
      have hset : (wTo (Sha.wordsTo bs j)).set j (u (Sha.wordAt bs j)) = wTo (Sha.wordsTo bs (j + 1)) := by
        have := wTo_set (Sha.wordsTo bs j) (Sha.wordAt bs j) (by rw [Sha.wordsTo_length]; omega)
        rw [Sha.wordsTo_length] at this
        rw [wordsTo_succ]; exact this
      have HW := Lib.hid (word_eq (bs.getD (4 * j) 0) (bs.getD (4 * j + 1) 0) (bs.getD (4 * j + 2) 0) (bs.getD (4 * j + 3) 0))
      have HST := Lib.hid hset
      change Hid (_ = u (Sha.wordAt bs j)) at HW
      clear hset
      generalize (bs.getD (4 * j) 0).toNat = c0 at *
      generalize (bs.getD (4 * j + 1) 0).toNat = c1 at *
      generalize (bs.getD (4 * j + 2) 0).toNat = c2 at *
      generalize (bs.getD (4 * j + 3) 0).toNat = c3 at *
      go_wp2_with fail
      go_region
      go_wp2_with fail
      exact ⟨⟨j + 1, by omega, by go_num, by rw [← HST.out, HW.out]; exact (R0.out.set j _).drew, (HB.out.setCell (p := ⟨_, j, none⟩) (Nat.le_refl _) _).drew⟩, by simp [intOf]; omega⟩
    · have hj6 : j = 16 := by omega
      have R1 : Hid (Arr wr w.heap.size 106 .u32 (wTo (Sha.wordsTo bs 16))) := by rw [← hj6]; exact R0
      have hnI : ¬ (j : Int) < 16 := by omega
      clear R0 hj6
      go_wp2_with fail
      go_loopw [6] (fun i wr => ∃ j : Nat, j ≤ 48 ∧ i = .int .i64 ((16 : Int) + (j : Int)) ∧ Arr wr w.heap.size 106 .u32 (wTo (Sha.more (Sha.wordsTo bs 16) j)) ∧ Below w.heap.size w wr) (fun i _ => 64 - (intOf i).toNat)
      case atStart => exact ⟨0, by omega, rfl, R1.out, HB.out⟩
      case round =>
        clear R1 HB hj hlt hnI
        obtain ⟨j, hj, rfl, r0, hb⟩ := hrel
        have R0 := Lib.hid r0
        have HB := Lib.hid hb
        clear r0 hb
        by_cases hlt : j < 48
        · have hltI : (16 : Int) + (j : Int) < 64 := by omega
          have hLn : (Sha.more (Sha.wordsTo bs 16) j).length = 16 + j := by rw [Sha.more_length, Sha.wordsTo_length]
          have hnx : Sha.more (Sha.wordsTo bs 16) (j + 1) = Sha.more (Sha.wordsTo bs 16) j ++ [Sha.next (Sha.more (Sha.wordsTo bs 16) j)] := rfl
          generalize Sha.more (Sha.wordsTo bs 16) j = L at *
          have hset : (wTo L).set (16 + j) (u (Sha.next L)) = wTo (L ++ [Sha.next L]) := by
            have := wTo_set L (Sha.next L) (by omega)
            rw [hLn] at this; exact this
          have hnext : Sha.next L = L.getD j 0 + Sha.s0 (L.getD (j + 1) 0) + L.getD (j + 9) 0 + Sha.s1 (L.getD (j + 14) 0) := by
            unfold Sha.next
            rw [hLn, show 16 + j - 16 = j by omega, show 16 + j - 15 = j + 1 by omega, show 16 + j - 7 = j + 9 by omega, show 16 + j - 2 = j + 14 by omega]
          have hw0 := R0.out.cell j (by rw [wTo_length _ (by omega)]; omega)
          have hw1 := R0.out.cell (j + 1) (by rw [wTo_length _ (by omega)]; omega)
          have hw9 := R0.out.cell (j + 9) (by rw [wTo_length _ (by omega)]; omega)
          have hw14 := R0.out.cell (j + 14) (by rw [wTo_length _ (by omega)]; omega)
          have hwi := R0.out.cell (16 + j) (by rw [wTo_length _ (by omega)]; omega)
          have hfi := R0.out.frozen (16 + j)
          rw [wTo_get L _ (by omega)] at hw0 hw1 hw9 hw14
          generalize L.getD j 0 = x0 at *
          generalize L.getD (j + 1) 0 = x1 at *
          generalize L.getD (j + 9) 0 = x9 at *
          generalize L.getD (j + 14) 0 = x2 at *
          have HST := Lib.hid hset
          have HNX := Lib.hid hnx
          have HN := Lib.hid hnext
          have HLN := Lib.hid hLn
          clear hset hnx hnext hLn
          have i1 : ((16 : Int) + (j : Int)) - 15 = (j : Int) + 1 := by omega
          have i2 : ((16 : Int) + (j : Int)) - 2 = (j : Int) + 14 := by omega
          have i3 : ((16 : Int) + (j : Int)) - 16 = (j : Int) := by omega
          have i4 : ((16 : Int) + (j : Int)) - 7 = (j : Int) + 9 := by omega
          go_wp2_with fail
          go_region
          go_upto_region 10 with fail
          have hxor := u_xor
          have hadd := u_add
          have haddw := u_addw
          have h3 : ∀ x : UInt32, u x / (8 : Int) = u (x >>> 3) := fun x => u_shr x 3 (by decide)
          have h10 : ∀ x : UInt32, u x / (1024 : Int) = u (x >>> 10) := fun x => u_shr x 10 (by decide)
          have k1 : IntKind.i64.wrap (j : Int) = (j : Int) := IntWalk.i64_in _ ⟨by omega, by omega⟩
          have k2 : IntKind.i64.wrap ((j : Int) + 9) = (j : Int) + 9 := IntWalk.i64_in _ ⟨by omega, by omega⟩
          have k8 : ((j : Int) + 9).toNat = j + 9 := by omega
          have k9 : (0 : Int) ≤ (j : Int) + 9 := by omega
          have k3 : IntKind.i64.wrap ((16 : Int) + (j : Int)) = (16 : Int) + (j : Int) := IntWalk.i64_in _ ⟨by omega, by omega⟩
          have k4 : (j : Int) < 64 := by omega
          have k5 : (j : Int) + 9 < 64 := by omega
          have k6 : ((16 : Int) + (j : Int)).toNat = 16 + j := by omega
          have k7 : (0 : Int) ≤ (16 : Int) + (j : Int) := by omega
          refine wp_region_held_drew (S := fun w' => w'.cell? ⟨w.heap.size, j, none⟩ = some (.int .u32 (u x0)) ∧ w'.cell? ⟨w.heap.size, j + 9, none⟩ = some (.int .u32 (u x9))) (by kernel_rfl) (by exact ⟨hw0, hw9⟩) (fun hHeld => ?_)
          refine wpAnyH_take (i := 0) (v := ?_) (by simp only [List.getElem?_toArray, List.getElem?_cons_zero, List.getElem?_cons_succ] <;> rfl) (by kernel_rfl) (by kernel_rfl) (by kernel_rfl) (by intro _ _ _ h; exact h) (Or.inl ⟨by rfl, ?_⟩) (by assumption) ?_
          rotate_left
          · intro w _; go_simp; try with_reducible rfl
          try simp only [Act.put, List.setIfInBounds_toArray, List.set_cons_zero, List.set_cons_succ, Array.replicate]
          refine wpAnyH_take (i := 1) (v := ?_) (by simp only [List.getElem?_toArray, List.getElem?_cons_zero, List.getElem?_cons_succ] <;> rfl) (by kernel_rfl) (by kernel_rfl) (by kernel_rfl) (by intro _ _ _ h; exact h) (Or.inl ⟨by rfl, ?_⟩) (by assumption) ?_
          rotate_left
          · intro w _; go_simp; try with_reducible rfl
          try simp only [Act.put, List.setIfInBounds_toArray, List.set_cons_zero, List.set_cons_succ, Array.replicate]
          refine wpAnyH_take (i := 2) (v := ?_) (by simp only [List.getElem?_toArray, List.getElem?_cons_zero, List.getElem?_cons_succ] <;> rfl) (by kernel_rfl) (by kernel_rfl) (by kernel_rfl) (by intro _ _ _ h; exact h) (Or.inl ⟨by rfl, ?_⟩) (by assumption) ?_
          rotate_left
          · intro w _; go_simp; try with_reducible rfl
          try simp only [Act.put, List.setIfInBounds_toArray, List.set_cons_zero, List.set_cons_succ, Array.replicate]
          refine wpAnyH_take (i := 3) (v := ?_) (by simp only [List.getElem?_toArray, List.getElem?_cons_zero, List.getElem?_cons_succ] <;> rfl) (by kernel_rfl) (by kernel_rfl) (by kernel_rfl) (by intro _ _ _ h; exact h) (Or.inl ⟨by rfl, ?_⟩) (by assumption) ?_
          rotate_left
          · intro w _; go_simp; try with_reducible rfl
          try simp only [Act.put, List.setIfInBounds_toArray, List.set_cons_zero, List.set_cons_succ, Array.replicate]
          refine wpAnyH_take (i := 4) (v := ?_) (by simp only [List.getElem?_toArray, List.getElem?_cons_zero, List.getElem?_cons_succ] <;> rfl) (by kernel_rfl) (by kernel_rfl) (by kernel_rfl) (by intro _ _ _ h; exact h) (Or.inl ⟨by rfl, ?_⟩) (by assumption) ?_
          rotate_left
          · intro w hSS; obtain ⟨e1, e2⟩ := hSS; go_simp; try with_reducible rfl
          try simp only [Act.put, List.setIfInBounds_toArray, List.set_cons_zero, List.set_cons_succ, Array.replicate]
          refine wpAnyH_take (i := 5) (v := ?_) (by simp only [List.getElem?_toArray, List.getElem?_cons_zero, List.getElem?_cons_succ] <;> rfl) (by kernel_rfl) (by kernel_rfl) (by kernel_rfl) (by intro _ _ _ h; exact h) (Or.inl ⟨by rfl, ?_⟩) (by assumption) ?_
          rotate_left
          · intro w _; go_simp; try with_reducible rfl
          try simp only [Act.put, List.setIfInBounds_toArray, List.set_cons_zero, List.set_cons_succ, Array.replicate]
          refine wpAnyH_take (i := 7) (v := ?_) (by simp only [List.getElem?_toArray, List.getElem?_cons_zero, List.getElem?_cons_succ] <;> rfl) (by kernel_rfl) (by kernel_rfl) (by kernel_rfl) (by intro _ _ _ h; exact h) (Or.inl ⟨by rfl, ?_⟩) (by assumption) ?_
          rotate_left
          · intro w _; go_simp; try with_reducible rfl
          try simp only [Act.put, List.setIfInBounds_toArray, List.set_cons_zero, List.set_cons_succ, Array.replicate]
          refine wpAnyH_take (i := 10) (v := ?_) (by simp only [List.getElem?_toArray, List.getElem?_cons_zero, List.getElem?_cons_succ] <;> rfl) (by kernel_rfl) (by kernel_rfl) (by kernel_rfl) (by intro _ _ _ h; exact h) (Or.inl ⟨by rfl, ?_⟩) (by assumption) ?_
          rotate_left
          · intro w _; go_simp; try with_reducible rfl
          try simp only [Act.put, List.setIfInBounds_toArray, List.set_cons_zero, List.set_cons_succ, Array.replicate]
          refine wpAnyH_take (i := 11) (v := ?_) (by simp only [List.getElem?_toArray, List.getElem?_cons_zero, List.getElem?_cons_succ] <;> rfl) (by kernel_rfl) (by kernel_rfl) (by kernel_rfl) (by intro _ _ _ h; exact h) (Or.inl ⟨by rfl, ?_⟩) (by assumption) ?_
          rotate_left
          · intro w _; go_simp; try with_reducible rfl
          try simp only [Act.put, List.setIfInBounds_toArray, List.set_cons_zero, List.set_cons_succ, Array.replicate]
          refine wpAnyH_take (i := 14) (v := ?_) (by simp only [List.getElem?_toArray, List.getElem?_cons_zero, List.getElem?_cons_succ] <;> rfl) (by kernel_rfl) (by kernel_rfl) (by kernel_rfl) (by intro _ _ _ h; exact h) (Or.inl ⟨by rfl, ?_⟩) (by assumption) ?_
          rotate_left
          · intro w _; go_simp; try with_reducible rfl
          try simp only [Act.put, List.setIfInBounds_toArray, List.set_cons_zero, List.set_cons_succ, Array.replicate]
          refine wpAnyH_take (i := 15) (v := ?_) (by simp only [List.getElem?_toArray, List.getElem?_cons_zero, List.getElem?_cons_succ] <;> rfl) (by kernel_rfl) (by kernel_rfl) (by kernel_rfl) (by intro _ _ _ h; exact h) (Or.inl ⟨by rfl, ?_⟩) (by assumption) ?_
          rotate_left
          · intro w _; go_simp; try with_reducible rfl
          try simp only [Act.put, List.setIfInBounds_toArray, List.set_cons_zero, List.set_cons_succ, Array.replicate]
          refine wpAnyH_take (i := 16) (v := ?_) (by simp only [List.getElem?_toArray, List.getElem?_cons_zero, List.getElem?_cons_succ] <;> rfl) (by kernel_rfl) (by kernel_rfl) (by kernel_rfl) (by intro _ _ _ h; exact h) (Or.inl ⟨by rfl, ?_⟩) (by assumption) ?_
          rotate_left
          · intro w _; go_simp; try with_reducible rfl
          try simp only [Act.put, List.setIfInBounds_toArray, List.set_cons_zero, List.set_cons_succ, Array.replicate]
          refine wpAnyH_take (i := 17) (v := ?_) (by simp only [List.getElem?_toArray, List.getElem?_cons_zero, List.getElem?_cons_succ] <;> rfl) (by kernel_rfl) (by kernel_rfl) (by kernel_rfl) (by intro _ _ _ h; exact h) (Or.inl ⟨by rfl, ?_⟩) (by assumption) ?_
          rotate_left
          · intro w hSS; obtain ⟨e1, e2⟩ := hSS; go_simp; try with_reducible rfl
          try simp only [Act.put, List.setIfInBounds_toArray, List.set_cons_zero, List.set_cons_succ, Array.replicate]
          refine wpAnyH_take (i := 19) (v := ?_) (by simp only [List.getElem?_toArray, List.getElem?_cons_zero, List.getElem?_cons_succ] <;> rfl) (by kernel_rfl) (by kernel_rfl) (by kernel_rfl) (by intro _ _ _ h; exact h) (Or.inl ⟨by rfl, ?_⟩) (by assumption) ?_
          rotate_left
          · intro w _; go_simp; try with_reducible rfl
          try simp only [Act.put, List.setIfInBounds_toArray, List.set_cons_zero, List.set_cons_succ, Array.replicate]
          refine wpAnyH_take (i := 21) (v := ?_) (by simp only [List.getElem?_toArray, List.getElem?_cons_zero, List.getElem?_cons_succ] <;> rfl) (by kernel_rfl) (by kernel_rfl) (by kernel_rfl) (by intro _ _ _ h; exact h) (Or.inl ⟨by rfl, ?_⟩) (by assumption) ?_
          rotate_left
          · intro w _; go_simp; try with_reducible rfl
          try simp only [Act.put, List.setIfInBounds_toArray, List.set_cons_zero, List.set_cons_succ, Array.replicate]
          refine wpAnyH_take (i := 24) (v := ?_) (by simp only [List.getElem?_toArray, List.getElem?_cons_zero, List.getElem?_cons_succ] <;> rfl) (by kernel_rfl) (by kernel_rfl) (by kernel_rfl) (by intro _ _ _ h; exact h) (Or.inl ⟨by rfl, ?_⟩) (by assumption) ?_
          rotate_left
          · intro w _; go_simp; try with_reducible rfl
          try simp only [Act.put, List.setIfInBounds_toArray, List.set_cons_zero, List.set_cons_succ, Array.replicate]
          refine wpAnyH_take (i := 25) (v := ?_) (by simp only [List.getElem?_toArray, List.getElem?_cons_zero, List.getElem?_cons_succ] <;> rfl) (by kernel_rfl) (by kernel_rfl) (by kernel_rfl) (by intro _ _ _ h; exact h) (Or.inl ⟨by rfl, ?_⟩) (by assumption) ?_
          rotate_left
          · intro w _; go_simp; try with_reducible rfl
          try simp only [Act.put, List.setIfInBounds_toArray, List.set_cons_zero, List.set_cons_succ, Array.replicate]
          refine wpAnyH_ready (rs := [6]) (by kernel_rfl) (by simp) ?_
          refine AllReadyH.cons (by simp only [List.getElem?_toArray, List.getElem?_cons_zero, List.getElem?_cons_succ] <;> rfl) (fun K hK => ?_) ?_
          · go_simp; go_at_call 68; refine (turned_lit x1 7 7 _ rfl (by decide) (by decide) rfl _).mono ?_; rintro e w1 ⟨rfl, rfl⟩; try go_simp
            refine hK.out _ _ (by exact hHeld) (fun hHeld => ?_)
            clear hK K
            try simp only [Act.put, List.setIfInBounds_toArray, List.set_cons_zero, List.set_cons_succ, Array.replicate]
            refine wpAnyH_ready (rs := [8]) (by kernel_rfl) (by simp) ?_
            refine AllReadyH.cons (by simp only [List.getElem?_toArray, List.getElem?_cons_zero, List.getElem?_cons_succ] <;> rfl) (fun K hK => ?_) ?_
            · go_simp; go_at_call 68; refine (turned_lit x1 18 18 _ rfl (by decide) (by decide) rfl _).mono ?_; rintro e w1 ⟨rfl, rfl⟩; try go_simp
              refine hK.out _ _ (by exact hHeld) (fun hHeld => ?_)
              clear hK K
              try simp only [Act.put, List.setIfInBounds_toArray, List.set_cons_zero, List.set_cons_succ, Array.replicate]
              refine wpAnyH_take (i := 9) (v := ?_) (by simp only [List.getElem?_toArray, List.getElem?_cons_zero, List.getElem?_cons_succ] <;> rfl) (by kernel_rfl) (by kernel_rfl) (by kernel_rfl) (by intro _ _ _ h; exact h) (Or.inl ⟨by rfl, ?_⟩) (by assumption) ?_
              rotate_left
              · intro w _; go_simp; try with_reducible rfl
              try simp only [Act.put, List.setIfInBounds_toArray, List.set_cons_zero, List.set_cons_succ, Array.replicate]
              refine wpAnyH_take (i := 12) (v := ?_) (by simp only [List.getElem?_toArray, List.getElem?_cons_zero, List.getElem?_cons_succ] <;> rfl) (by kernel_rfl) (by kernel_rfl) (by kernel_rfl) (by intro _ _ _ h; exact h) (Or.inl ⟨by rfl, ?_⟩) (by assumption) ?_
              rotate_left
              · intro w _; go_simp; try with_reducible rfl
              try simp only [Act.put, List.setIfInBounds_toArray, List.set_cons_zero, List.set_cons_succ, Array.replicate]
              refine wpAnyH_take (i := 13) (v := ?_) (by simp only [List.getElem?_toArray, List.getElem?_cons_zero, List.getElem?_cons_succ] <;> rfl) (by kernel_rfl) (by kernel_rfl) (by kernel_rfl) (by intro _ _ _ h; exact h) (Or.inl ⟨by rfl, ?_⟩) (by assumption) ?_
              rotate_left
              · intro w _; go_simp; try with_reducible rfl
              try simp only [Act.put, List.setIfInBounds_toArray, List.set_cons_zero, List.set_cons_succ, Array.replicate]
              refine wpAnyH_take (i := 18) (v := ?_) (by simp only [List.getElem?_toArray, List.getElem?_cons_zero, List.getElem?_cons_succ] <;> rfl) (by kernel_rfl) (by kernel_rfl) (by kernel_rfl) (by intro _ _ _ h; exact h) (Or.inl ⟨by rfl, ?_⟩) (by assumption) ?_
              rotate_left
              · intro w _; go_simp; try with_reducible rfl
              try simp only [Act.put, List.setIfInBounds_toArray, List.set_cons_zero, List.set_cons_succ, Array.replicate]
              refine wpAnyH_ready (rs := [20]) (by kernel_rfl) (by simp) ?_
              refine AllReadyH.cons (by simp only [List.getElem?_toArray, List.getElem?_cons_zero, List.getElem?_cons_succ] <;> rfl) (fun K hK => ?_) ?_
              · go_simp; go_at_call 68; refine (turned_lit x2 17 17 _ rfl (by decide) (by decide) rfl _).mono ?_; rintro e w1 ⟨rfl, rfl⟩; try go_simp
                refine hK.out _ _ (by exact hHeld) (fun hHeld => ?_)
                clear hK K
                try simp only [Act.put, List.setIfInBounds_toArray, List.set_cons_zero, List.set_cons_succ, Array.replicate]
                refine wpAnyH_ready (rs := [22]) (by kernel_rfl) (by simp) ?_
                refine AllReadyH.cons (by simp only [List.getElem?_toArray, List.getElem?_cons_zero, List.getElem?_cons_succ] <;> rfl) (fun K hK => ?_) ?_
                · go_simp; go_at_call 68; refine (turned_lit x2 19 19 _ rfl (by decide) (by decide) rfl _).mono ?_; rintro e w1 ⟨rfl, rfl⟩; try go_simp
                  refine hK.out _ _ (by exact hHeld) (fun hHeld => ?_)
                  clear hK K
                  try simp only [Act.put, List.setIfInBounds_toArray, List.set_cons_zero, List.set_cons_succ, Array.replicate]
                  refine wpAnyH_take (i := 23) (v := ?_) (by simp only [List.getElem?_toArray, List.getElem?_cons_zero, List.getElem?_cons_succ] <;> rfl) (by kernel_rfl) (by kernel_rfl) (by kernel_rfl) (by intro _ _ _ h; exact h) (Or.inl ⟨by rfl, ?_⟩) (by assumption) ?_
                  rotate_left
                  · intro w _; go_simp; try with_reducible rfl
                  try simp only [Act.put, List.setIfInBounds_toArray, List.set_cons_zero, List.set_cons_succ, Array.replicate]
                  refine wpAnyH_take (i := 26) (v := ?_) (by simp only [List.getElem?_toArray, List.getElem?_cons_zero, List.getElem?_cons_succ] <;> rfl) (by kernel_rfl) (by kernel_rfl) (by kernel_rfl) (by intro _ _ _ h; exact h) (Or.inl ⟨by rfl, ?_⟩) (by assumption) ?_
                  rotate_left
                  · intro w _; go_simp; try with_reducible rfl
                  try simp only [Act.put, List.setIfInBounds_toArray, List.set_cons_zero, List.set_cons_succ, Array.replicate]
                  refine wpAnyH_take (i := 27) (v := ?_) (by simp only [List.getElem?_toArray, List.getElem?_cons_zero, List.getElem?_cons_succ] <;> rfl) (by kernel_rfl) (by kernel_rfl) (by kernel_rfl) (by intro _ _ _ h; exact h) (Or.inl ⟨by rfl, ?_⟩) (by assumption) ?_
                  rotate_left
                  · intro w _; go_simp; try with_reducible rfl
                  try simp only [Act.put, List.setIfInBounds_toArray, List.set_cons_zero, List.set_cons_succ, Array.replicate]
                  refine wpAnyH_take (i := 28) (v := ?_) (by simp only [List.getElem?_toArray, List.getElem?_cons_zero, List.getElem?_cons_succ] <;> rfl) (by kernel_rfl) (by kernel_rfl) (by kernel_rfl) (by intro _ _ _ h; exact h) (Or.inl ⟨by rfl, ?_⟩) (by assumption) ?_
                  rotate_left
                  · intro w _; go_simp; try with_reducible rfl
                  try simp only [Act.put, List.setIfInBounds_toArray, List.set_cons_zero, List.set_cons_succ, Array.replicate]
                  refine wpAnyH_ready (rs := [29]) (by kernel_rfl) (by simp) ?_
                  refine AllReadyH.cons (by simp only [List.getElem?_toArray, List.getElem?_cons_zero, List.getElem?_cons_succ] <;> rfl) (fun K hK => ?_) ?_
                  · go_simp
                    refine hK.out _ _ (by exact ⟨(World.cell?_setCell_other _ _ _ _ (by simp)).trans hHeld.1, (World.cell?_setCell_other _ _ _ _ (by simp)).trans hHeld.2⟩) (fun hHeld => ?_)
                    clear hK K
                    try simp only [Act.put, List.setIfInBounds_toArray, List.set_cons_zero, List.set_cons_succ, Array.replicate]
                    refine wpAnyH_done (by kernel_rfl) ?_ _
                    go_wp2_with fail
                    exact ⟨⟨j + 1, by omega, by go_num, by rw [HNX.out, ← HST.out, HN.out]; exact (R0.out.set (16 + j) _).drew.drew, (HB.out.setCell (p := ⟨_, 16 + j, none⟩) (Nat.le_refl _) _).drew.drew⟩, by simp [intOf]; omega⟩
                  exact AllReadyH.nil
                exact AllReadyH.nil
              exact AllReadyH.nil
            exact AllReadyH.nil
          exact AllReadyH.nil
        · have hj48 : j = 48 := by omega
          have R1 : Hid (Arr wr w.heap.size 106 .u32 (wTo (Sha.sched bs))) := by unfold Sha.sched; rw [← hj48]; exact R0
          have hnI : ¬ (16 : Int) + (j : Int) < 64 := by omega
          clear R0 hj48
          have R2 := Lib.hid (HR.out.keep HB.out)
          have q0 := Row.cell R2.out 0
          have q1 := Row.cell R2.out 1
          have q2 := Row.cell R2.out 2
          have q3 := Row.cell R2.out 3
          have q4 := Row.cell R2.out 4
          have q5 := Row.cell R2.out 5
          have q6 := Row.cell R2.out 6
          have q7 := Row.cell R2.out 7
          simp only [hashC_eq, List.getElem?_cons_succ, List.getElem?_cons_zero] at q0 q1 q2 q3 q4 q5 q6 q7
          go_upto_region 12 with fail
          clear q0 q1 q2 q3 q4 q5 q6 q7
          obtain ⟨W3, hW3, S3, B3, Z3⟩ := preS s wr
          rw [hW3]
          have R3 := Lib.hid (Row.keep R2.out B3.out)
          have A3 := Lib.hid (Row.keep R1.out B3.out)
          have HB3 := Lib.hid (HB.out.trans (B3.out.mono HB.out.size))
          have HG3 := Lib.hid (Glob.below HG.out HB3.out (HG.out.1))
          have hpw : p < w.heap.size := HR.out.lt
          have hws : w.heap.size < wr.heap.size := R1.out.lt
          have Z4 := Lib.hid Z3.out
          clear hW3 R2 R1 B3 Z3 HG HB
          generalize wr.heap.size = sb at *
          clear hj hlt hnI
          go_wp2_with (with_reducible refine load_roots rfl rfl HG3.out ?_)
          have G0 : Hid (Below w.heap.size w W3) := HB3
          go_loopw [103] (fun i wr => ∃ j : Nat, j ≤ 64 ∧ i = .int .i64 j ∧ Row wr sb 91 (stC (s.steps (Sha.sched bs) j)) ∧ Below sb W3 wr) (fun i _ => 64 - (intOf i).toNat)
          case atStart => exact ⟨0, by omega, rfl, S3.out, Below.refl _ _⟩
          case round =>
            clear S3
            obtain ⟨j, hj, rfl, r0, hu⟩ := hrel
            have S4 := Lib.hid r0
            have HU := Lib.hid hu
            clear r0 hu
            by_cases hlt : j < 64
            · have hltI : (j : Int) < 64 := by omega
              have hstep : s.steps (Sha.sched bs) (j + 1) = (s.steps (Sha.sched bs) j).step (Sha.roots.getD j 0) ((Sha.sched bs).getD j 0) := rfl
              have HSTEP := Lib.hid hstep
              clear hstep
              have A4 : Hid (Arr wr w.heap.size 106 .u32 (wTo (Sha.sched bs))) := Row.below A3.out HU.out (by omega)
              have hwj := A4.out.cell j (by rw [wTo_length _ (by rw [Sha.sched_length]; omega)]; omega)
              rw [wTo_get _ _ (by rw [Sha.sched_length]; omega)] at hwj
              generalize (Sha.sched bs).getD j 0 = x at *
              generalize s.steps (Sha.sched bs) j = v at *
              have hidx := index_roots j hlt
              generalize Sha.roots.getD j 0 = kk at *
              have q0 := Row.cell S4.out 0
              have q1 := Row.cell S4.out 1
              have q2 := Row.cell S4.out 2
              have q4 := Row.cell S4.out 4
              have q5 := Row.cell S4.out 5
              have q6 := Row.cell S4.out 6
              have q7 := Row.cell S4.out 7
              simp only [stC_eq, List.getElem?_cons_succ, List.getElem?_cons_zero] at q0 q1 q2 q4 q5 q6 q7
              have k1 : IntKind.i64.wrap (j : Int) = (j : Int) := IntWalk.i64_in _ ⟨by omega, by omega⟩
              go_upto_region 15 with fail
              clear hidx
              go_region
              go_upto_region 16 with fail
              have hxor := u_xor
              have hand := u_and
              have hadd := u_add
              have haddw := u_addw
              have hnot := u_not2
              refine wp_region_held_drew (S := fun w' => w'.cell? ⟨sb, 7, none⟩ = some (.int .u32 (u v.h)) ∧ w'.cell? ⟨sb, 5, none⟩ = some (.int .u32 (u v.f)) ∧ w'.cell? ⟨sb, 6, none⟩ = some (.int .u32 (u v.g)) ∧ w'.cell? ⟨w.heap.size, j, none⟩ = some (.int .u32 (u x))) (by kernel_rfl) (by exact ⟨q7, q5, q6, hwj⟩) (fun hHeld => ?_)
              refine wpAnyH_take (i := 0) (v := ?_) (by simp only [List.getElem?_toArray, List.getElem?_cons_zero, List.getElem?_cons_succ] <;> rfl) (by kernel_rfl) (by kernel_rfl) (by kernel_rfl) (by intro _ _ _ h; exact h) (Or.inl ⟨by rfl, ?_⟩) (by assumption) ?_
              rotate_left
              · intro w _; go_simp; try with_reducible rfl
              try simp only [Act.put, List.setIfInBounds_toArray, List.set_cons_zero, List.set_cons_succ, Array.replicate]
              refine wpAnyH_take (i := 1) (v := ?_) (by simp only [List.getElem?_toArray, List.getElem?_cons_zero, List.getElem?_cons_succ] <;> rfl) (by kernel_rfl) (by kernel_rfl) (by kernel_rfl) (by intro _ _ _ h; exact h) (Or.inl ⟨by rfl, ?_⟩) (by assumption) ?_
              rotate_left
              · intro w hSS; obtain ⟨e7, e5, e6, ex⟩ := hSS; go_simp; try with_reducible rfl
              try simp only [Act.put, List.setIfInBounds_toArray, List.set_cons_zero, List.set_cons_succ, Array.replicate]
              refine wpAnyH_take (i := 2) (v := ?_) (by simp only [List.getElem?_toArray, List.getElem?_cons_zero, List.getElem?_cons_succ] <;> rfl) (by kernel_rfl) (by kernel_rfl) (by kernel_rfl) (by intro _ _ _ h; exact h) (Or.inl ⟨by rfl, ?_⟩) (by assumption) ?_
              rotate_left
              · intro w _; go_simp; try with_reducible rfl
              try simp only [Act.put, List.setIfInBounds_toArray, List.set_cons_zero, List.set_cons_succ, Array.replicate]
              refine wpAnyH_take (i := 4) (v := ?_) (by simp only [List.getElem?_toArray, List.getElem?_cons_zero, List.getElem?_cons_succ] <;> rfl) (by kernel_rfl) (by kernel_rfl) (by kernel_rfl) (by intro _ _ _ h; exact h) (Or.inl ⟨by rfl, ?_⟩) (by assumption) ?_
              rotate_left
              · intro w _; go_simp; try with_reducible rfl
              try simp only [Act.put, List.setIfInBounds_toArray, List.set_cons_zero, List.set_cons_succ, Array.replicate]
              refine wpAnyH_take (i := 7) (v := ?_) (by simp only [List.getElem?_toArray, List.getElem?_cons_zero, List.getElem?_cons_succ] <;> rfl) (by kernel_rfl) (by kernel_rfl) (by kernel_rfl) (by intro _ _ _ h; exact h) (Or.inl ⟨by rfl, ?_⟩) (by assumption) ?_
              rotate_left
              · intro w _; go_simp; try with_reducible rfl
              try simp only [Act.put, List.setIfInBounds_toArray, List.set_cons_zero, List.set_cons_succ, Array.replicate]
              refine wpAnyH_take (i := 11) (v := ?_) (by simp only [List.getElem?_toArray, List.getElem?_cons_zero, List.getElem?_cons_succ] <;> rfl) (by kernel_rfl) (by kernel_rfl) (by kernel_rfl) (by intro _ _ _ h; exact h) (Or.inl ⟨by rfl, ?_⟩) (by assumption) ?_
              rotate_left
              · intro w _; go_simp; try with_reducible rfl
              try simp only [Act.put, List.setIfInBounds_toArray, List.set_cons_zero, List.set_cons_succ, Array.replicate]
              refine wpAnyH_take (i := 12) (v := ?_) (by simp only [List.getElem?_toArray, List.getElem?_cons_zero, List.getElem?_cons_succ] <;> rfl) (by kernel_rfl) (by kernel_rfl) (by kernel_rfl) (by intro _ _ _ h; exact h) (Or.inl ⟨by rfl, ?_⟩) (by assumption) ?_
              rotate_left
              · intro w _; go_simp; try with_reducible rfl
              try simp only [Act.put, List.setIfInBounds_toArray, List.set_cons_zero, List.set_cons_succ, Array.replicate]
              refine wpAnyH_take (i := 13) (v := ?_) (by simp only [List.getElem?_toArray, List.getElem?_cons_zero, List.getElem?_cons_succ] <;> rfl) (by kernel_rfl) (by kernel_rfl) (by kernel_rfl) (by intro _ _ _ h; exact h) (Or.inl ⟨by rfl, ?_⟩) (by assumption) ?_
              rotate_left
              · intro w hSS; obtain ⟨e7, e5, e6, ex⟩ := hSS; go_simp; try with_reducible rfl
              try simp only [Act.put, List.setIfInBounds_toArray, List.set_cons_zero, List.set_cons_succ, Array.replicate]
              refine wpAnyH_take (i := 14) (v := ?_) (by simp only [List.getElem?_toArray, List.getElem?_cons_zero, List.getElem?_cons_succ] <;> rfl) (by kernel_rfl) (by kernel_rfl) (by kernel_rfl) (by intro _ _ _ h; exact h) (Or.inl ⟨by rfl, ?_⟩) (by assumption) ?_
              rotate_left
              · intro w _; go_simp; try with_reducible rfl
              try simp only [Act.put, List.setIfInBounds_toArray, List.set_cons_zero, List.set_cons_succ, Array.replicate]
              refine wpAnyH_take (i := 15) (v := ?_) (by simp only [List.getElem?_toArray, List.getElem?_cons_zero, List.getElem?_cons_succ] <;> rfl) (by kernel_rfl) (by kernel_rfl) (by kernel_rfl) (by intro _ _ _ h; exact h) (Or.inl ⟨by rfl, ?_⟩) (by assumption) ?_
              rotate_left
              · intro w _; go_simp; try with_reducible rfl
              try simp only [Act.put, List.setIfInBounds_toArray, List.set_cons_zero, List.set_cons_succ, Array.replicate]
              refine wpAnyH_take (i := 16) (v := ?_) (by simp only [List.getElem?_toArray, List.getElem?_cons_zero, List.getElem?_cons_succ] <;> rfl) (by kernel_rfl) (by kernel_rfl) (by kernel_rfl) (by intro _ _ _ h; exact h) (Or.inl ⟨by rfl, ?_⟩) (by assumption) ?_
              rotate_left
              · intro w _; go_simp; try with_reducible rfl
              try simp only [Act.put, List.setIfInBounds_toArray, List.set_cons_zero, List.set_cons_succ, Array.replicate]
              refine wpAnyH_take (i := 17) (v := ?_) (by simp only [List.getElem?_toArray, List.getElem?_cons_zero, List.getElem?_cons_succ] <;> rfl) (by kernel_rfl) (by kernel_rfl) (by kernel_rfl) (by intro _ _ _ h; exact h) (Or.inl ⟨by rfl, ?_⟩) (by assumption) ?_
              rotate_left
              · intro w _; go_simp; try with_reducible rfl
              try simp only [Act.put, List.setIfInBounds_toArray, List.set_cons_zero, List.set_cons_succ, Array.replicate]
              refine wpAnyH_take (i := 18) (v := ?_) (by simp only [List.getElem?_toArray, List.getElem?_cons_zero, List.getElem?_cons_succ] <;> rfl) (by kernel_rfl) (by kernel_rfl) (by kernel_rfl) (by intro _ _ _ h; exact h) (Or.inl ⟨by rfl, ?_⟩) (by assumption) ?_
              rotate_left
              · intro w hSS; obtain ⟨e7, e5, e6, ex⟩ := hSS; go_simp; try with_reducible rfl
              try simp only [Act.put, List.setIfInBounds_toArray, List.set_cons_zero, List.set_cons_succ, Array.replicate]
              refine wpAnyH_take (i := 19) (v := ?_) (by simp only [List.getElem?_toArray, List.getElem?_cons_zero, List.getElem?_cons_succ] <;> rfl) (by kernel_rfl) (by kernel_rfl) (by kernel_rfl) (by intro _ _ _ h; exact h) (Or.inl ⟨by rfl, ?_⟩) (by assumption) ?_
              rotate_left
              · intro w _; go_simp; try with_reducible rfl
              try simp only [Act.put, List.setIfInBounds_toArray, List.set_cons_zero, List.set_cons_succ, Array.replicate]
              refine wpAnyH_take (i := 20) (v := ?_) (by simp only [List.getElem?_toArray, List.getElem?_cons_zero, List.getElem?_cons_succ] <;> rfl) (by kernel_rfl) (by kernel_rfl) (by kernel_rfl) (by intro _ _ _ h; exact h) (Or.inl ⟨by rfl, ?_⟩) (by assumption) ?_
              rotate_left
              · intro w _; go_simp; try with_reducible rfl
              try simp only [Act.put, List.setIfInBounds_toArray, List.set_cons_zero, List.set_cons_succ, Array.replicate]
              refine wpAnyH_take (i := 22) (v := ?_) (by simp only [List.getElem?_toArray, List.getElem?_cons_zero, List.getElem?_cons_succ] <;> rfl) (by kernel_rfl) (by kernel_rfl) (by kernel_rfl) (by intro _ _ _ h; exact h) (Or.inl ⟨by rfl, ?_⟩) (by assumption) ?_
              rotate_left
              · intro w _; go_simp; try with_reducible rfl
              try simp only [Act.put, List.setIfInBounds_toArray, List.set_cons_zero, List.set_cons_succ, Array.replicate]
              refine wpAnyH_take (i := 24) (v := ?_) (by simp only [List.getElem?_toArray, List.getElem?_cons_zero, List.getElem?_cons_succ] <;> rfl) (by kernel_rfl) (by kernel_rfl) (by kernel_rfl) (by intro _ _ _ h; exact h) (Or.inl ⟨by rfl, ?_⟩) (by assumption) ?_
              rotate_left
              · intro w _; go_simp; try with_reducible rfl
              try simp only [Act.put, List.setIfInBounds_toArray, List.set_cons_zero, List.set_cons_succ, Array.replicate]
              refine wpAnyH_take (i := 25) (v := ?_) (by simp only [List.getElem?_toArray, List.getElem?_cons_zero, List.getElem?_cons_succ] <;> rfl) (by kernel_rfl) (by kernel_rfl) (by kernel_rfl) (by intro _ _ _ h; exact h) (Or.inl ⟨by rfl, ?_⟩) (by assumption) ?_
              rotate_left
              · intro w _; go_simp; try with_reducible rfl
              try simp only [Act.put, List.setIfInBounds_toArray, List.set_cons_zero, List.set_cons_succ, Array.replicate]
              refine wpAnyH_take (i := 26) (v := ?_) (by simp only [List.getElem?_toArray, List.getElem?_cons_zero, List.getElem?_cons_succ] <;> rfl) (by kernel_rfl) (by kernel_rfl) (by kernel_rfl) (by intro _ _ _ h; exact h) (Or.inl ⟨by rfl, ?_⟩) (by assumption) ?_
              rotate_left
              · intro w hSS; obtain ⟨e7, e5, e6, ex⟩ := hSS; go_simp; try with_reducible rfl
              try simp only [Act.put, List.setIfInBounds_toArray, List.set_cons_zero, List.set_cons_succ, Array.replicate]
              refine wpAnyH_ready (rs := [3]) (by kernel_rfl) (by simp) ?_
              refine AllReadyH.cons (by simp only [List.getElem?_toArray, List.getElem?_cons_zero, List.getElem?_cons_succ] <;> rfl) (fun K hK => ?_) ?_
              · go_simp; go_at_call 68; refine (turned_lit v.e 6 6 _ rfl (by decide) (by decide) rfl _).mono ?_; rintro e w1 ⟨rfl, rfl⟩; try go_simp
                refine hK.out _ _ (by exact hHeld) (fun hHeld => ?_)
                clear hK K
                try simp only [Act.put, List.setIfInBounds_toArray, List.set_cons_zero, List.set_cons_succ, Array.replicate]
                refine wpAnyH_ready (rs := [5]) (by kernel_rfl) (by simp) ?_
                refine AllReadyH.cons (by simp only [List.getElem?_toArray, List.getElem?_cons_zero, List.getElem?_cons_succ] <;> rfl) (fun K hK => ?_) ?_
                · go_simp; go_at_call 68; refine (turned_lit v.e 11 11 _ rfl (by decide) (by decide) rfl _).mono ?_; rintro e w1 ⟨rfl, rfl⟩; try go_simp
                  refine hK.out _ _ (by exact hHeld) (fun hHeld => ?_)
                  clear hK K
                  try simp only [Act.put, List.setIfInBounds_toArray, List.set_cons_zero, List.set_cons_succ, Array.replicate]
                  refine wpAnyH_take (i := 6) (v := ?_) (by simp only [List.getElem?_toArray, List.getElem?_cons_zero, List.getElem?_cons_succ] <;> rfl) (by kernel_rfl) (by kernel_rfl) (by kernel_rfl) (by intro _ _ _ h; exact h) (Or.inl ⟨by rfl, ?_⟩) (by assumption) ?_
                  rotate_left
                  · intro w _; go_simp; try with_reducible rfl
                  try simp only [Act.put, List.setIfInBounds_toArray, List.set_cons_zero, List.set_cons_succ, Array.replicate]
                  refine wpAnyH_ready (rs := [8]) (by kernel_rfl) (by simp) ?_
                  refine AllReadyH.cons (by simp only [List.getElem?_toArray, List.getElem?_cons_zero, List.getElem?_cons_succ] <;> rfl) (fun K hK => ?_) ?_
                  · go_simp; go_at_call 68; refine (turned_lit v.e 25 25 _ rfl (by decide) (by decide) rfl _).mono ?_; rintro e w1 ⟨rfl, rfl⟩; try go_simp
                    refine hK.out _ _ (by exact hHeld) (fun hHeld => ?_)
                    clear hK K
                    try simp only [Act.put, List.setIfInBounds_toArray, List.set_cons_zero, List.set_cons_succ, Array.replicate]
                    refine wpAnyH_take (i := 9) (v := ?_) (by simp only [List.getElem?_toArray, List.getElem?_cons_zero, List.getElem?_cons_succ] <;> rfl) (by kernel_rfl) (by kernel_rfl) (by kernel_rfl) (by intro _ _ _ h; exact h) (Or.inl ⟨by rfl, ?_⟩) (by assumption) ?_
                    rotate_left
                    · intro w _; go_simp; try with_reducible rfl
                    try simp only [Act.put, List.setIfInBounds_toArray, List.set_cons_zero, List.set_cons_succ, Array.replicate]
                    refine wpAnyH_take (i := 10) (v := ?_) (by simp only [List.getElem?_toArray, List.getElem?_cons_zero, List.getElem?_cons_succ] <;> rfl) (by kernel_rfl) (by kernel_rfl) (by kernel_rfl) (by intro _ _ _ h; exact h) (Or.inl ⟨by rfl, ?_⟩) (by assumption) ?_
                    rotate_left
                    · intro w _; go_simp; try with_reducible rfl
                    try simp only [Act.put, List.setIfInBounds_toArray, List.set_cons_zero, List.set_cons_succ, Array.replicate]
                    refine wpAnyH_take (i := 21) (v := ?_) (by simp only [List.getElem?_toArray, List.getElem?_cons_zero, List.getElem?_cons_succ] <;> rfl) (by kernel_rfl) (by kernel_rfl) (by kernel_rfl) (by intro _ _ _ h; exact h) (Or.inl ⟨by rfl, ?_⟩) (by assumption) ?_
                    rotate_left
                    · intro w _; go_simp; try with_reducible rfl
                    try simp only [Act.put, List.setIfInBounds_toArray, List.set_cons_zero, List.set_cons_succ, Array.replicate]
                    refine wpAnyH_take (i := 23) (v := ?_) (by simp only [List.getElem?_toArray, List.getElem?_cons_zero, List.getElem?_cons_succ] <;> rfl) (by kernel_rfl) (by kernel_rfl) (by kernel_rfl) (by intro _ _ _ h; exact h) (Or.inl ⟨by rfl, ?_⟩) (by assumption) ?_
                    rotate_left
                    · intro w _; go_simp; try with_reducible rfl
                    try simp only [Act.put, List.setIfInBounds_toArray, List.set_cons_zero, List.set_cons_succ, Array.replicate]
                    refine wpAnyH_take (i := 27) (v := ?_) (by simp only [List.getElem?_toArray, List.getElem?_cons_zero, List.getElem?_cons_succ] <;> rfl) (by kernel_rfl) (by kernel_rfl) (by kernel_rfl) (by intro _ _ _ h; exact h) (Or.inl ⟨by rfl, ?_⟩) (by assumption) ?_
                    rotate_left
                    · intro w _; go_simp; try with_reducible rfl
                    try simp only [Act.put, List.setIfInBounds_toArray, List.set_cons_zero, List.set_cons_succ, Array.replicate]
                    refine wpAnyH_take (i := 28) (v := ?_) (by simp only [List.getElem?_toArray, List.getElem?_cons_zero, List.getElem?_cons_succ] <;> rfl) (by kernel_rfl) (by kernel_rfl) (by kernel_rfl) (by intro _ _ _ h; exact h) (Or.inl ⟨by rfl, ?_⟩) (by assumption) ?_
                    rotate_left
                    · intro w _; go_simp; try with_reducible rfl
                    try simp only [Act.put, List.setIfInBounds_toArray, List.set_cons_zero, List.set_cons_succ, Array.replicate]
                    refine wpAnyH_done (by kernel_rfl) ?_ _
                    go_upto_region 17 with fail
                    refine wp_region_held_drew (S := fun w' => w'.cell? ⟨sb, 1, none⟩ = some (.int .u32 (u v.b)) ∧ w'.cell? ⟨sb, 2, none⟩ = some (.int .u32 (u v.c))) (by kernel_rfl) (by exact ⟨q1, q2⟩) (fun hHeld => ?_)
                    refine wpAnyH_take (i := 0) (v := ?_) (by simp only [List.getElem?_toArray, List.getElem?_cons_zero, List.getElem?_cons_succ] <;> rfl) (by kernel_rfl) (by kernel_rfl) (by kernel_rfl) (by intro _ _ _ h; exact h) (Or.inl ⟨by rfl, ?_⟩) (by assumption) ?_
                    rotate_left
                    · intro w _; go_simp; try with_reducible rfl
                    try simp only [Act.put, List.setIfInBounds_toArray, List.set_cons_zero, List.set_cons_succ, Array.replicate]
                    refine wpAnyH_take (i := 2) (v := ?_) (by simp only [List.getElem?_toArray, List.getElem?_cons_zero, List.getElem?_cons_succ] <;> rfl) (by kernel_rfl) (by kernel_rfl) (by kernel_rfl) (by intro _ _ _ h; exact h) (Or.inl ⟨by rfl, ?_⟩) (by assumption) ?_
                    rotate_left
                    · intro w _; go_simp; try with_reducible rfl
                    try simp only [Act.put, List.setIfInBounds_toArray, List.set_cons_zero, List.set_cons_succ, Array.replicate]
                    refine wpAnyH_take (i := 5) (v := ?_) (by simp only [List.getElem?_toArray, List.getElem?_cons_zero, List.getElem?_cons_succ] <;> rfl) (by kernel_rfl) (by kernel_rfl) (by kernel_rfl) (by intro _ _ _ h; exact h) (Or.inl ⟨by rfl, ?_⟩) (by assumption) ?_
                    rotate_left
                    · intro w _; go_simp; try with_reducible rfl
                    try simp only [Act.put, List.setIfInBounds_toArray, List.set_cons_zero, List.set_cons_succ, Array.replicate]
                    refine wpAnyH_take (i := 8) (v := ?_) (by simp only [List.getElem?_toArray, List.getElem?_cons_zero, List.getElem?_cons_succ] <;> rfl) (by kernel_rfl) (by kernel_rfl) (by kernel_rfl) (by intro _ _ _ h; exact h) (Or.inl ⟨by rfl, ?_⟩) (by assumption) ?_
                    rotate_left
                    · intro w _; go_simp; try with_reducible rfl
                    try simp only [Act.put, List.setIfInBounds_toArray, List.set_cons_zero, List.set_cons_succ, Array.replicate]
                    refine wpAnyH_take (i := 9) (v := ?_) (by simp only [List.getElem?_toArray, List.getElem?_cons_zero, List.getElem?_cons_succ] <;> rfl) (by kernel_rfl) (by kernel_rfl) (by kernel_rfl) (by intro _ _ _ h; exact h) (Or.inl ⟨by rfl, ?_⟩) (by assumption) ?_
                    rotate_left
                    · intro w _; go_simp; try with_reducible rfl
                    try simp only [Act.put, List.setIfInBounds_toArray, List.set_cons_zero, List.set_cons_succ, Array.replicate]
                    refine wpAnyH_take (i := 10) (v := ?_) (by simp only [List.getElem?_toArray, List.getElem?_cons_zero, List.getElem?_cons_succ] <;> rfl) (by kernel_rfl) (by kernel_rfl) (by kernel_rfl) (by intro _ _ _ h; exact h) (Or.inl ⟨by rfl, ?_⟩) (by assumption) ?_
                    rotate_left
                    · intro w hSS; obtain ⟨e1, e2⟩ := hSS; go_simp; try with_reducible rfl
                    try simp only [Act.put, List.setIfInBounds_toArray, List.set_cons_zero, List.set_cons_succ, Array.replicate]
                    refine wpAnyH_take (i := 11) (v := ?_) (by simp only [List.getElem?_toArray, List.getElem?_cons_zero, List.getElem?_cons_succ] <;> rfl) (by kernel_rfl) (by kernel_rfl) (by kernel_rfl) (by intro _ _ _ h; exact h) (Or.inl ⟨by rfl, ?_⟩) (by assumption) ?_
                    rotate_left
                    · intro w _; go_simp; try with_reducible rfl
                    try simp only [Act.put, List.setIfInBounds_toArray, List.set_cons_zero, List.set_cons_succ, Array.replicate]
                    refine wpAnyH_take (i := 12) (v := ?_) (by simp only [List.getElem?_toArray, List.getElem?_cons_zero, List.getElem?_cons_succ] <;> rfl) (by kernel_rfl) (by kernel_rfl) (by kernel_rfl) (by intro _ _ _ h; exact h) (Or.inl ⟨by rfl, ?_⟩) (by assumption) ?_
                    rotate_left
                    · intro w _; go_simp; try with_reducible rfl
                    try simp only [Act.put, List.setIfInBounds_toArray, List.set_cons_zero, List.set_cons_succ, Array.replicate]
                    refine wpAnyH_take (i := 13) (v := ?_) (by simp only [List.getElem?_toArray, List.getElem?_cons_zero, List.getElem?_cons_succ] <;> rfl) (by kernel_rfl) (by kernel_rfl) (by kernel_rfl) (by intro _ _ _ h; exact h) (Or.inl ⟨by rfl, ?_⟩) (by assumption) ?_
                    rotate_left
                    · intro w _; go_simp; try with_reducible rfl
                    try simp only [Act.put, List.setIfInBounds_toArray, List.set_cons_zero, List.set_cons_succ, Array.replicate]
                    refine wpAnyH_take (i := 14) (v := ?_) (by simp only [List.getElem?_toArray, List.getElem?_cons_zero, List.getElem?_cons_succ] <;> rfl) (by kernel_rfl) (by kernel_rfl) (by kernel_rfl) (by intro _ _ _ h; exact h) (Or.inl ⟨by rfl, ?_⟩) (by assumption) ?_
                    rotate_left
                    · intro w hSS; obtain ⟨e1, e2⟩ := hSS; go_simp; try with_reducible rfl
                    try simp only [Act.put, List.setIfInBounds_toArray, List.set_cons_zero, List.set_cons_succ, Array.replicate]
                    refine wpAnyH_take (i := 15) (v := ?_) (by simp only [List.getElem?_toArray, List.getElem?_cons_zero, List.getElem?_cons_succ] <;> rfl) (by kernel_rfl) (by kernel_rfl) (by kernel_rfl) (by intro _ _ _ h; exact h) (Or.inl ⟨by rfl, ?_⟩) (by assumption) ?_
                    rotate_left
                    · intro w _; go_simp; try with_reducible rfl
                    try simp only [Act.put, List.setIfInBounds_toArray, List.set_cons_zero, List.set_cons_succ, Array.replicate]
                    refine wpAnyH_take (i := 16) (v := ?_) (by simp only [List.getElem?_toArray, List.getElem?_cons_zero, List.getElem?_cons_succ] <;> rfl) (by kernel_rfl) (by kernel_rfl) (by kernel_rfl) (by intro _ _ _ h; exact h) (Or.inl ⟨by rfl, ?_⟩) (by assumption) ?_
                    rotate_left
                    · intro w _; go_simp; try with_reducible rfl
                    try simp only [Act.put, List.setIfInBounds_toArray, List.set_cons_zero, List.set_cons_succ, Array.replicate]
                    refine wpAnyH_take (i := 17) (v := ?_) (by simp only [List.getElem?_toArray, List.getElem?_cons_zero, List.getElem?_cons_succ] <;> rfl) (by kernel_rfl) (by kernel_rfl) (by kernel_rfl) (by intro _ _ _ h; exact h) (Or.inl ⟨by rfl, ?_⟩) (by assumption) ?_
                    rotate_left
                    · intro w _; go_simp; try with_reducible rfl
                    try simp only [Act.put, List.setIfInBounds_toArray, List.set_cons_zero, List.set_cons_succ, Array.replicate]
                    refine wpAnyH_take (i := 18) (v := ?_) (by simp only [List.getElem?_toArray, List.getElem?_cons_zero, List.getElem?_cons_succ] <;> rfl) (by kernel_rfl) (by kernel_rfl) (by kernel_rfl) (by intro _ _ _ h; exact h) (Or.inl ⟨by rfl, ?_⟩) (by assumption) ?_
                    rotate_left
                    · intro w hSS; obtain ⟨e1, e2⟩ := hSS; go_simp; try with_reducible rfl
                    try simp only [Act.put, List.setIfInBounds_toArray, List.set_cons_zero, List.set_cons_succ, Array.replicate]
                    refine wpAnyH_take (i := 19) (v := ?_) (by simp only [List.getElem?_toArray, List.getElem?_cons_zero, List.getElem?_cons_succ] <;> rfl) (by kernel_rfl) (by kernel_rfl) (by kernel_rfl) (by intro _ _ _ h; exact h) (Or.inl ⟨by rfl, ?_⟩) (by assumption) ?_
                    rotate_left
                    · intro w _; go_simp; try with_reducible rfl
                    try simp only [Act.put, List.setIfInBounds_toArray, List.set_cons_zero, List.set_cons_succ, Array.replicate]
                    refine wpAnyH_take (i := 20) (v := ?_) (by simp only [List.getElem?_toArray, List.getElem?_cons_zero, List.getElem?_cons_succ] <;> rfl) (by kernel_rfl) (by kernel_rfl) (by kernel_rfl) (by intro _ _ _ h; exact h) (Or.inl ⟨by rfl, ?_⟩) (by assumption) ?_
                    rotate_left
                    · intro w hSS; obtain ⟨e1, e2⟩ := hSS; go_simp; try with_reducible rfl
                    try simp only [Act.put, List.setIfInBounds_toArray, List.set_cons_zero, List.set_cons_succ, Array.replicate]
                    refine wpAnyH_take (i := 21) (v := ?_) (by simp only [List.getElem?_toArray, List.getElem?_cons_zero, List.getElem?_cons_succ] <;> rfl) (by kernel_rfl) (by kernel_rfl) (by kernel_rfl) (by intro _ _ _ h; exact h) (Or.inl ⟨by rfl, ?_⟩) (by assumption) ?_
                    rotate_left
                    · intro w _; go_simp; try with_reducible rfl
                    try simp only [Act.put, List.setIfInBounds_toArray, List.set_cons_zero, List.set_cons_succ, Array.replicate]
                    refine wpAnyH_take (i := 22) (v := ?_) (by simp only [List.getElem?_toArray, List.getElem?_cons_zero, List.getElem?_cons_succ] <;> rfl) (by kernel_rfl) (by kernel_rfl) (by kernel_rfl) (by intro _ _ _ h; exact h) (Or.inl ⟨by rfl, ?_⟩) (by assumption) ?_
                    rotate_left
                    · intro w _; go_simp; try with_reducible rfl
                    try simp only [Act.put, List.setIfInBounds_toArray, List.set_cons_zero, List.set_cons_succ, Array.replicate]
                    refine wpAnyH_ready (rs := [1]) (by kernel_rfl) (by simp) ?_
                    refine AllReadyH.cons (by simp only [List.getElem?_toArray, List.getElem?_cons_zero, List.getElem?_cons_succ] <;> rfl) (fun K hK => ?_) ?_
                    · go_simp; go_at_call 68; refine (turned_lit v.a 2 2 _ rfl (by decide) (by decide) rfl _).mono ?_; rintro e w1 ⟨rfl, rfl⟩; try go_simp
                      refine hK.out _ _ (by exact hHeld) (fun hHeld => ?_)
                      clear hK K
                      try simp only [Act.put, List.setIfInBounds_toArray, List.set_cons_zero, List.set_cons_succ, Array.replicate]
                      refine wpAnyH_ready (rs := [3]) (by kernel_rfl) (by simp) ?_
                      refine AllReadyH.cons (by simp only [List.getElem?_toArray, List.getElem?_cons_zero, List.getElem?_cons_succ] <;> rfl) (fun K hK => ?_) ?_
                      · go_simp; go_at_call 68; refine (turned_lit v.a 13 13 _ rfl (by decide) (by decide) rfl _).mono ?_; rintro e w1 ⟨rfl, rfl⟩; try go_simp
                        refine hK.out _ _ (by exact hHeld) (fun hHeld => ?_)
                        clear hK K
                        try simp only [Act.put, List.setIfInBounds_toArray, List.set_cons_zero, List.set_cons_succ, Array.replicate]
                        refine wpAnyH_take (i := 4) (v := ?_) (by simp only [List.getElem?_toArray, List.getElem?_cons_zero, List.getElem?_cons_succ] <;> rfl) (by kernel_rfl) (by kernel_rfl) (by kernel_rfl) (by intro _ _ _ h; exact h) (Or.inl ⟨by rfl, ?_⟩) (by assumption) ?_
                        rotate_left
                        · intro w _; go_simp; try with_reducible rfl
                        try simp only [Act.put, List.setIfInBounds_toArray, List.set_cons_zero, List.set_cons_succ, Array.replicate]
                        refine wpAnyH_ready (rs := [6]) (by kernel_rfl) (by simp) ?_
                        refine AllReadyH.cons (by simp only [List.getElem?_toArray, List.getElem?_cons_zero, List.getElem?_cons_succ] <;> rfl) (fun K hK => ?_) ?_
                        · go_simp; go_at_call 68; refine (turned_lit v.a 22 22 _ rfl (by decide) (by decide) rfl _).mono ?_; rintro e w1 ⟨rfl, rfl⟩; try go_simp
                          refine hK.out _ _ (by exact hHeld) (fun hHeld => ?_)
                          clear hK K
                          try simp only [Act.put, List.setIfInBounds_toArray, List.set_cons_zero, List.set_cons_succ, Array.replicate]
                          refine wpAnyH_take (i := 7) (v := ?_) (by simp only [List.getElem?_toArray, List.getElem?_cons_zero, List.getElem?_cons_succ] <;> rfl) (by kernel_rfl) (by kernel_rfl) (by kernel_rfl) (by intro _ _ _ h; exact h) (Or.inl ⟨by rfl, ?_⟩) (by assumption) ?_
                          rotate_left
                          · intro w _; go_simp; try with_reducible rfl
                          try simp only [Act.put, List.setIfInBounds_toArray, List.set_cons_zero, List.set_cons_succ, Array.replicate]
                          refine wpAnyH_take (i := 23) (v := ?_) (by simp only [List.getElem?_toArray, List.getElem?_cons_zero, List.getElem?_cons_succ] <;> rfl) (by kernel_rfl) (by kernel_rfl) (by kernel_rfl) (by intro _ _ _ h; exact h) (Or.inl ⟨by rfl, ?_⟩) (by assumption) ?_
                          rotate_left
                          · intro w _; go_simp; try with_reducible rfl
                          try simp only [Act.put, List.setIfInBounds_toArray, List.set_cons_zero, List.set_cons_succ, Array.replicate]
                          refine wpAnyH_take (i := 24) (v := ?_) (by simp only [List.getElem?_toArray, List.getElem?_cons_zero, List.getElem?_cons_succ] <;> rfl) (by kernel_rfl) (by kernel_rfl) (by kernel_rfl) (by intro _ _ _ h; exact h) (Or.inl ⟨by rfl, ?_⟩) (by assumption) ?_
                          rotate_left
                          · intro w _; go_simp; try with_reducible rfl
                          try simp only [Act.put, List.setIfInBounds_toArray, List.set_cons_zero, List.set_cons_succ, Array.replicate]
                          refine wpAnyH_done (by kernel_rfl) ?_ _
                          go_upto_region 18 with fail
                          have SD := Lib.hid ((S4.out.drew).drew).drew
                          have hsrc : ∀ i q, ((stC v).take 7)[i]? = some q → wr.drew.drew.drew.drew.cell? ((⟨sb, 0, none⟩ : Addr).add i) = some q := fun i q hq => by
                            rw [Addr.add_lit, Nat.zero_add]
                            have h7 : i < 7 := by have := (List.getElem?_eq_some_iff.1 hq).1; simp [stC_eq] at this; omega
                            rw [List.getElem?_take, if_pos h7] at hq
                            exact (S4.out.cell i).trans hq
                          refine wp_region_any (by kernel_rfl) ?_
                          try (change wpAny _ _ _ _ _ _ _ (World.drew _))
                          refine wpAny_take (i := 0) (v := ?_) (by simp only [List.getElem?_toArray, List.getElem?_cons_zero, List.getElem?_cons_succ] <;> rfl) (by kernel_rfl) (by kernel_rfl) (by kernel_rfl) (by intro _ _ _ h; exact h) (Or.inl ⟨by rfl, ?_⟩) ?_
                          rotate_left
                          · intro w; go_simp; try with_reducible rfl
                          try simp only [Act.put, List.setIfInBounds_toArray, List.set_cons_zero, List.set_cons_succ, Array.replicate]
                          refine wpAny_take (i := 1) (v := ?_) (by simp only [List.getElem?_toArray, List.getElem?_cons_zero, List.getElem?_cons_succ] <;> rfl) (by kernel_rfl) (by kernel_rfl) (by kernel_rfl) (by intro _ _ _ h; exact h) (Or.inl ⟨by rfl, ?_⟩) ?_
                          rotate_left
                          · intro w; go_simp; try with_reducible rfl
                          try simp only [Act.put, List.setIfInBounds_toArray, List.set_cons_zero, List.set_cons_succ, Array.replicate]
                          refine wpAny_ready (rs := [2]) (by kernel_rfl) (by simp) ?_
                          refine AllReady.cons (by simp only [List.getElem?_toArray, List.getElem?_cons_zero, List.getElem?_cons_succ] <;> rfl) (fun K hK => ?_) ?_
                          · refine step_copy_splice rfl (.tmp 163) (.tmp 164) 108 108 rfl 90 Tryz.underlying108 size_u32 _ _ 7 7 7 8 rfl rfl sb 1 (stC v) 91 SD.out ((stC v).take 7) rfl (fun _ => ⟨rfl, _, rfl, hsrc⟩) (by simp [stC_eq]) (fun q hq => nums_one _ _ q (List.mem_of_mem_take hq)) sb _ (Below.refl _ _) (Nat.le_refl _) ?_; intro w5 HC5 HB5
                            refine hK _ _ ?_
                            clear hK K
                            try simp only [Act.put, List.setIfInBounds_toArray, List.set_cons_zero, List.set_cons_succ, Array.replicate]
                            refine wpAny_done (by kernel_rfl) ?_ _
                            have R6 : Row w5 sb 91 [.int .u32 (u v.a), .int .u32 (u v.a), .int .u32 (u v.b), .int .u32 (u v.c), .int .u32 (u v.d), .int .u32 (u v.e), .int .u32 (u v.f), .int .u32 (u v.g)] := HC5.out
                            have h4 := Row.cell R6 4
                            have f4 := Row.frozen R6 4
                            have h0 := Row.cell R6 0
                            have f0 := Row.frozen R6 0
                            simp only [List.getElem?_cons_succ, List.getElem?_cons_zero] at h4 h0
                            have HB6 := Lib.hid (HU.out.trans ((((Below.refl sb wr).drew).drew).drew.drew.trans HB5))
                            have HR6 := Lib.hid R6
                            clear R6 HC5 HB5 S4 HU A4 q0 q1 q2 q4 q5 q6 q7 hsrc SD hwj
                            go_wp2_with fail
                            exact ⟨⟨j + 1, by omega, by go_num, by rw [HSTEP.out]; exact (HR6.out.set 4 _).set 0 _, (HB6.out.setCell (p := ⟨sb, 4, none⟩) (Nat.le_refl _) _).setCell (p := ⟨sb, 0, none⟩) (Nat.le_refl _) _⟩, by simp [intOf]; omega⟩
                          exact AllReady.nil
                        exact AllReadyH.nil
                      exact AllReadyH.nil
                    exact AllReadyH.nil
                  exact AllReadyH.nil
                exact AllReadyH.nil
              exact AllReadyH.nil
            · have hj64 : j = 64 := by omega
              have hnI : ¬ (j : Int) < 64 := by omega
              have S5 : Hid (Row wr sb 91 (stC (s.steps (Sha.sched bs) 64))) := by rw [← hj64]; exact S4
              have R5 : Hid (Row wr p 93 (hashL (mixL s (s.steps (Sha.sched bs) 64) 0) left n)) := Row.below R3.out HU.out (by omega)
              clear S4 hj64 R3
              have HT : Hid (s.plus (s.steps (Sha.sched bs) 64) = s.take bs) := rfl
              generalize s.steps (Sha.sched bs) 64 = t at *
              go_wp2_with (with_reducible refine load_st rfl (.tmp 9) rfl _ rfl t S5.out ?_)
              have HBB : Hid (Below w.heap.size w wr) := Lib.hid (HB3.out.trans (Below.mono HU.out (by omega)))
              have HUP : Hid (Upd p w wr) := Lib.hid (Upd.of_below HBB.out)
              clear S5 HU
              obtain ⟨B0, hB0⟩ : ∃ B0, Below w.heap.size w wr := ⟨0, HBB.out⟩
              go_loopw [177] (fun i w' => ∃ j : Nat, j ≤ 8 ∧ i = .int .i64 j ∧ Row w' p 93 (hashL (mixL s t j) left n) ∧ Upd p wr w') (fun i _ => 8 - (intOf i).toNat)
              case atStart => exact ⟨0, by omega, rfl, R5.out, Upd.refl _ _⟩
              case round =>
                clear R5
                obtain ⟨j, hj, rfl, r0, hu⟩ := hrel
                have R6 := Lib.hid r0
                have HU := Lib.hid hu
                clear r0 hu
                by_cases hlt : j < 8
                · have hltI : (j : Int) < 8 := by omega
                  have hidx := index_st t j hlt
                  have hc := Row.cell R6.out j
                  have hfz := Row.frozen R6.out j
                  rw [hashL_get _ _ _ _ (by rw [mixL_length _ _ _ hj]; omega), mixL_get _ _ _ hlt] at hc
                  have hset := hashL_set (mixL s t j) left n j (s.list.getD j 0 + t.list.getD j 0) (by rw [mixL_length _ _ _ hj]; omega)
                  rw [mixL_set _ _ _ hlt] at hset
                  have HSET := Lib.hid hset
                  clear hset
                  generalize s.list.getD j 0 = x at *
                  generalize t.list.getD j 0 = y at *
                  go_upto_region 25 with fail
                  clear hidx
                  have hadd := u_add
                  go_region
                  go_wp2_with fail

                  exact ⟨⟨j + 1, by omega, by go_num, by rw [← HSET.out]; exact (R6.out.set j _).drew, (HU.out.trans (Upd.set p j _ _)).trans (Upd.of_below (Below.refl _ _).drew)⟩, by simp [intOf]; omega⟩
                · have hj8 : j = 8 := by omega
                  have hnI : ¬ (j : Int) < 8 := by omega
                  have R7 : Hid (Row wr p 93 (hashC (s.take bs) left n)) := by rw [← HT.out]; show Row _ _ _ (hashL (s.plus t).list left n); rw [← mixL_all s t, ← hj8]; exact R6.out
                  go_wp2_with fail
                  go_end0
                  exact ⟨rfl, R7.out, HUP.out.trans HU.out⟩
end Go.Proofs.YticabllkadpmeaaGreatDoor
