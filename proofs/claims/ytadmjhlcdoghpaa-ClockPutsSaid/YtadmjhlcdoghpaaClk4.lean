/- Clocks: Put. -/
import Derived.Test.YtadmjhlcdoghpaaClk3
import Derived.Test.YtadmjhlcdoghpaaPfxP
namespace Go.Proofs.Ytadmjhlcdoghpaa
set_option linter.unusedVariables false
set_option linter.unusedSimpArgs false
set_option linter.unnecessarySimpa false
open Go.RowKit
set_option maxRecDepth 100000
set_option maxHeartbeats 2000000

theorem Own.kept {w w' : World} {N e : Nat} {x : Value} {m : List UInt8} {row : Option Nat} (h : Own w N e x m) (hg : w.grownBy w' row) (hr : ∀ k, row = some k → k < N) : Own w' N e x m := by
  refine World.ownsRow.kept h hg ?_
  cases hx : x.ownBlock with
  | none => exact .inl rfl
  | some k =>
    refine .inr fun he => ?_
    have h1 := h.row k hx
    have h2 := hr k he.symm
    omega
theorem Own.lt {w : World} {N e : Nat} {x : Value} {m : List UInt8} (h : Own w N e x m) : ∀ k, x.ownBlock = some k → k < w.heap.size := fun k hk => (World.ownsRow.lt h k hk).2
section
variable {P : Program}
/-- 'app_bytes', and which block alone it touches. -/
theorem app_bytes_row {t e : TypeId} (ht : P.underlying t = some (.slice e)) (he : (P.info? e).map (fun i => (i.zero, i.size, i.bytes)) = some (some (.int .u8 0), 1, 1))
    {w : World} {ops : Array Oper} {rest : List Oper} {o : Oper} {a : Act} {Q : Exit → Act → World → Prop} (hgd : o.guard = none) (s x : Operand)
    (ho : o.op = .call { callee := .builtin .append, args := #[s, x], argTypes := #[t, t] })
    {base : Nat} {v sv : Value} {l m : List UInt8} (hs : a.eval s = v) (hown : Own w base e v l) (hx : a.eval x = sv) (hsh : Sh w sv m)
    (hlen : l.length + m.length ≤ 140737488355328) (hbase : base ≤ w.heap.size)
    (h : ∀ v' w', Own w' base e v' (l ++ m) → Below base w w' → w.grownBy w' v.ownBlock → wpList P ops Q rest (a.put o.dst v') w') : wpList P ops Q (o :: rest) a w := by
  obtain ⟨i, hi, hz0, hz1, hz2⟩ := info_parts he
  refine wpList_append_shows hgd s x t ho base e i (.int .u8 0) 1 1 ht hi hz0 hz1 hz2 rfl (by decide) v _ _ hs hown sv _ _ hx hsh (bytes_one _) (by simp only [maxLen]; omega) (by omega) hbase ?_
  intro v' w' h1 h2
  refine h v' w' ?_ ((Below.refl _ _).grown h2 hbase hown.row) h2
  unfold Own
  rw [bytes_append, List.length_append]; exact h1
end
/-- The bytes of the numbers that are not nought. -/
def encs (L : List Int) : List UInt8 := L.flatMap fun n => if n = 0 then [] else enc n.toNat
/-- The first j bits. -/
def bitsTo (A : List Int) : Nat → Int
  | 0 => 0
  | j + 1 => if A.getD j 0 = 0 then bitsTo A j else bits .or .u8 (bitsTo A j) (2 ^ j % 256)
theorem encs_length (L : List Int) (h : ∀ n ∈ L, n < 4611686018427387904) : (encs L).length ≤ 8 * L.length := by
  induction L with
  | nil => simp [encs]
  | cons a L ih =>
    have h1 := ih fun n hn => h n (List.mem_cons_of_mem _ hn)
    have h2 := h a (List.mem_cons_self ..)
    have h3 : encs (a :: L) = (if a = 0 then [] else enc a.toNat) ++ encs L := by simp [encs]
    rw [h3, List.length_append, List.length_cons]
    split
    · rw [List.length_nil]; omega
    · have := enc_length a.toNat (by omega)
      have := nsize_le a.toNat
      omega
theorem encs_take (A : List Int) (j : Nat) (hj : j < A.length) : encs (A.take (j + 1)) = encs (A.take j) ++ (if A.getD j 0 = 0 then [] else enc (A.getD j 0).toNat) := by
  rw [List.take_add_one, List.getElem?_eq_getElem hj]
  unfold encs
  rw [List.flatMap_append]
  simp [List.getD, List.getElem?_eq_getElem hj]
/-- The eight bits, of what is nought. -/
def f8 (b0 b1 b2 b3 b4 b5 b6 b7 : Bool) : Int :=
  let s0 : Int := if b0 = true then 0 else bits .or .u8 0 (2 ^ 0 % 256)
  let s1 := if b1 = true then s0 else bits .or .u8 s0 (2 ^ 1 % 256)
  let s2 := if b2 = true then s1 else bits .or .u8 s1 (2 ^ 2 % 256)
  let s3 := if b3 = true then s2 else bits .or .u8 s2 (2 ^ 3 % 256)
  let s4 := if b4 = true then s3 else bits .or .u8 s3 (2 ^ 4 % 256)
  let s5 := if b5 = true then s4 else bits .or .u8 s4 (2 ^ 5 % 256)
  let s6 := if b6 = true then s5 else bits .or .u8 s5 (2 ^ 6 % 256)
  if b7 = true then s6 else bits .or .u8 s6 (2 ^ 7 % 256)
def g8 (b0 b1 b2 b3 b4 b5 b6 b7 : Bool) : Int :=
  let o (b : Bool) : Int := if b = true then 0 else 1
  ((((((((0 * 2 + o b7) * 2 + o b6) * 2 + o b5) * 2 + o b4) * 2 + o b3) * 2 + o b2) * 2 + o b1) * 2 + o b0)
theorem f8_eq : ∀ b0 b1 b2 b3 b4 b5 b6 b7 : Bool, f8 b0 b1 b2 b3 b4 b5 b6 b7 = g8 b0 b1 b2 b3 b4 b5 b6 b7 := by decide +kernel
theorem g8_in : ∀ b0 b1 b2 b3 b4 b5 b6 b7 : Bool, 0 ≤ g8 b0 b1 b2 b3 b4 b5 b6 b7 ∧ g8 b0 b1 b2 b3 b4 b5 b6 b7 < 256 := by decide +kernel
def gA (A : List Int) : Int := g8 (decide (A.getD 0 0 = 0)) (decide (A.getD 1 0 = 0)) (decide (A.getD 2 0 = 0)) (decide (A.getD 3 0 = 0)) (decide (A.getD 4 0 = 0)) (decide (A.getD 5 0 = 0)) (decide (A.getD 6 0 = 0)) (decide (A.getD 7 0 = 0))
theorem bitsTo_eq (A : List Int) : bitsTo A 8 = gA A := by
  unfold gA
  rw [← f8_eq]
  simp only [bitsTo, f8, decide_eq_true_eq]
theorem gA_in (A : List Int) : 0 ≤ gA A ∧ gA A < 256 := g8_in _ _ _ _ _ _ _ _

def putC (A : List Int) : List UInt8 := ofI (gA A) :: encs A
theorem putC_any (v : Value) (l : List UInt8) (A : List Int) (hA : A.length = 8) (h0 : ∀ j, j < 8 → 0 ≤ A.getD j 0 ∧ A.getD j 0 < 4611686018427387904) (w : World) (h : Sh w v l) (hl : l.length + 200 ≤ 140737488355328) :
    Calls Try.prog 17 #[v, clockV A] w fun e w' => ∃ v', e = .returned (.tuple #[v', .int .i64 0]) ∧ Own w' w.heap.size 5 v' (l ++ putC A) ∧ Below w.heap.size w w' := by
  have HA := Lib.hid hA
  have H0 := Lib.hid h0
  have H := Lib.hid h
  clear hA h0 h
  unfold clockV
  go_enter Try.func17, Try.ntmps17
  go_upto_region 1 with fail
  obtain ⟨W, hW, R0, Hb, -⟩ := pre1 A w
  rw [hW]
  clear hW
  simp only [clockV_eq]
  have hsz := Hb.out.size
  go_wp2_with (first
    | (go_at_call 20; refine (clone_any v l W (H.out.below Hb.out) (by omega)).mono ?_; rintro e w1 ⟨v1, rfl, ho1, hb1⟩; have r1 : Arr w1 w.heap.size 24 .u64 A := Row.keep R0.out hb1; have s1 := hb1.size; have hvb := Lib.hid ho1.lt)
    | (with_reducible refine load_clock rfl (.tmp 3) rfl _ rfl A HA.out r1 ?_))
  have O1 := Lib.hid (ho1.mono hsz)
  have B1 := Lib.hid (bthen Hb.out hb1 (Nat.le_refl _))
  clear ho1 hb1 r1
  go_loopw [6, 7, 15] (fun bi nu i wr => ∃ j : Nat, j ≤ 8 ∧ i = .int .i64 j ∧ bi = .int .u8 (bitsTo A j) ∧ Own wr w1.heap.size 5 nu (encs (A.take j)) ∧ w1.heap.size ≤ wr.heap.size ∧ Own wr w.heap.size 5 v1 l ∧ Below w.heap.size w wr) (fun _ _ i _ => 8 - (intOf i).toNat)
  case atStart => exact ⟨0, by omega, rfl, rfl, Own.nil _ _ _, Nat.le_refl _, O1.out, B1.out⟩
  case round =>
    clear O1 B1
    obtain ⟨j, hj, rfl, rfl, hnu, hw1, ho, hb⟩ := hrel
    have HN := Lib.hid hnu
    have HO := Lib.hid ho
    have HB := Lib.hid hb
    clear hnu ho hb
    by_cases hlt : j < 8
    · have hi := index_clock A HA.out j hlt
      have hx := H0.out j hlt
      have hel : (encs (A.take j)).length ≤ 8 * 8 := by
        refine Nat.le_trans (encs_length _ ?_) (by simp [HA.out]; omega)
        intro n hn
        have := List.mem_of_mem_take hn
        obtain ⟨k, hk, rfl⟩ := List.mem_iff_getElem.1 this
        have := H0.out k (by rw [← HA.out]; exact hk)
        simpa [List.getD, List.getElem?_eq_getElem hk] using this.2
      have het := encs_take A j (by rw [HA.out]; exact hlt)
      have hbt : bitsTo A (j + 1) = if A.getD j 0 = 0 then bitsTo A j else bits .or .u8 (bitsTo A j) (2 ^ j % 256) := rfl
      have HE := Lib.hid hel
      have HT := Lib.hid het
      have HBT := Lib.hid hbt
      clear hel het hbt
      generalize A.getD j 0 = x at *
      by_cases hz : x = 0
      · subst hz
        go_wp2_with fail
        refine ⟨⟨j + 1, by omega, by go_num, by rw [HBT.out]; simp, by rw [HT.out]; simpa using HN.out, hw1, HO.out, HB.out⟩, by simp [intOf]; omega⟩
      · go_wp2_with (go_at_call 21; refine (Put_any _ _ x _ HN.out.sh (by have := HE.out; omega) hx.1 hx.2).mono ?_; rintro e w2 ⟨v2, rfl, ho2, hb2⟩)
        refine ⟨⟨j + 1, by omega, by go_num, by rw [HBT.out, if_neg hz], by rw [HT.out, if_neg hz]; exact ho2.mono hw1, Nat.le_trans hw1 hb2.size, HO.out.below hb2, bthen HB.out hb2 (Nat.le_refl _)⟩, by simp [intOf]; omega⟩
    · obtain rfl : j = 8 := by omega
      have hbi := gA_in A
      have hel : (encs A).length ≤ 8 * 8 := by
        refine Nat.le_trans (encs_length _ ?_) (by simp [HA.out])
        intro n hn
        obtain ⟨k, hk, rfl⟩ := List.mem_iff_getElem.1 hn
        have := H0.out k (by rw [← HA.out]; exact hk)
        simpa [List.getD, List.getElem?_eq_getElem hk] using this.2
      rw [bitsTo_eq]
      have hN := HN.out
      rw [List.take_of_length_le (by rw [HA.out]; omega)] at hN
      have HN2 := Lib.hid hN
      have hs0 := HB.out.size
      clear hN HN
      have HPC := Lib.hid (show putC A = ofI (gA A) :: encs A from rfl)
      generalize gA A = G at *
      generalize encs A = E at *
      go_wp2_with (first
        | (at_builtin; refine app_bytes_row (base := w.heap.size) Try.underlying31 info_byte rfl (.tmp 37) (.tmp 39) rfl rfl (HO.out.alloc _) rfl (sh1 hbi) (by simp; omega) (by simp; omega) ?_; intro v3 w3 ho3 hb3 hg3; have H3 := Lib.hid ho3; have B3 := Lib.hid hb3; have N3 := Lib.hid (Own.kept (HN2.out.alloc _) hg3 hvb.out); have G3 := hb3.size; simp at G3; clear ho3 hb3 hg3)
        | (at_builtin; refine app_bytes (base := w.heap.size) Try.underlying31 info_byte rfl (.tmp 40) (.tmp 41) rfl rfl H3.out rfl N3.out.sh (by simp; omega) (by omega) ?_; intro v4 w4 ho4 hb4))
      go_ret2
      refine ⟨v4, rfl, ?_, HB.out.trans ((((Below.refl _ _).alloc hs0 _).trans B3.out).trans hb4)⟩
      rw [HPC.out]
      simpa using ho4
end Go.Proofs.Ytadmjhlcdoghpaa
