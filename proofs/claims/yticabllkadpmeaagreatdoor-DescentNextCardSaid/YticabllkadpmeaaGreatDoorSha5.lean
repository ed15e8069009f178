/- Package sha: Sum, Join. -/
import Derived.Test.YticabllkadpmeaaGreatDoorSha4
namespace Go.Proofs.YticabllkadpmeaaGreatDoor
set_option linter.unusedVariables false
set_option linter.unusedSimpArgs false
set_option linter.unnecessarySimpa false
open Go.RowKit
set_option maxRecDepth 100000
set_option maxHeartbeats 4000000

theorem Sums_any (v : Value) (l : List UInt8) (w : World) (hg : Glob w) (hs : Sh w v l) (hsz : l.length ≤ 140737488351232) :
    Calls Tryz.prog 44 #[v] w fun e w' => e = .returned (sumV (Sha.sum l)) ∧ Below w.heap.size w w' := by
  have HG := Lib.hid hg
  have HS := Lib.hid hs
  have h3 := hg.1
  clear hg hs
  go_enter Tryz.func44, Tryz.ntmps44
  go_upto_region 1 with fail
  obtain ⟨W1, hW1, HA, HB1, HZ1⟩ := pre32 w
  rw [hW1]
  clear hW1
  have G1 := Lib.hid (Glob.below HG.out HB1.out h3)
  have S1 := Lib.hid (HS.out.below HB1.out)
  have hww : w.heap.size ≤ W1.heap.size := HB1.out.size
  go_wp2_with (first
    | (go_at_call 27; refine (New_any _ G1.out).mono ?_; rintro e w2 ⟨rfl, hh2, hb2⟩; have G2 := Lib.hid (Glob.below G1.out hb2 (by omega)); have S2 := Lib.hid (S1.out.below hb2); have H2 := Lib.hid hh2; have B2 := Lib.hid hb2; clear hh2 hb2)
    | (go_at_call 30; refine (Write_any W1.heap.size v [] l _ G2.out (by omega) H2.out S2.out (by simp; omega)).mono ?_; rintro e w3 ⟨rfl, hh3, hb3⟩; rw [List.nil_append] at hh3; have G3 := Lib.hid (Glob.below G2.out hb3 (by omega)); have H3 := Lib.hid hh3; have B3 := Lib.hid hb3; clear hh3 hb3)
    | (go_at_call 31; refine (Sumh_any W1.heap.size l _ G3.out (by omega) H3.out hsz).mono ?_; rintro e w4 ⟨rfl, hb4⟩; have B4 := Lib.hid hb4; have A4 := Lib.hid (Row.below (Row.below (Row.below HA.out B2.out (by have := HA.out.lt; omega)) B3.out (by have := HA.out.lt; omega)) hb4 (by have := HA.out.lt; have := B2.out.size; have := B3.out.size; omega)))
    | (with_reducible refine store_sum rfl (.tmp 2) (.tmp 9) rfl w.heap.size rfl (Sha.sum l) rfl (Sha.sum_length _) _ Tre0 A4.out rfl ?_))
  refine ret_sum rfl rfl w.heap.size rfl 36 (Sha.sum l) (setRow_heap _ w.heap.size _ _ _ _ A4.out) (Sha.sum_length l) ?_
  refine ⟨rfl, below_setRow ?_ (Nat.le_refl _) _⟩
  exact HB1.out.trans ((B2.out.mono hww).trans ((B3.out.mono hww).trans (B4.out.mono (by have := B2.out.size; have := B3.out.size; omega))))
/-- Sums in memory. -/
def sumsC (L : List (List UInt8)) : List Value := L.flatMap bytes
def Sms (w : World) (v : Value) (L : List (List UInt8)) : Prop := Shows w 32 v L.length (sumsC L)
def L32 (L : List (List UInt8)) : Prop := ∀ x ∈ L, x.length = 32
theorem sumsC_length : ∀ {L : List (List UInt8)}, L32 L → (sumsC L).length = L.length * 32
  | [], _ => rfl
  | x :: r, h => by
    have h1 := h x (List.mem_cons_self ..)
    have h2 := sumsC_length (L := r) fun y hy => h y (List.mem_cons_of_mem _ hy)
    unfold sumsC at h2 ⊢
    rw [List.flatMap_cons, List.length_append, bytes_length, h1, h2, List.length_cons, Nat.succ_mul, Nat.add_comm]
theorem sumsC_get : ∀ {L : List (List UInt8)}, L32 L → ∀ {i j : Nat}, i < L.length → j < 32 → (sumsC L)[i * 32 + j]? = (bytes (L.getD i []))[j]?
  | [], _, i, j, hi, _ => by simp at hi
  | x :: r, h, i, j, hi, hj => by
    have h1 := h x (List.mem_cons_self ..)
    have e : sumsC (x :: r) = bytes x ++ sumsC r := by simp [sumsC]
    rw [e]
    cases i with
    | zero => rw [List.getElem?_append_left (by simp [h1]; omega)]; simp
    | succ i =>
      rw [List.getElem?_append_right (by simp [h1, Nat.succ_mul]; omega)]
      have := sumsC_get (L := r) (fun y hy => h y (List.mem_cons_of_mem _ hy)) (i := i) (j := j) (by simpa using hi) hj
      simpa [h1, Nat.succ_mul, show i * 32 + 32 + j - 32 = i * 32 + j by omega] using this
theorem Sms.below {w w' : World} {v : Value} {L : List (List UInt8)} (h : Sms w v L) (hb : Below w.heap.size w w') : Sms w' v L := Shows.below h hb
theorem Sms.at' {w w' : World} {v : Value} {L : List (List UInt8)} (h : Sms w v L) {B : Nat} (hb : Below B w w') (hB : w.heap.size ≤ B) : Sms w' v L := Shows.at' h hb hB
theorem Sms.open {w : World} {v : Value} {L : List (List UInt8)} (h : Sms w v L) : ∃ a cap, v = .slice a L.length cap ∧ L.length ≤ cap ∧ cap ≤ 9223372036854775807 ∧ (a = none → cap = 0) ∧ Sms w (.slice a L.length cap) L := by
  have h' := h
  obtain ⟨_, a, cap, rfl, h2, h3, h4, _⟩ := h
  exact ⟨a, cap, rfl, h2, by simpa [maxLen] using h3, h4, h'⟩
theorem Sms.at {w : World} {a : Option Addr} {n cap : Nat} {L : List (List UInt8)} (h : Sms w (.slice a n cap) L) (hl : 0 < L.length) (h32 : L32 L) :
    ∃ b off, a = some ⟨b, off, none⟩ ∧ ∀ i, i < L.length → w.rangeAt b (off + i * 32) (bytes (L.getD i [])) := by
  obtain ⟨hx, a', cap', hv, _, _, h4, h5⟩ := h
  simp only [Value.slice.injEq] at hv
  obtain ⟨rfl, rfl, rfl⟩ := hv
  cases a with
  | none => have := h4 rfl; omega
  | some x =>
    have hg : ∀ i, i < L.length → ∀ j u, (bytes (L.getD i []))[j]? = some u → w.cell? (x.add (i * 32 + j)) = some u := fun i hi j u hu => by
      refine h5 x rfl (i * 32 + j) u ?_
      have hm : L.getD i [] ∈ L := by simp [List.getD, List.getElem?_eq_getElem hi]
      have hj : j < 32 := by have := (List.getElem?_eq_some_iff.1 hu).1; rw [bytes_length, h32 _ hm] at this; exact this
      rw [sumsC_get h32 hi hj]; exact hu
    obtain ⟨b, off, spot⟩ := x
    have : spot = none := by
      have hm : L.getD 0 [] ∈ L := by simp [List.getD, List.getElem?_eq_getElem hl]
      have h0 : 0 < (bytes (L.getD 0 [])).length := by rw [bytes_length, h32 _ hm]; decide
      have := hg 0 hl 0 _ (List.getElem?_eq_getElem h0)
      simpa [Addr.add] using World.cell?_spot this
    subst this
    refine ⟨b, off, rfl, fun i hi j u hu => ?_⟩
    have := hg i hi j u hu
    rwa [Addr.add_lit, ← Nat.add_assoc] at this
theorem load_sum_mid {w : World} {ops : Array Oper} {rest : List Oper} {o : Oper} {a : Act} {Q : Exit → Act → World → Prop} (hgd : o.guard = none) (x : Operand) (ho : o.op = .load 36 x)
    (b off : Nat) (hx : a.eval x = .pointer (some ⟨b, off, none⟩)) (l : List UInt8) (hl : l.length = 32) (hr : w.rangeAt b off (bytes l))
    (h : wpList Tryz.prog ops Q rest (a.put o.dst (sumV l)) w) : wpList Tryz.prog ops Q (o :: rest) a w :=
  wpList_load_mid hgd 36 x ho b off hx (bytes l) _ hr Tryz.underlying36 rfl (by rw [size_sum]; simp [hl]) h
theorem rangeAt_below {w w' : World} {b off : Nat} {cs : List Value} (h : w.rangeAt b off cs) (hb : Below w.heap.size w w') : w'.rangeAt b off cs := fun j v hv => bkeep hb (h j v hv)
theorem Join_any (v : Value) (L : List (List UInt8)) (w : World) (hg : Glob w) (hs : Sms w v L) (h32 : L32 L) (hsz : L.length ≤ 1000000) :
    Calls Tryz.prog 34 #[v] w fun e w' => e = .returned (sumV (Sha.sum L.flatten)) ∧ Below w.heap.size w w' := by
  obtain ⟨xa, ca, rfl, hc1, hc2, -, -⟩ := hs.open
  have HG := Lib.hid hg
  have HS := Lib.hid hs
  have h3 := hg.1
  clear hg hs
  go_enter Tryz.func34, Tryz.ntmps34
  go_upto_region 1 with fail
  obtain ⟨W1, hW1, HA, HB1, HZ1⟩ := pre32 w
  rw [hW1]
  clear hW1
  have G1 := Lib.hid (Glob.below HG.out HB1.out h3)
  have S1 := Lib.hid (HS.out.below HB1.out)
  have hww : w.heap.size < W1.heap.size := HA.out.lt
  go_wp2_with (go_at_call 27; refine (New_any _ G1.out).mono ?_; rintro e w2 ⟨rfl, hh2, hb2⟩; have G2 := Lib.hid (Glob.below G1.out hb2 (by omega)); have S2 := Lib.hid (S1.out.below hb2); have H2 := Lib.hid hh2; have B2 := Lib.hid hb2; clear hh2 hb2)
  have hw2 := B2.out.size
  have A2 := Lib.hid (Row.below HA.out B2.out hww)
  have HBW := Lib.hid (HB1.out.trans (B2.out.mono (Nat.le_of_lt hww)))
  clear HA HB1 HZ1 G1 S1 S2 B2 HG
  generalize W1.heap.size = h0 at *
  go_loopw [9] (fun iv wr => ∃ j : Nat, j ≤ L.length ∧ iv = .int .i64 j ∧ HashIs wr h0 (L.take j).flatten ∧ Below h0 w2 wr) (fun iv _ => L.length - (intOf iv).toNat)
  case atStart => exact ⟨0, Nat.zero_le _, rfl, H2.out, Below.refl _ _⟩
  case round =>
    clear H2
    obtain ⟨j, hj, rfl, hh, hb⟩ := hrel
    have H2 := Lib.hid hh
    have B2 := Lib.hid hb
    clear hh hb
    have hfl : (L.take j).flatten.length = j * 32 := by
      have : ∀ M : List (List UInt8), L32 M → M.flatten.length = M.length * 32 := by
        intro M hM
        induction M with
        | nil => rfl
        | cons x r ih => rw [List.flatten_cons, List.length_append, hM x (List.mem_cons_self ..), ih fun y hy => hM y (List.mem_cons_of_mem _ hy), List.length_cons]; omega
      rw [this _ fun x hx => h32 x (List.mem_of_mem_take hx), List.length_take, Nat.min_eq_left hj]
    have HFL := Lib.hid hfl
    clear hfl
    by_cases hlt : j < L.length
    · have hltI : (j : Int) < (L.length : Int) := by omega
      obtain ⟨b, off, rfl, hat⟩ := HS.out.at (by omega) h32
      have hr0 := Lib.hid (rangeAt_below (hat j hlt) (HBW.out.trans (B2.out.mono (Nat.le_of_lt hww))))
      have hx32 : (L.getD j []).length = 32 := h32 _ (by simp [List.getD, List.getElem?_eq_getElem hlt])
      have hnx : (L.take (j + 1)).flatten = (L.take j).flatten ++ L.getD j [] := by
        rw [List.take_add_one, List.getElem?_eq_getElem hlt, List.flatten_append]
        simp [List.getD, List.getElem?_eq_getElem hlt]
      have HNX := Lib.hid hnx
      have HX := Lib.hid hx32
      generalize L.getD j [] = X at *
      clear hnx hx32 hat
      have hh0 := H2.out.lt
      have HZ0 : Hid (Row (wr.alloc (.cells #[.int .u8 0, .int .u8 0, .int .u8 0, .int .u8 0, .int .u8 0, .int .u8 0, .int .u8 0, .int .u8 0, .int .u8 0, .int .u8 0, .int .u8 0, .int .u8 0, .int .u8 0, .int .u8 0, .int .u8 0, .int .u8 0, .int .u8 0, .int .u8 0, .int .u8 0, .int .u8 0, .int .u8 0, .int .u8 0, .int .u8 0, .int .u8 0, .int .u8 0, .int .u8 0, .int .u8 0, .int .u8 0, .int .u8 0, .int .u8 0, .int .u8 0, .int .u8 0] 36)) wr.heap.size 36 (bytes Tre0)) := Row.new wr 36 (bytes Tre0)
      have W5 : HashIs ((wr.alloc (.cells #[.int .u8 0, .int .u8 0, .int .u8 0, .int .u8 0, .int .u8 0, .int .u8 0, .int .u8 0, .int .u8 0, .int .u8 0, .int .u8 0, .int .u8 0, .int .u8 0, .int .u8 0, .int .u8 0, .int .u8 0, .int .u8 0, .int .u8 0, .int .u8 0, .int .u8 0, .int .u8 0, .int .u8 0, .int .u8 0, .int .u8 0, .int .u8 0, .int .u8 0, .int .u8 0, .int .u8 0, .int .u8 0, .int .u8 0, .int .u8 0, .int .u8 0, .int .u8 0] 36)).setRow wr.heap.size (bytes X).toArray) h0 (L.take j).flatten ∧ Glob ((wr.alloc (.cells #[.int .u8 0, .int .u8 0, .int .u8 0, .int .u8 0, .int .u8 0, .int .u8 0, .int .u8 0, .int .u8 0, .int .u8 0, .int .u8 0, .int .u8 0, .int .u8 0, .int .u8 0, .int .u8 0, .int .u8 0, .int .u8 0, .int .u8 0, .int .u8 0, .int .u8 0, .int .u8 0, .int .u8 0, .int .u8 0, .int .u8 0, .int .u8 0, .int .u8 0, .int .u8 0, .int .u8 0, .int .u8 0, .int .u8 0, .int .u8 0, .int .u8 0, .int .u8 0] 36)).setRow wr.heap.size (bytes X).toArray) ∧ Sh ((wr.alloc (.cells #[.int .u8 0, .int .u8 0, .int .u8 0, .int .u8 0, .int .u8 0, .int .u8 0, .int .u8 0, .int .u8 0, .int .u8 0, .int .u8 0, .int .u8 0, .int .u8 0, .int .u8 0, .int .u8 0, .int .u8 0, .int .u8 0, .int .u8 0, .int .u8 0, .int .u8 0, .int .u8 0, .int .u8 0, .int .u8 0, .int .u8 0, .int .u8 0, .int .u8 0, .int .u8 0, .int .u8 0, .int .u8 0, .int .u8 0, .int .u8 0, .int .u8 0, .int .u8 0] 36)).setRow wr.heap.size (bytes X).toArray) (.slice (some ⟨wr.heap.size, 0, none⟩) 32 32) X := by
        have hb5 : Below wr.heap.size wr ((wr.alloc (.cells #[.int .u8 0, .int .u8 0, .int .u8 0, .int .u8 0, .int .u8 0, .int .u8 0, .int .u8 0, .int .u8 0, .int .u8 0, .int .u8 0, .int .u8 0, .int .u8 0, .int .u8 0, .int .u8 0, .int .u8 0, .int .u8 0, .int .u8 0, .int .u8 0, .int .u8 0, .int .u8 0, .int .u8 0, .int .u8 0, .int .u8 0, .int .u8 0, .int .u8 0, .int .u8 0, .int .u8 0, .int .u8 0, .int .u8 0, .int .u8 0, .int .u8 0, .int .u8 0] 36)).setRow wr.heap.size (bytes X).toArray) := below_setRow (balloc (Below.refl _ _) _) (Nat.le_refl _) _
        refine ⟨H2.out.below hb5 (Nat.le_refl _), Glob.below (Glob.below G2.out B2.out (by omega)) hb5 (by omega), ?_⟩
        have hr5 : Row ((wr.alloc (.cells #[.int .u8 0, .int .u8 0, .int .u8 0, .int .u8 0, .int .u8 0, .int .u8 0, .int .u8 0, .int .u8 0, .int .u8 0, .int .u8 0, .int .u8 0, .int .u8 0, .int .u8 0, .int .u8 0, .int .u8 0, .int .u8 0, .int .u8 0, .int .u8 0, .int .u8 0, .int .u8 0, .int .u8 0, .int .u8 0, .int .u8 0, .int .u8 0, .int .u8 0, .int .u8 0, .int .u8 0, .int .u8 0, .int .u8 0, .int .u8 0, .int .u8 0, .int .u8 0] 36)).setRow wr.heap.size (bytes X).toArray) wr.heap.size 36 (bytes X) := setRow_heap _ _ _ _ _ _ (Row.new wr 36 (bytes Tre0))
        refine ⟨by simp, _, 32, by rw [HX.out], by rw [HX.out]; exact Nat.le_refl _, by decide, fun e => by simp at e, fun x hx i q hq => ?_⟩
        simp only [Option.some.injEq] at hx
        subst hx
        rw [Addr.add_lit, Nat.zero_add, hr5.cell]; exact hq
      go_wp2_with (first
        | (with_reducible refine load_sum_mid rfl (.tmp 11) rfl b _ rfl X HX.out hr0.out ?_)
        | (with_reducible refine store_sum rfl (.tmp 5) (.tmp 12) rfl wr.heap.size rfl X rfl HX.out 36 Tre0 HZ0.out rfl ?_)
        | (go_at_call 30; refine (Write_any h0 _ (L.take j).flatten X _ W5.2.1 (by omega) W5.1 W5.2.2 (by have := HFL.out; have := HX.out; omega)).mono ?_; rintro e w6 ⟨rfl, hh6, hb6⟩))
      have hb5 : Below h0 wr w6 := (below_setRow ((Below.refl h0 wr).alloc (Nat.le_of_lt hh0) _) (Nat.le_of_lt hh0) _).trans hb6
      exact ⟨⟨j + 1, by omega, by go_num, by rw [HNX.out]; exact hh6, B2.out.trans hb5⟩, by simp [intOf]; omega⟩
    · have hjl : j = L.length := by omega
      have hnI : ¬ (j : Int) < (L.length : Int) := by omega
      have H3 : Hid (HashIs wr h0 L.flatten) := by have := H2.out; rw [hjl, List.take_length] at this; exact this
      have hlen : Hid (L.flatten.length ≤ 140737488351232) := by have := HFL.out; rw [hjl, List.take_length] at this; show _ ≤ _; omega
      have A3 := Lib.hid (Row.below A2.out B2.out (by omega))
      have G3 := Lib.hid (Glob.below G2.out B2.out (by omega))
      have hwr2 := B2.out.size
      clear hlt hjl hj
      go_wp2_with (first
        | (go_at_call 31; refine (Sumh_any h0 L.flatten _ G3.out (by omega) H3.out hlen.out).mono ?_; rintro e w4 ⟨rfl, hb4⟩; have B4 := Lib.hid hb4; have A4 := Lib.hid (Row.below A3.out hb4 (by omega)))
        | (with_reducible refine store_sum rfl (.tmp 2) (.tmp 18) rfl w.heap.size rfl (Sha.sum L.flatten) rfl (Sha.sum_length _) _ Tre0 A4.out rfl ?_))
      refine ret_sum rfl rfl w.heap.size rfl 36 (Sha.sum L.flatten) (setRow_heap _ w.heap.size _ _ _ _ A4.out) (Sha.sum_length _) ?_
      refine ⟨rfl, below_setRow ?_ (Nat.le_refl _) _⟩
      exact HBW.out.trans ((B2.out.mono (by omega)).trans (B4.out.mono (by omega)))
end Go.Proofs.YticabllkadpmeaaGreatDoor
