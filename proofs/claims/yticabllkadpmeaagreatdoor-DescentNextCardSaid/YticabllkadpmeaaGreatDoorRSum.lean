/- ref03.Join; ref21: bytes, leaf, join, Items, Sum, Below. (printed by gen/rsum.py) -/
import Derived.Test.YticabllkadpmeaaGreatDoorSha5
import Derived.Test.YticabllkadpmeaaGreatDoorPfxRef
import Derived.Test.YticabllkadpmeaaGreatDoorRPath
import Derived.Test.YticabllkadpmeaaGreatDoorTAny
namespace Go.Proofs.YticabllkadpmeaaGreatDoor
set_option linter.unusedVariables false
set_option linter.unusedSimpArgs false
set_option linter.unnecessarySimpa false
open Go.RowKit
open Tre (It)
set_option maxRecDepth 100000
set_option maxHeartbeats 8000000

/-- Numbers, many of them, onto numbers of the call's own. -/
theorem app_ints {w : World} {ops : Array Oper} {rest : List Oper} {o : Oper} {a : Act} {Q : Exit → Act → World → Prop} (hgd : o.guard = none) (s x : Operand)
    (ho : o.op = .call { callee := .builtin .append, args := #[s, x], argTypes := #[23, 23] })
    {base : Nat} {v sv : Value} {l m : List Int} (hs : a.eval s = v) (hown : OwnN w base v l) (hx : a.eval x = sv) (hsh : Ns w sv m)
    (hlen : l.length + m.length ≤ 17592186044416) (hbase : base ≤ w.heap.size)
    (h : ∀ v' w', OwnN w' base v' (l ++ m) → Below base w w' → wpList Tryz.prog ops Q rest (a.put o.dst v') w') : wpList Tryz.prog ops Q (o :: rest) a w := by
  obtain ⟨i, hi, hz0, hz1, hz2⟩ := info_parts int_info
  refine wpList_append_shows hgd s x 23 ho base 3 i (.int .i64 0) 1 8 Tryz.underlying23 hi hz0 hz1 hz2 rfl (by decide) v _ _ hs hown sv _ _ hx hsh (nums_one _ _) (by unfold maxLen; omega) (by omega) hbase ?_
  intro v' w' h1 h2
  refine h v' w' ?_ ((Below.refl _ _).grown h2 hbase fun k hk => (World.ownsRow.lt hown k hk).1)
  unfold OwnN
  rw [show nums IntKind.i64 (l ++ m) = nums .i64 l ++ nums .i64 m from by simp [nums], List.length_append]; exact h1
theorem OwnN.lit0 (w : World) : OwnN (w.alloc (.cells #[] 3)) w.heap.size (.slice (some ⟨w.heap.size, 0, none⟩) 0 0) [] :=
  World.ownsRow_lit (e := 3) (size := 1) (base := w.heap.size) w #[] 0 (Nat.le_refl _) (by decide) (by simp)
theorem sum_shows {w : World} {b off : Nat} {X : List UInt8} (hX : X.length = 32) (hr : w.rangeAt b off (bytes X)) : Sh w (.slice (some ⟨b, off, none⟩) 32 32) X := by
  unfold Sh
  refine ⟨by rw [bytes_length]; simp, _, _, by rw [hX], by rw [hX]; exact Nat.le_refl _, by decide, fun e => by simp at e, fun x hx j q hq => ?_⟩
  simp only [Option.some.injEq] at hx
  subst hx
  rw [Addr.add_lit]
  exact hr j q hq
theorem flat32 : ∀ M : List (List UInt8), L32 M → M.flatten.length = M.length * 32 := by
  intro M hM
  induction M with
  | nil => rfl
  | cons x r ih => rw [List.flatten_cons, List.length_append, hM x (List.mem_cons_self ..), ih fun y hy => hM y (List.mem_cons_of_mem _ hy), List.length_cons]; omega
theorem rjoin_any (v : Value) (L : List (List UInt8)) (w : World) (hs : Sms w v L) (h32 : L32 L) (hsz : L.length ≤ 1000000) :
    Calls Tryz.prog 72 #[v] w fun e w' => e = .returned (sumV (Sha.sum L.flatten)) ∧ Below w.heap.size w w' := by
  obtain ⟨xa, ca, rfl, hc1, hc2, -, -⟩ := hs.open
  have HS := Lib.hid hs
  have H32 := Lib.hid h32
  clear hs h32
  go_enter Tryz.func72, Tryz.ntmps72
  go_upto_region 1 with fail
  obtain ⟨W1, hW1, HA, HB1, HZ1⟩ := pre32 w
  rw [hW1]
  clear hW1
  have S1 := Lib.hid (HS.out.below HB1.out)
  have hww : w.heap.size < W1.heap.size := HA.out.lt
  go_wp2_with fail
  have HLIT : Hid (Own (W1.alloc (.cells #[] 5)) W1.heap.size 5 (.slice (some ⟨W1.heap.size, 0, none⟩) 0 0) []) := Own.lit W1 5 []
  have HBL : Hid (Below W1.heap.size W1 (W1.alloc (.cells #[] 5))) := balloc (Below.refl _ _) _
  go_loopw [3, 4] (fun bv iv wr => ∃ j : Nat, j ≤ L.length ∧ iv = .int .i64 j ∧ Own wr W1.heap.size 5 bv (L.take j).flatten ∧ Below W1.heap.size W1 wr) (fun _ iv _ => L.length - (intOf iv).toNat)
  case atStart => exact ⟨0, Nat.zero_le _, rfl, HLIT.out, HBL.out⟩
  case round =>
    clear HLIT HBL
    obtain ⟨j, hj, rfl, ho, hb⟩ := hrel
    have O := Lib.hid ho
    have B := Lib.hid hb
    have hjl : (L.take j).flatten.length = j * 32 := by
      rw [flat32 _ fun x hx => H32.out x (List.mem_of_mem_take hx), List.length_take, Nat.min_eq_left hj]
    have HJL := Lib.hid hjl
    clear ho hb hjl
    by_cases hlt : j < L.length
    · have hltI : (j : Int) < (L.length : Int) := by omega
      obtain ⟨b, off, rfl, hat⟩ := S1.out.at (by omega) H32.out
      have hr0 := rangeAt_below (hat j hlt) B.out
      have hx32 : (L.getD j []).length = 32 := H32.out _ (by simp [List.getD, List.getElem?_eq_getElem hlt])
      have hnx : (L.take (j + 1)).flatten = (L.take j).flatten ++ L.getD j [] := by
        rw [List.take_add_one, List.getElem?_eq_getElem hlt, List.flatten_append]
        simp [List.getD, List.getElem?_eq_getElem hlt]
      have HNX := Lib.hid hnx
      generalize L.getD j [] = X at *
      have HSX := Lib.hid (sum_shows hx32 hr0)
      have HX := Lib.hid hx32
      clear hnx hx32 hat hr0
      go_wp2_with (first
        | (at_builtin; refine app_bytes (base := W1.heap.size) Tryz.underlying64 info_byte rfl (.tmp 12) (.tmp 16) rfl rfl O.out rfl HSX.out (by rw [HJL.out, HX.out]; omega) B.out.size ?_; intro v4 w4 ho4 hb4))
      exact ⟨⟨j + 1, by omega, by go_num, by rw [HNX.out]; exact ho4, B.out.trans hb4⟩, by simp [intOf]; omega⟩
    · have hjL : j = L.length := by omega
      have hnI : ¬ (j : Int) < (L.length : Int) := by omega
      have O2 : Hid (Own wr W1.heap.size 5 u3 L.flatten) := by have := O.out; rw [hjL, List.take_length] at this; exact this
      have HL2 : Hid (L.flatten.length ≤ 100000000000000) := by show _ ≤ _; rw [flat32 L H32.out]; omega
      have A2 := Lib.hid (Row.below HA.out B.out hww)
      have BW := Lib.hid (HB1.out.trans (B.out.mono (Nat.le_of_lt hww)))
      clear hjL hlt hj O HJL
      go_wp2_with (first
        | (go_at_call 69; refine (rsum_any _ L.flatten _ O2.out.sh HL2.out).mono ?_; rintro e w4 ⟨rfl, hb4⟩; have A4 := Lib.hid (Row.keep A2.out hb4); have B4 := Lib.hid (BW.out.trans (hb4.mono BW.out.size)); clear hb4)
        | (with_reducible refine store_sum rfl (.tmp 2) (.tmp 19) rfl w.heap.size rfl (Sha.sum L.flatten) rfl (Sha.sum_length _) _ Tre0 A4.out rfl ?_))
      refine ret_sum rfl rfl w.heap.size rfl 36 (Sha.sum L.flatten) (setRow_heap _ w.heap.size _ _ _ _ A4.out) (Sha.sum_length _) ?_
      exact ⟨rfl, below_setRow B4.out (Nat.le_refl _) _⟩
theorem rtext_any (v : Value) (l : List UInt8) (s : ByteArray) (w : World) (h : Sh w v l) (hl : l.length + 8 + s.size ≤ 140737488355328) :
    Calls Tryz.prog 94 #[v, .string s] w fun e w' => ∃ v', e = .returned v' ∧ Own w' w.heap.size 5 v' (l ++ (enc s.size ++ s.data.toList)) ∧ Below w.heap.size w w' := by
  have hel := enc_length s.size (by omega)
  have hns := nsize_le s.size
  have HE := Lib.hid hel
  clear hel
  go_enter Tryz.func94, Tryz.ntmps94
  go_wp2_with (first
    | (go_at_call 93; refine (refPut_any v l s.size _ h (by omega) (by omega)).mono ?_; rintro e w2 ⟨v2, rfl, ho2, hb2⟩; have s2 := hb2.size)
    | (at_builtin; refine app_string (base := w.heap.size) Tryz.underlying64 Tryz.underlying9 info_byte rfl _ _ rfl rfl ho2 rfl (by have := HE.out; simp [this]; omega) s2 ?_; intro v3 w3 ho3 hb3))
  go_ret
  exact ⟨v3, rfl, by simpa using ho3, hb2.trans hb3⟩
theorem sum_sh_at {w : World} {b off : Nat} {x : It} (hx : ItOk x) (hr : w.rangeAt b off (itC x)) : Sh w (.slice (some ⟨b, off + 2, none⟩) 32 32) x.sum := by
  refine sum_shows hx.2.1 fun j v hv => ?_
  have := hr (2 + j) v (by rw [show (itC x)[2 + j]? = (bytes x.sum)[j]? by unfold itC; rw [show 2 + j = (j + 1) + 1 by omega]; simp]; exact hv)
  rwa [← Nat.add_assoc] at this
theorem it_bytes_le {x : It} (h : ItS x) : (It.bytes x).length ≤ 1000100 := by
  have := bytes_le (L := [x]) (by intro y hy; rw [List.mem_singleton] at hy; subst hy; exact h)
  simpa using this
theorem rbytes_any (v : Value) (L : List It) (w : World) (hs : Its w v L) (hok : ∀ x ∈ L, ItS x) (hn : L.length ≤ 1000000) :
    Calls Tryz.prog 70 #[v] w fun e w' => ∃ v', e = .returned v' ∧ Sh w' v' (L.flatMap It.bytes) ∧ Below w.heap.size w w' := by
  obtain ⟨xa, ca, rfl, hc1, hc2, -, hs2⟩ := hs.open
  have HS := Lib.hid hs2
  have HOK := Lib.hid hok
  clear hs hs2 hok
  go_enter Tryz.func70, Tryz.ntmps70
  go_wp2_with fail
  have HLIT : Hid (Own (w.alloc (.cells #[] 5)) w.heap.size 5 (.slice (some ⟨w.heap.size, 0, none⟩) 0 0) []) := Own.lit w 5 []
  have HBL : Hid (Below w.heap.size w (w.alloc (.cells #[] 5))) := balloc (Below.refl _ _) _
  go_loopw [3, 4] (fun bv iv wr => ∃ j : Nat, j ≤ L.length ∧ iv = .int .i64 j ∧ Sh wr bv ((L.take j).flatMap It.bytes) ∧ Below w.heap.size w wr) (fun _ iv _ => L.length - (intOf iv).toNat)
  case atStart => exact ⟨0, Nat.zero_le _, rfl, HLIT.out.sh, HBL.out⟩
  case round =>
    clear HLIT HBL
    obtain ⟨j, hj, rfl, ho, hb⟩ := hrel
    have O := Lib.hid ho
    have B := Lib.hid hb
    have hwr := hb.size
    have HJL : Hid (((L.take j).flatMap It.bytes).length ≤ 1000100000000) := by
      have := bytes_le (L := L.take j) (fun x hx => HOK.out x (List.mem_of_mem_take hx))
      rw [List.length_take] at this
      show _ ≤ _
      omega
    clear ho hb
    by_cases hlt : j < L.length
    · have hltI : (j : Int) < (L.length : Int) := by omega
      obtain ⟨b, off, rfl, -⟩ := HS.out.cells (by omega) (ItS.oks HOK.out)
      have hrg := rangeAt_below (HS.out.range (ItS.oks HOK.out) j hlt) B.out
      have hym : L.getD j dIt ∈ L := by simp [List.getD, List.getElem?_eq_getElem hlt]
      have hyo := HOK.out _ hym
      have hnx : (L.take (j + 1)).flatMap It.bytes = (L.take j).flatMap It.bytes ++ It.bytes (L.getD j dIt) := by
        rw [List.take_add_one, List.getElem?_eq_getElem hlt, List.flatMap_append]
        simp [List.getD, List.getElem?_eq_getElem hlt]
      have HNX := Lib.hid hnx
      generalize L.getD j dIt = x at *
      generalize (L.take j).flatMap It.bytes = T at *
      have hc0 : wr.cell? ⟨b, off + j * 34 + 0, none⟩ = some (.string x.name) := hrg 0 _ rfl
      have hc1 : wr.cell? ⟨b, off + j * 34 + 1, none⟩ = some (.int .u64 (x.len : Int)) := hrg 1 _ rfl
      have hbl := blt hc0
      rw [Nat.add_zero] at hc0
      have HR := Lib.hid hrg
      have hlen := hyo.1.1
      have HM : Hid (∃ m : Nat, m = min x.len 4611686018427387903 ∧ m < 4611686018427387904) := ⟨_, rfl, by omega⟩
      have HYO := Lib.hid hyo
      have hxn := hyo.2
      clear hnx hym hrg hyo
      have HFIN : Hid (∀ w', Below wr.heap.size wr w' → Sh w' (.slice (some ⟨b, off + j * 34 + 2, none⟩) 32 32) x.sum) := fun w' h => sum_sh_at HYO.out.1 (rangeAt_below HR.out h)
      obtain ⟨m, hm, hm2⟩ := HM.out
      have HBY : Hid (It.bytes x = (enc x.name.size ++ x.name.data.toList) ++ enc m ++ x.sum) := by
        show _ = _
        unfold It.bytes It.nm
        rw [hm, Array.length_toList]
        simp only [List.append_assoc]
        rfl
      have HBLn : Hid ((It.bytes x).length ≤ 1000100) := it_bytes_le HYO.out
      have HNL : Hid ((enc x.name.size ++ x.name.data.toList).length + (enc m).length + x.sum.length ≤ 1000100) := by
        have h1 := HBLn.out
        rw [HBY.out] at h1
        show _ ≤ _
        simpa [Nat.add_assoc] using h1
      clear HBLn HYO
      by_cases hbig : 4611686018427387903 < x.len
      · obtain rfl : m = 4611686018427387903 := by omega
        have hbI : (4611686018427387903 : Int) < (x.len : Int) := by omega
        clear hm
        go_wp2_with (first
          | (go_at_call 94; refine (rtext_any _ T x.name _ O.out (by have := HJL.out; omega)).mono ?_; rintro e w2 ⟨v2, rfl, ho2, hb2⟩; have O2 := Lib.hid ho2.sh; have B2 := Lib.hid hb2; clear ho2 hb2)
          | (go_at_call 93; refine (refPut_any v2 _ 4611686018427387903 _ O2.out (by have h1 := HJL.out; have h2 := HNL.out; rw [List.length_append]; omega) (by omega)).mono ?_; rintro e w3 ⟨v3, rfl, ho3, hb3⟩; have O3 := Lib.hid ho3; have B3 := Lib.hid (B2.out.trans (hb3.mono B2.out.size)); have hw3 := hb3.size; have hw2 := B2.out.size; clear hb3 ho3)
          | (at_builtin; refine app_bytes (base := w2.heap.size) Tryz.underlying64 info_byte rfl (.tmp 32) (.tmp 37) rfl rfl O3.out rfl (HFIN.out _ B3.out) (by have h1 := HJL.out; have h2 := HNL.out; rw [List.length_append, List.length_append]; omega) hw3 ?_; intro v4 w4 ho4 hb4; have O4 := Lib.hid ho4.sh; have B4 := Lib.hid (B.out.trans ((B3.out.mono hwr).trans (hb4.mono (by omega)))); clear hb4 ho4))
        refine ⟨⟨j + 1, by omega, by go_num, ?_, B4.out⟩, by simp [intOf]; omega⟩
        have h4 := O4.out
        rw [HNX.out, HBY.out]
        simpa only [List.append_assoc] using h4
      · obtain rfl : m = x.len := by omega
        have hbI : ¬ (4611686018427387903 : Int) < (x.len : Int) := by omega
        clear hm
        go_wp2_with (first
          | (go_at_call 94; refine (rtext_any _ T x.name _ O.out (by have := HJL.out; omega)).mono ?_; rintro e w2 ⟨v2, rfl, ho2, hb2⟩; have O2 := Lib.hid ho2.sh; have B2 := Lib.hid hb2; clear ho2 hb2)
          | (go_at_call 93; refine (refPut_any v2 _ x.len _ O2.out (by have h1 := HJL.out; have h2 := HNL.out; rw [List.length_append]; omega) (by omega)).mono ?_; rintro e w3 ⟨v3, rfl, ho3, hb3⟩; have O3 := Lib.hid ho3; have B3 := Lib.hid (B2.out.trans (hb3.mono B2.out.size)); have hw3 := hb3.size; have hw2 := B2.out.size; clear hb3 ho3)
          | (at_builtin; refine app_bytes (base := w2.heap.size) Tryz.underlying64 info_byte rfl (.tmp 32) (.tmp 37) rfl rfl O3.out rfl (HFIN.out _ B3.out) (by have h1 := HJL.out; have h2 := HNL.out; rw [List.length_append, List.length_append]; omega) hw3 ?_; intro v4 w4 ho4 hb4; have O4 := Lib.hid ho4.sh; have B4 := Lib.hid (B.out.trans ((B3.out.mono hwr).trans (hb4.mono (by omega)))); clear hb4 ho4))
        refine ⟨⟨j + 1, by omega, by go_num, ?_, B4.out⟩, by simp [intOf]; omega⟩
        have h4 := O4.out
        rw [HNX.out, HBY.out]
        simpa only [List.append_assoc] using h4
    · have hjL : j = L.length := by omega
      have hnI : ¬ (j : Int) < (L.length : Int) := by omega
      have O2 : Hid (Sh wr u3 (L.flatMap It.bytes)) := by have := O.out; rw [hjL, List.take_length] at this; exact this
      clear hjL hlt hj O HJL
      go_wp2_with fail
      go_ret
      exact ⟨_, rfl, O2.out, B.out⟩
theorem rleaf_any (v : Value) (L : List It) (w : World) (hs : Its w v L) (hok : ∀ x ∈ L, ItS x) (hn : L.length ≤ 1000000) :
    Calls Tryz.prog 56 #[v] w fun e w' => e = .returned (sumV (Tre.leafSum L)) ∧ Below w.heap.size w w' := by
  obtain ⟨xa, ca, rfl, hc1, hc2, hc3, hs2⟩ := hs.open
  have HS := Lib.hid hs2
  have HOK := Lib.hid hok
  clear hs hs2 hok
  go_enter Tryz.func56, Tryz.ntmps56
  go_upto_region 1 with fail
  obtain ⟨W1, hW1, HA, HB1, HZ1⟩ := pre32 w
  rw [hW1]
  clear hW1
  have S1 := Lib.hid (HS.out.below HB1.out)
  clear HS HZ1
  by_cases hL0 : L = []
  · subst hL0
    go_wp2_with (with_reducible refine store_sum rfl (.tmp 2) (.tmp 6) rfl w.heap.size rfl Tre.nought rfl nought_len _ Tre0 HA.out rfl ?_)
    refine ret_sum rfl rfl w.heap.size rfl 36 Tre.nought (setRow_heap _ w.heap.size _ _ _ _ HA.out) nought_len ?_
    exact ⟨rfl, below_setRow HB1.out (Nat.le_refl _) _⟩
  · have hpos : 0 < L.length := by
      cases L with
      | nil => exact absurd rfl hL0
      | cons x r => simp
    have hposI : ¬ (L.length : Int) = 0 := by omega
    have HLS : Hid (Tre.leafSum L = Sha.sum (L.flatMap It.bytes)) := by show _ = _; unfold Tre.leafSum; rw [if_neg hL0]
    have HLN : Hid ((L.flatMap It.bytes).length ≤ 100000000000000) := by
      have := bytes_le HOK.out
      show _ ≤ _
      omega
    clear hL0
    go_wp2_with (first
      | (go_at_call 70; refine (rbytes_any _ L _ S1.out HOK.out hn).mono ?_; rintro e w2 ⟨v2, rfl, ho2, hb2⟩; have O2 := Lib.hid ho2; have A2 := Lib.hid (Row.keep HA.out hb2); have B2 := Lib.hid (HB1.out.trans (hb2.mono HB1.out.size)); clear ho2 hb2)
      | (go_at_call 69; refine (rsum_any _ (L.flatMap It.bytes) _ O2.out HLN.out).mono ?_; rintro e w4 ⟨rfl, hb4⟩; have A4 := Lib.hid (Row.keep A2.out hb4); have B4 := Lib.hid (B2.out.trans (hb4.mono B2.out.size)); clear hb4)
      | (with_reducible refine store_sum rfl (.tmp 2) (.tmp 9) rfl w.heap.size rfl (Sha.sum (L.flatMap It.bytes)) rfl (Sha.sum_length _) _ Tre0 A4.out rfl ?_))
    refine ret_sum rfl rfl w.heap.size rfl 36 (Sha.sum (L.flatMap It.bytes)) (setRow_heap _ w.heap.size _ _ _ _ A4.out) (Sha.sum_length _) ?_
    exact ⟨by rw [HLS.out], below_setRow B4.out (Nat.le_refl _) _⟩
theorem joined_of {L : List (List UInt8)} (h : ∀ k, k < L.length → L.getD k [] = Tre.nought) : Tre.joined L = Tre.nought := by
  unfold Tre.joined
  rw [if_pos]
  rw [List.all_eq_true]
  intro x hx
  obtain ⟨k, hk, rfl⟩ := List.getElem_of_mem hx
  have := h k hk
  simp [List.getD, List.getElem?_eq_getElem hk] at this
  simp [this]
theorem joined_some {L : List (List UInt8)} {k : Nat} (hk : k < L.length) (h : ¬ L.getD k [] = Tre.nought) : Tre.joined L = Sha.sum L.flatten := by
  unfold Tre.joined
  rw [if_neg]
  intro h2
  rw [List.all_eq_true] at h2
  have := h2 L[k] (List.getElem_mem hk)
  simp only [beq_iff_eq] at this
  exact h (by simpa [List.getD, List.getElem?_eq_getElem hk] using this)
theorem rjoinN_any (v : Value) (L : List (List UInt8)) (w : World) (hs : Sms w v L) (h32 : L32 L) (hsz : L.length ≤ 1000000) :
    Calls Tryz.prog 58 #[v] w fun e w' => e = .returned (sumV (Tre.joined L)) ∧ Below w.heap.size w w' := by
  obtain ⟨xa, ca, rfl, hc1, hc2, -, hs2⟩ := hs.open
  have HS := Lib.hid hs2
  have H32 := Lib.hid h32
  clear hs h32 hs2
  go_enter Tryz.func58, Tryz.ntmps58
  go_upto_region 1 with fail
  obtain ⟨W1, hW1, HA, HB1, HZ1⟩ := pre32 w
  rw [hW1]
  clear hW1
  have S1 := Lib.hid (HS.out.below HB1.out)
  have hww : w.heap.size < W1.heap.size := HA.out.lt
  clear HS HZ1
  go_wp2_with fail
  go_loop [3] (fun iv => ∃ j : Nat, j ≤ L.length ∧ iv = .int .i64 j ∧ ∀ k, k < j → L.getD k [] = Tre.nought) (fun iv => L.length - (intOf iv).toNat)
  case atStart => exact ⟨0, Nat.zero_le _, rfl, fun k hk => by omega⟩
  case round =>
    obtain ⟨j, hj, rfl, h0⟩ := hrel
    have H0 := Lib.hid h0
    clear h0
    by_cases hlt : j < L.length
    · have hltI : (j : Int) < (L.length : Int) := by omega
      obtain ⟨b, off, rfl, hat⟩ := S1.out.at (by omega) H32.out
      have hr0 := Lib.hid (hat j hlt)
      have hx32 : (L.getD j []).length = 32 := H32.out _ (by simp [List.getD, List.getElem?_eq_getElem hlt])
      obtain ⟨X, hX⟩ : ∃ X, L.getD j [] = X := ⟨_, rfl⟩
      rw [hX] at hr0 hx32
      have HXX := Lib.hid hX
      have HX := Lib.hid hx32
      clear hx32 hat hX
      by_cases hno : X = Tre.nought
      · have HQ : Hid ((X == Tre.nought) = true) := by show _ = _; rw [beq_iff_eq]; exact hno
        have HNO := Lib.hid hno
        clear hno
        go_wp2_with (first
          | (with_reducible refine load_sum_mid rfl (.tmp 12) rfl b _ rfl X HX.out hr0.out ?_)
          | (with_reducible refine neq_sum rfl (.tmp 13) (.tmp 14) rfl X Tre.nought rfl rfl HX.out nought_len true HQ.out ?_))
        refine ⟨⟨j + 1, by omega, by go_num, fun k hk => ?_⟩, by simp [intOf]; omega⟩
        by_cases hkj : k = j
        · subst hkj; rw [HXX.out]; exact HNO.out
        · exact H0.out k (by omega)
      · have HQ : Hid ((X == Tre.nought) = false) := by show _ = _; rw [beq_eq_false_iff_ne]; exact hno
        have HJS : Hid (Tre.joined L = Sha.sum L.flatten) := joined_some hlt (by rw [HXX.out]; exact hno)
        clear hno
        go_wp2_with (first
          | (with_reducible refine load_sum_mid rfl (.tmp 12) rfl b _ rfl X HX.out hr0.out ?_)
          | (with_reducible refine neq_sum rfl (.tmp 13) (.tmp 14) rfl X Tre.nought rfl rfl HX.out nought_len false HQ.out ?_)
          | (go_at_call 72; refine (rjoin_any _ L _ S1.out H32.out hsz).mono ?_; rintro e w4 ⟨rfl, hb4⟩; have A4 := Lib.hid (Row.keep HA.out hb4); have B4 := Lib.hid (HB1.out.trans (hb4.mono HB1.out.size)); clear hb4)
          | (with_reducible refine store_sum rfl (.tmp 2) (.tmp 17) rfl w.heap.size rfl (Sha.sum L.flatten) rfl (Sha.sum_length _) _ Tre0 A4.out rfl ?_))
        refine ret_sum rfl rfl w.heap.size rfl 36 (Sha.sum L.flatten) (setRow_heap _ w.heap.size _ _ _ _ A4.out) (Sha.sum_length _) ?_
        exact ⟨by rw [HJS.out], below_setRow B4.out (Nat.le_refl _) _⟩
    · have hjL : j = L.length := by omega
      have hnI : ¬ (j : Int) < (L.length : Int) := by omega
      have HJS : Hid (Tre.joined L = Tre.nought) := joined_of fun k hk => H0.out k (by omega)
      clear hjL hlt hj H0
      go_wp2_with (with_reducible refine store_sum rfl (.tmp 2) (.tmp 18) rfl w.heap.size rfl Tre.nought rfl nought_len _ Tre0 HA.out rfl ?_)
      refine ret_sum rfl rfl w.heap.size rfl 36 Tre.nought (setRow_heap _ w.heap.size _ _ _ _ HA.out) nought_len ?_
      exact ⟨by rw [HJS.out], below_setRow HB1.out (Nat.le_refl _) _⟩
theorem leafItems_snoc (L : List It) (i j : Nat) (hj : j < L.length) : Tre.leafItems (L.take (j + 1)) i = Tre.leafItems (L.take j) i ++ (if Tre.slot (L.getD j dIt).nm = i then [L.getD j dIt] else []) := by
  have : L.take (j + 1) = L.take j ++ [L.getD j dIt] := by
    rw [List.take_add_one, List.getElem?_eq_getElem hj]
    simp [List.getD, List.getElem?_eq_getElem hj]
  rw [this]
  unfold Tre.leafItems
  rw [List.filter_append, List.filter_cons, List.filter_nil]
  simp only [beq_iff_eq]
theorem leafItems_le (L : List It) (i : Nat) : (Tre.leafItems L i).length ≤ L.length := List.length_filter_le _ _
theorem ritems_any (v : Value) (L : List It) (k m : Nat) (hk : k < 4) (hm : m < 4) (w : World) (hs : Its w v L) (hok : ∀ x ∈ L, ItS x) (hn : L.length ≤ 1000000) :
    Calls Tryz.prog 57 #[v, .int .i64 (k : Int), .int .i64 (m : Int)] w fun e w' => ∃ v', e = .returned v' ∧ Its w' v' (Tre.leafItems L (4 * k + m)) ∧ Below w.heap.size w w' := by
  obtain ⟨xa, ca, rfl, hc1, hc2, -, hs2⟩ := hs.open
  have HS := Lib.hid hs2
  have HOK := Lib.hid hok
  clear hs hs2 hok
  go_enter Tryz.func57, Tryz.ntmps57
  go_wp2_with fail
  have HLIT := Lib.hid (OwnI.lit0 w)
  have HBL : Hid (Below w.heap.size w (w.alloc (.cells #[] 38))) := balloc (Below.refl _ _) _
  go_loopw [7, 8] (fun bv iv wr => ∃ j : Nat, j ≤ L.length ∧ iv = .int .i64 j ∧ OwnI wr w.heap.size bv (Tre.leafItems (L.take j) (4 * k + m)) ∧ Below w.heap.size w wr) (fun _ iv _ => L.length - (intOf iv).toNat)
  case atStart => exact ⟨0, Nat.zero_le _, rfl, HLIT.out, HBL.out⟩
  case round =>
    clear HLIT HBL
    obtain ⟨j, hj, rfl, ho, hb⟩ := hrel
    have O := Lib.hid ho
    have B := Lib.hid hb
    have hwr := hb.size
    have HJL : Hid ((Tre.leafItems (L.take j) (4 * k + m)).length ≤ 1000000) := by
      have h1 := leafItems_le (L.take j) (4 * k + m)
      rw [List.length_take] at h1
      show _ ≤ _
      omega
    clear ho hb
    by_cases hlt : j < L.length
    · have hltI : (j : Int) < (L.length : Int) := by omega
      obtain ⟨b, off, rfl, -⟩ := HS.out.cells (by omega) (ItS.oks HOK.out)
      have hrg := rangeAt_below (HS.out.range (ItS.oks HOK.out) j hlt) B.out
      have hym : L.getD j dIt ∈ L := by simp [List.getD, List.getElem?_eq_getElem hlt]
      have hyo := HOK.out _ hym
      have hnx := leafItems_snoc L (4 * k + m) j hlt
      have HNX := Lib.hid hnx
      generalize L.getD j dIt = x at *
      generalize Tre.leafItems (L.take j) (4 * k + m) = T at *
      have hc0 : wr.cell? ⟨b, off + j * 34 + 0, none⟩ = some (.string x.name) := hrg 0 _ rfl
      rw [Nat.add_zero] at hc0
      have HR := Lib.hid hrg
      have HYO := Lib.hid hyo
      have HYK := Lib.hid hyo.1
      have hxn := hyo.2
      clear hnx hym hrg hyo
      obtain ⟨s, hs0⟩ : ∃ s, Tre.slot x.nm = s := ⟨_, rfl⟩
      have hs16 : s < 16 := by rw [← hs0]; exact Tre.slot_lt _
      have HP : Hid (pathOf x.name = [((s / 4 : Nat) : Int), ((s % 4 : Nat) : Int)]) := by show _ = _; rw [← hs0]; rfl
      rw [hs0] at HNX
      clear hs0
      go_upto_region 6 with (go_at_call 71; refine (rpath_any x.name _ (by omega)).mono ?_; rintro e w2 ⟨v2, rfl, hn2, hb2⟩; rw [HP.out] at hn2; have N2 := Lib.hid hn2; have O2 := Lib.hid (O.out.below hb2 (Nat.le_refl _)); have B2 := Lib.hid (B.out.trans (hb2.mono hwr)); have R2 := Lib.hid (rangeAt_below HR.out hb2); have hw2 := hb2.size; clear hn2 hb2)
      obtain ⟨a2, c2, rfl, -, -, -, hn3⟩ := N2.out.open
      obtain ⟨p2, o2, rfl, hat⟩ := hn3.at (by simp)
      have hd0 := hat 0 (by simp)
      have hd1 := hat 1 (by simp)
      simp only [List.getD_cons_zero, List.getD_cons_succ, Nat.add_zero] at hd0 hd1
      clear hat hn3 N2 HP
      simp only [List.length_cons, List.length_nil, Nat.zero_add, Nat.reduceAdd]
      by_cases hs1 : s / 4 = k
      · have hs1I : (((s / 4 : Nat) : Int)) = (k : Int) := by omega
        by_cases hs2 : s % 4 = m
        · have hs2I : (((s % 4 : Nat) : Int)) = (m : Int) := by omega
          have hse : s = 4 * k + m := by omega
          have HN2 := HNX.out
          rw [if_pos hse] at HN2
          have HNX2 := Lib.hid HN2
          clear HN2 HNX hse
          generalize ((s / 4 : Nat) : Int) = q1 at *
          generalize ((s % 4 : Nat) : Int) = q2 at *
          subst hs1I hs2I
          go_wp2_with (first
            | (with_reducible refine load_item rfl (.tmp 38) rfl b _ rfl x HYK.out R2.out ?_)
            | (with_reducible refine build_one rfl (.tmp 39) rfl x HYK.out rfl ?_)
            | (at_builtin; refine app_items (base := w.heap.size) rfl (.tmp 35) (.tmp 40) rfl (L := T) rfl (O2.out.below (balloc (Below.refl _ w2) _) (Nat.le_refl _)) rfl (its_lit w2 x HYK.out) (by have := HJL.out; simp; omega) (by have := balloc (Below.refl w2.heap.size w2) (.cells (itC x).toArray 38); have := this.size; omega) ?_; intro v9 w9 ho9 hb9; have O9 := Lib.hid ho9; have B9 := Lib.hid (B2.out.trans ((((Below.refl w2.heap.size w2).alloc (Nat.le_refl _) _).mono (Nat.le_trans hwr hw2)).trans hb9)); clear ho9 hb9))
          exact ⟨⟨j + 1, by omega, by go_num, by rw [HNX2.out]; exact O9.out, B9.out⟩, by simp [intOf]; omega⟩
        · have hs2I : ¬ (((s % 4 : Nat) : Int)) = (m : Int) := by omega
          have hse : ¬ s = 4 * k + m := by omega
          have HN2 := HNX.out
          rw [if_neg hse, List.append_nil] at HN2
          have HNX2 := Lib.hid HN2
          clear HN2 HNX hse
          generalize ((s / 4 : Nat) : Int) = q1 at *
          generalize ((s % 4 : Nat) : Int) = q2 at *
          subst hs1I
          go_wp2_with fail
          exact ⟨⟨j + 1, by omega, by go_num, by rw [HNX2.out]; exact O2.out, B2.out⟩, by simp [intOf]; omega⟩
      · have hs1I : ¬ (((s / 4 : Nat) : Int)) = (k : Int) := by omega
        have hse : ¬ s = 4 * k + m := by omega
        have HN2 := HNX.out
        rw [if_neg hse, List.append_nil] at HN2
        have HNX2 := Lib.hid HN2
        clear HN2 HNX hse
        generalize ((s / 4 : Nat) : Int) = q1 at *
        generalize ((s % 4 : Nat) : Int) = q2 at *
        go_wp2_with fail
        exact ⟨⟨j + 1, by omega, by go_num, by rw [HNX2.out]; exact O2.out, B2.out⟩, by simp [intOf]; omega⟩
    · have hjL : j = L.length := by omega
      have hnI : ¬ (j : Int) < (L.length : Int) := by omega
      have O2 : Hid (OwnI wr w.heap.size u7 (Tre.leafItems L (4 * k + m))) := by have := O.out; rw [hjL, List.take_length] at this; exact this
      clear hjL hlt hj O HJL
      go_wp2_with fail
      go_ret
      exact ⟨_, rfl, O2.out.its, B.out⟩
theorem OwnN.alloc' {w : World} {base : Nat} {v : Value} {l : List Int} (h : OwnN w base v l) (o : Obj) : OwnN (w.alloc o) base v l := World.ownsRow.alloc h o
theorem lit1 (w : World) (a : Int) : Ns (w.alloc (.cells #[.int .i64 a] 3)) (.slice (some ⟨w.heap.size, 0, none⟩) 1 1) [a] :=
  Shows.of_own (World.ownsRow_lit (e := 3) (size := 1) (base := w.heap.size) w #[.int .i64 a] 1 (Nat.le_refl _) (by decide) (by simp))
theorem build_sum1 {w : World} {ops : Array Oper} {rest : List Oper} {o : Oper} {a : Act} {Q : Exit → Act → World → Prop} (hgd : o.guard = none) (x : Operand) (ho : o.op = .buildSlice 24 1 #[(0, x)])
    (z : List UInt8) (hz : z.length = 32) (hx : a.eval x = sumV z) (h : wpList Tryz.prog ops Q rest (a.put o.dst (.slice (some ⟨w.heap.size, 0, none⟩) 1 1)) (w.alloc (.cells (bytes z).toArray 36))) : wpList Tryz.prog ops Q (o :: rest) a w :=
  wpList_plain hgd fun K hK => by
    obtain ⟨i0, hi0, hz0, hz1, hz2⟩ := info_parts sum_info
    refine wp_buildSlice 24 36 1 #[(0, x)] ho (bytes z).toArray i0 (sumV Tre.nought) Tryz.underlying24 hi0 hz0 (by rw [hz1]; decide) (by rw [hz1]; decide) ?_ (hK _ _ h)
    rw [hz1]
    have e : (Array.map (fun (x : Nat × Operand) => (x.1, a.eval x.2)) #[(0, x)]).toList = [(0, sumV z)] := by simp [hx]
    refine (congrArg (Instr.fill _ _) e).trans ?_
    exact fill_one _ _ 32 (by simp) (by simp [hz])
theorem sms_lit (w : World) (z : List UInt8) (hz : z.length = 32) : Sms (w.alloc (.cells (bytes z).toArray 36)) (.slice (some ⟨w.heap.size, 0, none⟩) 1 1) [z] := by
  have h := World.ownsRow_lit (e := 36) (size := 32) (base := w.heap.size) w (bytes z).toArray 1 (Nat.le_refl _) (by decide) (by simp [hz])
  have := Shows.of_own h
  unfold Sms
  simpa [sumsC] using this
theorem own_sums_below {w w' : World} {base n : Nat} {v : Value} {xs : List Value} (h : w.ownsRow base 36 32 v n xs) (hb : Below w.heap.size w w') : w'.ownsRow base 36 32 v n xs :=
  World.ownsRow.kept h (bgrow hb none) (by cases hv : v.ownBlock <;> simp)
/-- What a path's sums are asked for. -/
def SumAt (vl : Value) (w0 : World) (P : List Int) (x : List UInt8) : Prop :=
  ∀ pv w, Below w0.heap.size w0 w → Ns w pv P → Calls Tryz.prog 35 #[vl, pv] w fun e w' => e = .returned (sumV x) ∧ Below w.heap.size w w'
theorem rbelow_row (vl pv : Value) (P : List Int) (S : Nat → List UInt8) (w : World) (hP : P.length ≤ 1) (hp : Ns w pv P) (h32 : ∀ i, i < 4 → (S i).length = 32) (hS : ∀ i : Nat, i < 4 → SumAt vl w (P ++ [(i : Int)]) (S i)) :
    Calls Tryz.prog 18 #[vl, pv] w fun e w' => ∃ v', e = .returned v' ∧ w'.ownsRow w.heap.size 36 32 v' [S 0, S 1, S 2, S 3].length (sumsC [S 0, S 1, S 2, S 3]) ∧ Below w.heap.size w w' := by
  obtain ⟨xa, ca, rfl, hc1, hc2, hc3, hp2⟩ := hp.open
  have HN := Lib.hid hp2
  have HS32 := Lib.hid h32
  have HC : Hid (∀ i : Nat, i < 4 → ∀ pv w', Below w.heap.size w w' → Ns w' pv (P ++ [(i : Int)]) → Calls Tryz.prog 35 #[vl, pv] w' fun e w'' => e = .returned (sumV (S i)) ∧ Below w'.heap.size w' w'') := hS
  clear hp hp2 h32 hS
  go_enter Tryz.func18, Tryz.ntmps18
  go_wp2_with fail
  have HLIT : Hid ((w.alloc (.cells #[] 36)).ownsRow w.heap.size 36 32 (.slice (some ⟨w.heap.size, 0, none⟩) 0 0) ((List.range 0).map S).length (sumsC ((List.range 0).map S))) := World.ownsRow_lit (e := 36) (size := 32) (base := w.heap.size) w #[] 0 (Nat.le_refl _) (by decide) (by simp)
  have HBL : Hid (Below w.heap.size w (w.alloc (.cells #[] 36))) := balloc (Below.refl _ _) _
  go_loopw [5, 6] (fun bv iv wr => ∃ j : Nat, j ≤ 4 ∧ iv = .int .i64 j ∧ wr.ownsRow w.heap.size 36 32 bv ((List.range j).map S).length (sumsC ((List.range j).map S)) ∧ Below w.heap.size w wr) (fun _ iv _ => 4 - (intOf iv).toNat)
  case atStart => exact ⟨0, by omega, rfl, HLIT.out, HBL.out⟩
  case round =>
    clear HLIT HBL
    obtain ⟨j, hj, rfl, ho, hb⟩ := hrel
    have O := Lib.hid ho
    have B := Lib.hid hb
    have hwr := hb.size
    have N1 := Lib.hid (HN.out.below hb)
    clear ho hb
    by_cases hlt : j < 4
    · have hltI : (j : Int) < 4 := by omega
      have hjI : (0 : Int) ≤ (j : Int) := by omega
      have HL32 : Hid (L32 ((List.range j).map S)) := fun x hx => by
        rw [List.mem_map] at hx
        obtain ⟨i, hi, rfl⟩ := hx
        exact HS32.out i (by have := List.mem_range.1 hi; omega)
      have HM32 : Hid (L32 [S j]) := fun x hx => by rw [List.mem_singleton] at hx; subst hx; exact HS32.out j hlt
      have HNX : Hid ((List.range (j + 1)).map S = (List.range j).map S ++ [S j]) := by show _ = _; rw [List.range_succ, List.map_append]; rfl
      go_wp2_with (first
        | (at_builtin; refine app_ints (base := wr.heap.size) rfl (.tmp 14) (.tmp 15) rfl (l := []) rfl (OwnN.lit0 wr) rfl (N1.out.below (balloc (Below.refl _ wr) _)) (by simp only [List.length_nil]; omega) (by simp) ?_; rw [List.nil_append]; intro v3 w3 ho3 hb3; have hb30 : Below wr.heap.size wr w3 := ((balloc (Below.refl _ wr) _).trans hb3); have O3 := Lib.hid (OwnN.alloc' ho3 (.cells #[.int .i64 (j : Int)] 3)); have B3 := Lib.hid (hb30.alloc hb30.size (.cells #[.int .i64 (j : Int)] 3)); have hw3 := hb30.size; clear ho3 hb3 hb30)
        | (at_builtin; refine app_ints (base := wr.heap.size) rfl (.tmp 16) (.tmp 18) rfl (l := P) rfl O3.out rfl (lit1 w3 (j : Int)) (by simp only [List.length_singleton]; omega) (by simp; omega) ?_; intro v4 w4 ho4 hb4; have N4 := Lib.hid ho4.ns; have B4 := Lib.hid (B3.out.trans hb4); clear ho4 hb4)
        | (go_at_call 35; refine (HC.out j (by omega) _ _ (B.out.trans (B4.out.mono hwr)) N4.out).mono ?_; rintro e w5 ⟨rfl, hb5⟩; have B5 := Lib.hid (B4.out.trans (hb5.mono B4.out.size)); clear hb5)
        | (with_reducible refine build_sum1 rfl (.tmp 20) rfl (S j) (HS32.out j (by omega)) rfl ?_)
        | (at_builtin; refine app_sums (base := w.heap.size) rfl (.tmp 12) (.tmp 21) rfl (L := (List.range j).map S) (M := [S j]) HL32.out HM32.out rfl (own_sums_below O.out (B5.out.alloc B5.out.size (.cells (bytes (S j)).toArray 36))) rfl (sms_lit w5 (S j) (HS32.out j (by omega))) (by simp; omega) (by have := B5.out.size; simp; omega) ?_; intro v9 w9 ho9 hb9; have O9 := Lib.hid ho9; have B9 := Lib.hid (B.out.trans (((B5.out.alloc B5.out.size (.cells (bytes (S j)).toArray 36)).mono hwr).trans hb9)); clear ho9 hb9))
      exact ⟨⟨j + 1, by omega, by go_num, by rw [HNX.out]; exact O9.out, B9.out⟩, by simp [intOf]; omega⟩
    · have hjL : j = 4 := by omega
      subst hjL
      clear hlt hj
      go_wp2_with fail
      go_ret
      exact ⟨_, rfl, O.out, B.out⟩
theorem rbelow_gen (vl pv : Value) (P : List Int) (S : Nat → List UInt8) (w : World) (hP : P.length ≤ 1) (hp : Ns w pv P) (h32 : ∀ i, i < 4 → (S i).length = 32) (hS : ∀ i : Nat, i < 4 → SumAt vl w (P ++ [(i : Int)]) (S i)) :
    Calls Tryz.prog 18 #[vl, pv] w fun e w' => ∃ v', e = .returned v' ∧ Sms w' v' [S 0, S 1, S 2, S 3] ∧ Below w.heap.size w w' :=
  (rbelow_row vl pv P S w hP hp h32 hS).mono fun e w' ⟨v', he, ho, hb⟩ => ⟨v', he, Shows.of_own ho, hb⟩
theorem rsum_up (vl pv : Value) (P : List Int) (S : Nat → List UInt8) (w : World) (hP : P.length ≤ 1) (hp : Ns w pv P) (h32 : ∀ i, i < 4 → (S i).length = 32) (hS : ∀ i : Nat, i < 4 → SumAt vl w (P ++ [(i : Int)]) (S i)) :
    Calls Tryz.prog 35 #[vl, pv] w fun e w' => e = .returned (sumV (Tre.joined [S 0, S 1, S 2, S 3])) ∧ Below w.heap.size w w' := by
  obtain ⟨xa, ca, rfl, hc1, hc2, hc3, hp2⟩ := hp.open
  have HN := Lib.hid hp2
  have HS32 := Lib.hid h32
  have HC := Lib.hid hS
  have hPI : ¬ (P.length : Int) = 2 := by omega
  clear hp hp2 h32 hS
  go_enter Tryz.func35, Tryz.ntmps35
  go_upto_region 1 with fail
  obtain ⟨W1, hW1, HA, HB1, HZ1⟩ := pre32 w
  rw [hW1]
  clear hW1
  have N1 := Lib.hid (HN.out.below HB1.out)
  have HC1 : Hid (∀ i : Nat, i < 4 → SumAt vl W1 (P ++ [(i : Int)]) (S i)) := fun i hi pv' w' hb' hn' => HC.out i hi pv' w' (HB1.out.trans (hb'.mono HB1.out.size)) hn'
  have H4 : Hid (L32 [S 0, S 1, S 2, S 3]) := fun x hx => by
    simp only [List.mem_cons, List.not_mem_nil, or_false] at hx
    rcases hx with rfl | rfl | rfl | rfl <;> exact HS32.out _ (by omega)
  clear HN HC HZ1
  go_wp2_with (first
    | (go_at_call 18; refine (rbelow_gen vl _ P S _ hP N1.out HS32.out HC1.out).mono ?_; rintro e w2 ⟨v2, rfl, hs2, hb2⟩; have S2 := Lib.hid hs2; have A2 := Lib.hid (Row.keep HA.out hb2); have B2 := Lib.hid (HB1.out.trans (hb2.mono HB1.out.size)); clear hs2 hb2)
    | (go_at_call 58; refine (rjoinN_any _ [S 0, S 1, S 2, S 3] _ S2.out H4.out (by simp)).mono ?_; rintro e w4 ⟨rfl, hb4⟩; have A4 := Lib.hid (Row.keep A2.out hb4); have B4 := Lib.hid (B2.out.trans (hb4.mono B2.out.size)); clear hb4)
    | (with_reducible refine store_sum rfl (.tmp 4) (.tmp 20) rfl w.heap.size rfl (Tre.joined [S 0, S 1, S 2, S 3]) rfl (Tre.joined_length _) _ Tre0 A4.out rfl ?_))
  refine ret_sum rfl rfl w.heap.size rfl 36 (Tre.joined [S 0, S 1, S 2, S 3]) (setRow_heap _ w.heap.size _ _ _ _ A4.out) (Tre.joined_length _) ?_
  exact ⟨rfl, below_setRow B4.out (Nat.le_refl _) _⟩
theorem step_store_sum {w : World} {ops : Array Oper} {o : Oper} {a : Act} {K : Act → World → Prop} {Q : Exit → Act → World → Prop} {E : Prop} (hgd : o.guard = none) (x y : Operand) (ho : o.op = .store 36 x y)
    (g : Nat) (hx : a.eval x = .pointer (some ⟨g, 0, none⟩)) (l : List UInt8) (hy : a.eval y = sumV l) (hl : l.length = 32) (t : TypeId) (m : List UInt8) (hr : Row w g t (bytes m)) (hm : m.length = 32)
    (h : K (a.put o.dst undef) (w.setCells g 0 (bytes l))) :
    if Region.wanted o (yielded ops a.tmps) = true then Oper.wp Tryz.prog o a w K Q else E :=
  step_sum_mid hgd x y ho g 0 hx l hy hl t (bytes m) hr (by simp [hm]) h
theorem rsum_leaf (vl pv : Value) (L : List It) (k m : Nat) (hk : k < 4) (hm : m < 4) (w : World) (hs : Its w vl L) (hok : ∀ x ∈ L, ItS x) (hn : L.length ≤ 1000000) (hp : Ns w pv [(k : Int), (m : Int)]) :
    Calls Tryz.prog 35 #[vl, pv] w fun e w' => e = .returned (sumV (Tre.leafSum (Tre.leafItems L (4 * k + m)))) ∧ Below w.heap.size w w' := by
  obtain ⟨xa, ca, rfl, hc1, hc2, hc3, hp2⟩ := hp.open
  obtain ⟨p2, o2, rfl, hat⟩ := hp2.at (by simp)
  have he0 := hat 0 (by simp)
  have he1 := hat 1 (by simp)
  simp only [List.getD_cons_zero, List.getD_cons_succ, Nat.add_zero] at he0 he1
  have hbl := blt he0
  have HS := Lib.hid hs
  have HOK := Lib.hid hok
  have HLO : Hid (∀ x ∈ Tre.leafItems L (4 * k + m), ItS x) := fun x hx => hok x (List.mem_filter.1 hx).1
  have HLL : Hid ((Tre.leafItems L (4 * k + m)).length ≤ 1000000) := Nat.le_trans (leafItems_le _ _) hn
  simp only [List.length_cons, List.length_nil, Nat.zero_add, Nat.reduceAdd] at hc1 hp2 ⊢
  clear hp hat hok hs hp2
  go_enter Tryz.func35, Tryz.ntmps35
  go_upto_region 1 with fail
  obtain ⟨W1, hW1, HA, HB1, HZ1⟩ := pre32 w
  rw [hW1]
  clear hW1
  have hd0 := bcell HB1.out he0 hbl
  have hd1 := bcell HB1.out he1 (blt he1)
  have hww : w.heap.size ≤ W1.heap.size := HB1.out.size
  clear he0 he1 HZ1
  go_upto_region 2 with fail
  refine wp_region_held_drew (S := fun w' => Below w.heap.size W1 w') (by kernel_rfl) (by exact (Below.refl _ _).drew) (fun hHeld => ?_)
  refine wpAnyH_take (i := 0) (v := ?_) (by simp only [List.getElem?_toArray, List.getElem?_cons_zero, List.getElem?_cons_succ] <;> rfl) (by kernel_rfl) (by kernel_rfl) (by kernel_rfl) (by intro _ _ _ h; exact h) (Or.inl ⟨by rfl, ?_⟩) (by assumption) ?_
  rotate_left
  · intro w _; go_simp; try with_reducible rfl
  try simp only [Act.put, List.setIfInBounds_toArray, List.set_cons_zero, List.set_cons_succ, Array.replicate]
  refine wpAnyH_take (i := 1) (v := ?_) (by simp only [List.getElem?_toArray, List.getElem?_cons_zero, List.getElem?_cons_succ] <;> rfl) (by kernel_rfl) (by kernel_rfl) (by kernel_rfl) (by intro _ _ _ h; exact h) (Or.inl ⟨by rfl, ?_⟩) (by assumption) ?_
  rotate_left
  · intro w _; go_simp; try with_reducible rfl
  try simp only [Act.put, List.setIfInBounds_toArray, List.set_cons_zero, List.set_cons_succ, Array.replicate]
  refine wpAnyH_take (i := 2) (v := ?_) (by simp only [List.getElem?_toArray, List.getElem?_cons_zero, List.getElem?_cons_succ] <;> rfl) (by kernel_rfl) (by kernel_rfl) (by kernel_rfl) (by intro _ _ _ h; exact h) (Or.inl ⟨by rfl, ?_⟩) (by assumption) ?_
  rotate_left
  · intro w _; go_simp; try with_reducible rfl
  try simp only [Act.put, List.setIfInBounds_toArray, List.set_cons_zero, List.set_cons_succ, Array.replicate]
  refine wpAnyH_take (i := 3) (v := ?_) (by simp only [List.getElem?_toArray, List.getElem?_cons_zero, List.getElem?_cons_succ] <;> rfl) (by kernel_rfl) (by kernel_rfl) (by kernel_rfl) (by intro _ _ _ h; exact h) (Or.inl ⟨by rfl, ?_⟩) (by assumption) ?_
  rotate_left
  · intro w hSS; have q1 := bcell (show Below _ W1 _ from hSS) hd0 hbl; go_simp; try with_reducible rfl
  try simp only [Act.put, List.setIfInBounds_toArray, List.set_cons_zero, List.set_cons_succ, Array.replicate]
  refine wpAnyH_take (i := 4) (v := ?_) (by simp only [List.getElem?_toArray, List.getElem?_cons_zero, List.getElem?_cons_succ] <;> rfl) (by kernel_rfl) (by kernel_rfl) (by kernel_rfl) (by intro _ _ _ h; exact h) (Or.inl ⟨by rfl, ?_⟩) (by assumption) ?_
  rotate_left
  · intro w _; go_simp; try with_reducible rfl
  try simp only [Act.put, List.setIfInBounds_toArray, List.set_cons_zero, List.set_cons_succ, Array.replicate]
  refine wpAnyH_take (i := 5) (v := ?_) (by simp only [List.getElem?_toArray, List.getElem?_cons_zero, List.getElem?_cons_succ] <;> rfl) (by kernel_rfl) (by kernel_rfl) (by kernel_rfl) (by intro _ _ _ h; exact h) (Or.inl ⟨by rfl, ?_⟩) (by assumption) ?_
  rotate_left
  · intro w _; go_simp; try with_reducible rfl
  try simp only [Act.put, List.setIfInBounds_toArray, List.set_cons_zero, List.set_cons_succ, Array.replicate]
  refine wpAnyH_take (i := 6) (v := ?_) (by simp only [List.getElem?_toArray, List.getElem?_cons_zero, List.getElem?_cons_succ] <;> rfl) (by kernel_rfl) (by kernel_rfl) (by kernel_rfl) (by intro _ _ _ h; exact h) (Or.inl ⟨by rfl, ?_⟩) (by assumption) ?_
  rotate_left
  · intro w hSS; have q1 := bcell (show Below _ W1 _ from hSS) hd1 hbl; go_simp; try with_reducible rfl
  try simp only [Act.put, List.setIfInBounds_toArray, List.set_cons_zero, List.set_cons_succ, Array.replicate]
  refine wpAnyH_ready (rs := [7]) (by kernel_rfl) (by simp) ?_
  refine AllReadyH.cons (by simp only [List.getElem?_toArray, List.getElem?_cons_zero, List.getElem?_cons_succ] <;> rfl) (fun K hK => ?_) ?_
  · go_simp; go_at_call 57; refine (ritems_any vl L k m hk hm _ (HS.out.below (HB1.out.trans (show Below w.heap.size W1 _ from hHeld))) HOK.out hn).mono ?_; rintro e w2 ⟨v2, rfl, hs2, hb2⟩; have S2 := Lib.hid hs2; have B2 := Lib.hid ((Below.refl W1.heap.size W1).drew.trans hb2); clear hs2; try go_simp
    refine hK.out _ _ (by exact (B2.out.mono hww)) (fun hHeld => ?_)
    clear hK K
    try simp only [Act.put, List.setIfInBounds_toArray, List.set_cons_zero, List.set_cons_succ, Array.replicate]
    refine wpAnyH_ready (rs := [8]) (by kernel_rfl) (by simp) ?_
    refine AllReadyH.cons (by simp only [List.getElem?_toArray, List.getElem?_cons_zero, List.getElem?_cons_succ] <;> rfl) (fun K hK => ?_) ?_
    · go_simp; go_at_call 56; refine (rleaf_any _ (Tre.leafItems L (4 * k + m)) _ S2.out HLO.out HLL.out).mono ?_; rintro e w4 ⟨rfl, hb4⟩; have B4 := Lib.hid (B2.out.trans (hb4.mono B2.out.size)); have A4 := Lib.hid (Row.keep HA.out B4.out); try go_simp
      refine hK.out _ _ (by exact (B4.out.mono hww)) (fun hHeld => ?_)
      clear hK K
      try simp only [Act.put, List.setIfInBounds_toArray, List.set_cons_zero, List.set_cons_succ, Array.replicate]
      refine wpAnyH_ready (rs := [9]) (by kernel_rfl) (by simp) ?_
      refine AllReadyH.cons (by simp only [List.getElem?_toArray, List.getElem?_cons_zero, List.getElem?_cons_succ] <;> rfl) (fun K hK => ?_) ?_
      · refine step_store_sum rfl (.tmp 4) (.tmp 16) rfl w.heap.size rfl (Tre.leafSum (Tre.leafItems L (4 * k + m))) rfl (Tre.leafSum_length _) _ Tre0 A4.out rfl ?_
        refine hK.out _ _ (by exact below_setCells (B4.out.mono hww) _ _ _ (Nat.le_refl _)) (fun hHeld => ?_)
        clear hK K
        try simp only [Act.put, List.setIfInBounds_toArray, List.set_cons_zero, List.set_cons_succ, Array.replicate]
        refine wpAnyH_done (by kernel_rfl) ?_ _
        go_wp2_with fail
        refine ret_sum rfl rfl w.heap.size rfl 36 (Tre.leafSum (Tre.leafItems L (4 * k + m))) (set_whole A4.out (Tre.leafSum_length _) tre0_len) (Tre.leafSum_length _) ?_
        exact ⟨rfl, HB1.out.trans (show Below w.heap.size W1 _ from hHeld)⟩
      exact AllReadyH.nil
    exact AllReadyH.nil
  exact AllReadyH.nil

theorem rSum_good (vl pv : Value) (L : List It) (P : List Int) (hP : goodP P = true) (w : World) (hs : Its w vl L) (hok : ∀ x ∈ L, ItS x) (hn : L.length ≤ 1000000) (hp : Ns w pv P) :
    Calls Tryz.prog 35 #[vl, pv] w fun e w' => e = .returned (sumV (Tre.sumAt L P)) ∧ Below w.heap.size w w' := by
  have h2 : ∀ (w0 : World), Its w0 vl L → ∀ k m : Nat, k < 4 → m < 4 → SumAt vl w0 [(k : Int), (m : Int)] (Tre.leafAt L (4 * k + m)) := fun w0 h0 k m hk hm pv' w' hb' hn' => rsum_leaf vl pv' L k m hk hm w' (h0.below hb') hok hn hn'
  have h1 : ∀ (w0 : World), Its w0 vl L → ∀ k : Nat, k < 4 → SumAt vl w0 [(k : Int)] (Tre.nodeAt L k) := fun w0 h0 k hk pv' w' hb' hn' =>
    rsum_up vl pv' [(k : Int)] (fun m => Tre.leafAt L (4 * k + m)) w' (by simp) hn' (fun i _ => Tre.leafAt_length _ _) (fun i hi => h2 w' (h0.below hb') k i hk hi)
  rcases good_cases hP with rfl | ⟨k, hk, rfl⟩ | ⟨k, m, hk, hm, rfl⟩
  · exact rsum_up vl pv [] (fun k => Tre.nodeAt L k) w (by simp) hp (fun i _ => Tre.nodeAt_length _ _) (fun i hi => h1 w hs i hi)
  · exact h1 w hs k hk pv w (Below.refl _ _) hp
  · exact h2 w hs k m hk hm pv w (Below.refl _ _) hp
theorem rBelow_row (vl pv : Value) (L : List It) (P : List Int) (hP : goodP P = true) (hl : P.length < 2) (w : World) (hs : Its w vl L) (hok : ∀ x ∈ L, ItS x) (hn : L.length ≤ 1000000) (hp : Ns w pv P) :
    Calls Tryz.prog 18 #[vl, pv] w fun e w' => ∃ v', e = .returned v' ∧ w'.ownsRow w.heap.size 36 32 v' (belowAt L P).length (sumsC (belowAt L P)) ∧ Below w.heap.size w w' := by
  have h2 : ∀ (w0 : World), Its w0 vl L → ∀ k m : Nat, k < 4 → m < 4 → SumAt vl w0 [(k : Int), (m : Int)] (Tre.leafAt L (4 * k + m)) := fun w0 h0 k m hk hm pv' w' hb' hn' => rsum_leaf vl pv' L k m hk hm w' (h0.below hb') hok hn hn'
  have h1 : ∀ (w0 : World), Its w0 vl L → ∀ k : Nat, k < 4 → SumAt vl w0 [(k : Int)] (Tre.nodeAt L k) := fun w0 h0 k hk pv' w' hb' hn' =>
    rsum_up vl pv' [(k : Int)] (fun m => Tre.leafAt L (4 * k + m)) w' (by simp) hn' (fun i _ => Tre.leafAt_length _ _) (fun i hi => h2 w' (h0.below hb') k i hk hi)
  rcases good_cases hP with rfl | ⟨k, hk, rfl⟩ | ⟨k, m, hk, hm, rfl⟩
  · exact rbelow_row vl pv [] (fun k => Tre.nodeAt L k) w (by simp) hp (fun i _ => Tre.nodeAt_length _ _) (fun i hi => h1 w hs i hi)
  · have := rbelow_row vl pv [(k : Int)] (fun m => Tre.leafAt L (4 * k + m)) w (by simp) hp (fun i _ => Tre.leafAt_length _ _) (fun i hi => h2 w hs k i hk hi)
    simpa [belowAt] using this
  · simp at hl
theorem rBelow_good (vl pv : Value) (L : List It) (P : List Int) (hP : goodP P = true) (hl : P.length < 2) (w : World) (hs : Its w vl L) (hok : ∀ x ∈ L, ItS x) (hn : L.length ≤ 1000000) (hp : Ns w pv P) :
    Calls Tryz.prog 18 #[vl, pv] w fun e w' => ∃ v', e = .returned v' ∧ Sms w' v' (belowAt L P) ∧ Below w.heap.size w w' :=
  (rBelow_row vl pv L P hP hl w hs hok hn hp).mono fun e w' ⟨v', he, ho, hb⟩ => ⟨v', he, Shows.of_own ho, hb⟩
end Go.Proofs.YticabllkadpmeaaGreatDoor
