/- Clocks: Take of what Put made. (printed by gen/clk13.py) -/
import Derived.Test.YtadmjhlcdoghpaaClk8
import Derived.Test.YtadmjhlcdoghpaaClk12
import Derived.Test.YtadmjhlcdoghpaaClk10
import Derived.Test.YtadmjhlcdoghpaaPfxTk
import Derived.Test.YtadmjhlcdoghpaaPfxPlain
import Derived.Deep.QuietTactic
import Derived.BigQuiet
namespace Go.Proofs.Ytadmjhlcdoghpaa
set_option linter.unusedVariables false
set_option linter.unusedSimpArgs false
set_option linter.unnecessarySimpa false
open Go.RowKit
set_option maxRecDepth 100000
set_option maxHeartbeats 4000000

theorem ret_clock3 {fn : Func} {p u t' : Tmp} (h : fn.results = #[.cell p 24, .tmp u, .tmp t']) {R : Ending → World → Prop} {a : Act} {w : World} (hd : a.defers = []) (g : Nat) (hp : a.tmps.getD p undef = .pointer (some ⟨g, 0, none⟩)) (t : TypeId) (A : List Int) (hr : Arr w g t .u64 A) (hA : A.length = 8)
    (hR : R (.returned (.tuple #[clockV A, a.tmps.getD u undef, a.tmps.getD t' undef])) w) : bodyPost Try.prog fn R .ret a w := by
  refine bodyPost_ret ?_ hd hR
  have := run_loadVar_row (P := Try.prog) w g t 24 _ _ _ hr Try.underlying24 rfl (by rw [size_clock]; simp [hA])
  have hp' : a.tmps[p]?.getD undef = .pointer (some ⟨g, 0, none⟩) := by simpa using hp
  simp [results, h, hp', asAddr, this, clockV]
theorem bit8 : ∀ (j : Fin 8) (b0 b1 b2 b3 b4 b5 b6 b7 : Bool), (g8 b0 b1 b2 b3 b4 b5 b6 b7 / 2 ^ j.val) % 2 = if [b0, b1, b2, b3, b4, b5, b6, b7].getD j.val false = true then 0 else 1 := by decide +kernel
theorem bitA (A : List Int) (j : Nat) (hj : j < 8) : (gA A / 2 ^ j) % 2 = if A.getD j 0 = 0 then 0 else 1 := by
  unfold gA
  rw [bit8 ⟨j, hj⟩]
  match j, hj with
  | 0, _ => simp
  | 1, _ => simp
  | 2, _ => simp
  | 3, _ => simp
  | 4, _ => simp
  | 5, _ => simp
  | 6, _ => simp
  | 7, _ => simp
theorem encs_drop (A : List Int) (j : Nat) (hj : j < A.length) : encs (A.drop j) = (if A.getD j 0 = 0 then [] else enc (A.getD j 0).toNat) ++ encs (A.drop (j + 1)) := by
  unfold encs
  rw [List.drop_eq_getElem_cons hj, List.flatMap_cons]
  simp [List.getD, List.getElem?_eq_getElem hj]
theorem zeros_get : ∀ j, zeros.getD j 0 = 0
  | 0 | 1 | 2 | 3 | 4 | 5 | 6 | 7 => rfl
  | _ + 8 => rfl
theorem and1 (y : Int) (h : 0 ≤ y ∧ y < 256) : bits .and .u8 y 1 = y % 2 := by
  obtain ⟨a, rfl⟩ : ∃ a : Nat, y = (a : Int) := ⟨y.toNat, by omega⟩
  have ha : a < 256 := by omega
  have h1 : (BitVec.ofInt 8 (a : Int)).toNat = a := by rw [BitVec.ofInt_natCast, BitVec.toNat_ofNat]; exact Nat.mod_eq_of_lt (by omega)
  show IntKind.u8.wrap ((BitVec.ofInt 8 (a : Int) &&& BitVec.ofInt 8 (1 : Int)).toNat : Int) = _
  rw [BitVec.toNat_and, h1, show (BitVec.ofInt 8 (1 : Int)).toNat = 1 from rfl, Nat.and_one_is_mod, IntWalk.u8_in _ ⟨by omega, by omega⟩]
  omega
theorem and1_at (G : Int) (hG : 0 ≤ G ∧ G < 256) (j : Nat) : bits .and .u8 (G / 2 ^ j) 1 = G / 2 ^ j % 2 := by
  have h2 : (0 : Int) < 2 ^ j := Int.pow_pos (by omega)
  have h3 : 0 ≤ G / 2 ^ j := Int.ediv_nonneg hG.1 (by omega)
  have h4 : G / 2 ^ j ≤ G := Int.ediv_le_self _ hG.1
  exact and1 _ ⟨h3, by omega⟩
theorem TakeEnc_any (v : Value) (N : Nat) (r : List UInt8) (w : World) (h : Sh w v (enc N ++ r)) (hN : N < 4611686018427387904) (hl : (enc N ++ r).length ≤ 140737488355328) :
    Calls Try.prog 23 #[v] w fun e w' => ∃ v', e = .returned (.tuple #[.int .u64 (N : Int), v', .int .i64 0]) ∧ Own w' w.heap.size 5 v' r ∧ Below w.heap.size w w' := by
  have ht := tk_enc N hN r
  have hr : tkRest (enc N ++ r) = r := by
    unfold tkRest
    rw [ht, if_pos rfl]
    have := enc_length N hN
    rw [← this, List.drop_left]
  refine (Take_any v _ w h hl).mono fun e w' ⟨v', he, ho, hb⟩ => ⟨v', ?_, by rw [← hr]; exact ho, hb⟩
  rw [he, ht]; rfl
theorem Own.setRowBelow {w : World} {base e g : Nat} {v : Value} {l : List UInt8} (h : Own w base e v l) (hg : g < base) (cs : Array Value) : Own (w.setRow g cs) base e v l := by
  obtain ⟨h1, h2⟩ := h
  refine ⟨h1, ?_⟩
  rcases h2 with hn | ⟨g', cap, cur, rfl, hb0, hg', rest⟩
  · exact .inl hn
  · exact .inr ⟨g', cap, cur, rfl, hb0, (setRow_other w g g' cs (by omega)).trans hg', rest⟩
theorem takeC_any (v : Value) (l : List UInt8) (A : List Int) (hA : A.length = 8) (h0 : ∀ j, j < 8 → 0 ≤ A.getD j 0 ∧ A.getD j 0 < 4611686018427387904) (w : World) (h : Sh w v (putC A ++ l)) (hl : l.length + 200 ≤ 140737488355328) :
    Calls Try.prog 19 #[v] w fun e w' => ∃ v', e = .returned (.tuple #[clockV A, v', .int .i64 0]) ∧ Sh w' v' l ∧ Below w.heap.size w w' := by
  have hpl : (putC A ++ l).length = 1 + ((encs A).length + l.length) := by simp [putC]; omega
  have hel := encs_take_le A hA 8 (by omega) h0
  rw [List.take_of_length_le (by omega)] at hel
  obtain ⟨x, cap, rfl, g1, g2, g3, g4⟩ := h.open
  have H := Lib.hid g4
  obtain ⟨b, off, rfl, hby⟩ := g4.cells (by omega)
  have hb0 := hby 0 (by omega)
  have hg0 : (((putC A ++ l).getD 0 0).toNat : Int) = gA A := by
    show ((ofI (gA A)).toNat : Int) = _
    exact ofI_toNat (gA_in A)
  rw [hg0] at hb0
  have HDr := Lib.hid (show ∀ W, Sh W (.slice (some ⟨b, off, none⟩) (putC A ++ l).length cap) (putC A ++ l) → Sh W (.slice (if cap = 1 then some ⟨b, off, none⟩ else some ⟨b, off + 1, none⟩) ((encs A).length + l.length) (cap - 1)) (encs A ++ l) from fun W hW => by
    have := hW.drop 1 (by omega)
    simpa [putC, Addr.add_lit] using this)
  have HA := Lib.hid hA
  have H0 := Lib.hid h0
  clear hA h0 h g3 g4 hby hg0
  have hin := gA_in A
  have HBit := Lib.hid (bitA A)
  generalize hgg : gA A = G at *
  have hlen : (putC A ++ l).length = 1 + ((encs A).length + l.length) := hpl
  rw [hlen] at H HDr ⊢
  have HLn := Lib.hid hel
  clear hpl hlen
  generalize hEl : (encs A).length = el at *
  have HEL := Lib.hid hEl
  clear hEl hel hgg
  go_enter Try.func19, Try.ntmps19
  obtain ⟨W, hW, R0, Hb, Hz⟩ := preZ w
  go_upto_region 3 with fail
  obtain ⟨V, hV, T0, Tb, -⟩ := preZ W
  rw [Hz.out] at T0
  have S0 := Lib.hid (Arr.keep R0.out Tb.out)
  have S1 := Lib.hid T0.out
  have SB := Lib.hid (bthen Hb.out Tb.out (Nat.le_refl _))
  go_upto_region 4 with fail
  rw [Hz.out]
  have hbV : V.cell? ⟨b, off, none⟩ = some (.int .u8 G) := bcell SB.out hb0 (blt hb0)
  clear hV hW R0 Hb T0 Tb Hz hb0
  go_quiet (fail)
  have HZ := Lib.hid (HDr.out (V.drewN nq) (Sh.drewN (H.out.at' SB.out (Nat.le_refl _)) nq))
  have S0' := Lib.hid (Arr.drewN S0.out nq)
  have S1' := Lib.hid (Arr.drewN S1.out nq)
  have SB' := Lib.hid (SB.out.trans ((drewN_below V nq).mono SB.out.size))
  clear S0 S1 SB hbV HDr
  generalize (Value.slice (if cap = 1 then some (⟨b, off, none⟩ : Addr) else some ⟨b, off + 1, none⟩) (el + l.length) (cap - 1)) = z at *
  generalize V.drewN nq = U at *
  have hfalse : ((1 : Int) + ((el : Int) + (l.length : Int)) == 0) = false := by rw [beq_eq_false_iff_ne]; omega
  rw [hfalse]
  clear hfalse
  go_wp2_with fail
  go_loopw [7, 21] (fun r i wr => ∃ j : Nat, j ≤ 8 ∧ i = .int .i64 j ∧ Sh wr r (encs (A.drop j) ++ l) ∧ Arr wr w.heap.size 24 .u64 zeros ∧ Arr wr (w.heap.size + 1) 24 .u64 (pto A zeros j) ∧ Below w.heap.size w wr) (fun _ i _ => 8 - (intOf i).toNat)
  case atStart => exact ⟨0, by omega, rfl, HZ.out, S0'.out, S1'.out, SB'.out⟩
  case round =>
    clear HZ S0' S1' SB'
    obtain ⟨j, hj, rfl, hr, s0, s1, hb⟩ := hrel
    have HR := Lib.hid hr
    have S0 := Lib.hid s0
    have S1 := Lib.hid s1
    have HB := Lib.hid hb
    clear hr s0 s1 hb
    by_cases hlt : j < 8
    · have hbit := HBit.out j hlt
      have HT := Lib.hid (encs_drop A j (by rw [HA.out]; exact hlt))
      have HS := Lib.hid (pto_set A zeros HA.out rfl j hlt)
      have HQ := Lib.hid (pto_same A zeros HA.out rfl j hlt)
      have hx := H0.out j hlt
      have hf := S1.out.frozen j
      have hc := S1.out.cell j (by rw [pto_length A zeros HA.out rfl j hj]; exact hlt)
      generalize (pto A zeros j).getD j 0 = old at hc
      generalize A.getD j 0 = x at *
      have hand := and1_at G hin j
      by_cases hz : x = 0
      · rw [if_pos hz] at hbit
        have hba : (bits .and .u8 (G / 2 ^ j) 1 == 0) = true := by rw [hand, hbit]; rfl
        subst hz
        clear hand hbit
        go_wp2_with fail
        exact ⟨⟨j + 1, by omega, by go_num, by have := HR.out; rw [HT.out] at this; simpa using this, S0.out, by rw [HQ.out (zeros_get j).symm]; exact S1.out, HB.out⟩, by simp [intOf]; omega⟩
      · rw [if_neg hz] at hbit
        have hba : (bits .and .u8 (G / 2 ^ j) 1 == 0) = false := by rw [hand, hbit]; rfl
        obtain ⟨N, rfl⟩ : ∃ N : Nat, x = (N : Int) := ⟨x.toNat, by omega⟩
        have hN : N < 4611686018427387904 := by omega
        have hr := HR.out
        rw [HT.out, if_neg hz, Int.toNat_natCast, List.append_assoc] at hr
        have HR2 := Lib.hid hr
        have hle : (enc N ++ (encs (A.drop (j + 1)) ++ l)).length ≤ 140737488355328 := by
          have h1 := HEL.out
          have h2 : (encs A).length = (encs (A.take j)).length + (encs (A.drop j)).length := by unfold encs; rw [← List.length_append, ← List.flatMap_append, List.take_append_drop]
          have h3 := HT.out
          rw [if_neg hz, Int.toNat_natCast] at h3
          have h4 : (encs (A.drop j)).length = (enc N).length + (encs (A.drop (j + 1))).length := by rw [h3, List.length_append]
          have := HLn.out
          rw [List.length_append, List.length_append]
          omega
        have HLE := Lib.hid hle
        have s0' := Arr.set_other (p := ⟨w.heap.size + 1, j, none⟩) S0.out (by simp) (.int .u64 (N : Int))
        clear hand hbit hr hx hle
        have hNI : ¬ (N : Int) = 0 := hz
        generalize hrr : encs (A.drop (j + 1)) ++ l = r at *
        have HRR := Lib.hid hrr
        clear hrr
        go_wp2_with (go_at_call 23; refine (TakeEnc_any u7 N _ _ HR2.out hN HLE.out).mono ?_; rintro e w2 ⟨v2, rfl, ho2, hb2⟩; have hf2 := Arr.frozen (Arr.keep S1.out hb2) j; have hc2 := bkeep hb2 hc)
        have w1 := Arr.set (Arr.keep S1.out hb2) j (N : Int)
        rw [HS.out] at w1
        exact ⟨⟨j + 1, by omega, by go_num, by rw [HRR.out]; exact Own.sh (ownsRow_setCell_below ho2 (blt hc) _), Arr.set_other (Arr.keep S0.out hb2) (by simp) _, w1, bset (bthen HB.out hb2 (Nat.le_refl _)) (by omega) _⟩, by simp [intOf]; omega⟩
    · obtain rfl : j = 8 := by omega
      have w1 := S1.out
      rw [pto_all A zeros HA.out rfl] at w1
      have S1' := Lib.hid w1
      have hr := HR.out
      rw [List.drop_of_length_le (by rw [HA.out]; omega), show encs [] = [] from rfl, List.nil_append] at hr
      have HR' := Lib.hid hr
      have hgl := S0.out.lt
      clear w1 hr HR S1
      go_wp2_with fail
      refine wp_region_any (by kernel_rfl) ?_
      try (change wpAny _ _ _ _ _ _ _ (World.drew _))
      refine wpAny_take (i := 1) (v := ?_) (by simp only [List.getElem?_toArray, List.getElem?_cons_zero, List.getElem?_cons_succ] <;> rfl) (by kernel_rfl) (by kernel_rfl) (by kernel_rfl) (by intro _ _ _ h; exact h) (Or.inl ⟨by rfl, ?_⟩) ?_
      rotate_left
      · intro w; go_simp; try with_reducible rfl
      try simp only [Act.put, List.setIfInBounds_toArray, List.set_cons_zero, List.set_cons_succ, Array.replicate]
      refine wpAny_ready (rs := [0, 2]) (by kernel_rfl) (by simp) ?_
      refine AllReady.cons (by simp only [List.getElem?_toArray, List.getElem?_cons_zero, List.getElem?_cons_succ] <;> rfl) (fun K hK => ?_) ?_
      · refine step_load (by with_unfolding_all rfl) (.tmp 5) rfl _ rfl A HA.out (Arr.keep S1'.out (by repeat (first | with_reducible exact Below.refl _ _ | with_reducible refine bdrew ?_ | with_reducible refine balloc ?_ _ | with_reducible refine bstep ?_ (by assumption)))) ?_
        refine hK _ _ ?_
        clear hK K
        try simp only [Act.put, List.setIfInBounds_toArray, List.set_cons_zero, List.set_cons_succ, Array.replicate]
        refine wpAny_ready (rs := [2]) (by kernel_rfl) (by simp) ?_
        refine AllReady.cons (by simp only [List.getElem?_toArray, List.getElem?_cons_zero, List.getElem?_cons_succ] <;> rfl) (fun K hK => ?_) ?_
        · go_simp; go_at_call 20; refine (clone_any _ l _ (HR'.out.below (by repeat (first | with_reducible exact Below.refl _ _ | with_reducible refine bdrew ?_ | with_reducible refine balloc ?_ _ | with_reducible refine bstep ?_ (by assumption)))) (by omega)).mono ?_; rintro e w1 ⟨v1, rfl, ho1, hb1⟩; try go_simp
          refine hK _ _ ?_
          clear hK K
          try simp only [Act.put, List.setIfInBounds_toArray, List.set_cons_zero, List.set_cons_succ, Array.replicate]
          refine wpAny_ready (rs := [3]) (by kernel_rfl) (by simp) ?_
          refine AllReady.cons (by simp only [List.getElem?_toArray, List.getElem?_cons_zero, List.getElem?_cons_succ] <;> rfl) (fun K hK => ?_) ?_
          · refine step_store (by with_unfolding_all rfl) (.tmp 2) (.tmp 49) rfl _ rfl A rfl HA.out _ zeros (Arr.keep S0.out (by repeat (first | with_reducible exact Below.refl _ _ | with_reducible refine bdrew ?_ | with_reducible refine balloc ?_ _ | with_reducible refine bstep ?_ (by assumption)))) rfl ?_
            refine hK _ _ ?_
            clear hK K
            try simp only [Act.put, List.setIfInBounds_toArray, List.set_cons_zero, List.set_cons_succ, Array.replicate]
            refine wpAny_take (i := 4) (v := ?_) (by simp only [List.getElem?_toArray, List.getElem?_cons_zero, List.getElem?_cons_succ] <;> rfl) (by kernel_rfl) (by kernel_rfl) (by kernel_rfl) (by intro _ _ _ h; exact h) (Or.inl ⟨by rfl, ?_⟩) ?_
            rotate_left
            · intro w; go_simp; try with_reducible rfl
            try simp only [Act.put, List.setIfInBounds_toArray, List.set_cons_zero, List.set_cons_succ, Array.replicate]
            refine wpAny_take (i := 5) (v := ?_) (by simp only [List.getElem?_toArray, List.getElem?_cons_zero, List.getElem?_cons_succ] <;> rfl) (by kernel_rfl) (by kernel_rfl) (by kernel_rfl) (by intro _ _ _ h; exact h) (Or.inl ⟨by rfl, ?_⟩) ?_
            rotate_left
            · intro w; go_simp; try with_reducible rfl
            try simp only [Act.put, List.setIfInBounds_toArray, List.set_cons_zero, List.set_cons_succ, Array.replicate]
            refine wpAny_done (by kernel_rfl) ?_ _
            go_wp2_with fail
            exact ret_clock3 rfl rfl _ rfl _ A (Arr.setRow (Arr.keep S0.out (by repeat (first | with_reducible exact Below.refl _ _ | with_reducible refine bdrew ?_ | with_reducible refine balloc ?_ _ | with_reducible refine bstep ?_ (by assumption)))) A) HA.out ⟨v1, rfl, (Own.setRowBelow ho1 hgl _).sh, bsetRow (bthen HB.out (by repeat (first | with_reducible exact Below.refl _ _ | with_reducible refine bdrew ?_ | with_reducible refine balloc ?_ _ | with_reducible refine bstep ?_ (by assumption))) (Nat.le_refl _)) (Nat.le_refl _) _⟩
          exact AllReady.nil
        exact AllReady.nil
      refine AllReady.cons (by simp only [List.getElem?_toArray, List.getElem?_cons_zero, List.getElem?_cons_succ] <;> rfl) (fun K hK => ?_) ?_
      · go_simp; go_at_call 20; refine (clone_any _ l _ (HR'.out.below (by repeat (first | with_reducible exact Below.refl _ _ | with_reducible refine bdrew ?_ | with_reducible refine balloc ?_ _ | with_reducible refine bstep ?_ (by assumption)))) (by omega)).mono ?_; rintro e w1 ⟨v1, rfl, ho1, hb1⟩; try go_simp
        refine hK _ _ ?_
        clear hK K
        try simp only [Act.put, List.setIfInBounds_toArray, List.set_cons_zero, List.set_cons_succ, Array.replicate]
        refine wpAny_ready (rs := [0]) (by kernel_rfl) (by simp) ?_
        refine AllReady.cons (by simp only [List.getElem?_toArray, List.getElem?_cons_zero, List.getElem?_cons_succ] <;> rfl) (fun K hK => ?_) ?_
        · refine step_load (by with_unfolding_all rfl) (.tmp 5) rfl _ rfl A HA.out (Arr.keep S1'.out (by repeat (first | with_reducible exact Below.refl _ _ | with_reducible refine bdrew ?_ | with_reducible refine balloc ?_ _ | with_reducible refine bstep ?_ (by assumption)))) ?_
          refine hK _ _ ?_
          clear hK K
          try simp only [Act.put, List.setIfInBounds_toArray, List.set_cons_zero, List.set_cons_succ, Array.replicate]
          refine wpAny_ready (rs := [3]) (by kernel_rfl) (by simp) ?_
          refine AllReady.cons (by simp only [List.getElem?_toArray, List.getElem?_cons_zero, List.getElem?_cons_succ] <;> rfl) (fun K hK => ?_) ?_
          · refine step_store (by with_unfolding_all rfl) (.tmp 2) (.tmp 49) rfl _ rfl A rfl HA.out _ zeros (Arr.keep S0.out (by repeat (first | with_reducible exact Below.refl _ _ | with_reducible refine bdrew ?_ | with_reducible refine balloc ?_ _ | with_reducible refine bstep ?_ (by assumption)))) rfl ?_
            refine hK _ _ ?_
            clear hK K
            try simp only [Act.put, List.setIfInBounds_toArray, List.set_cons_zero, List.set_cons_succ, Array.replicate]
            refine wpAny_take (i := 4) (v := ?_) (by simp only [List.getElem?_toArray, List.getElem?_cons_zero, List.getElem?_cons_succ] <;> rfl) (by kernel_rfl) (by kernel_rfl) (by kernel_rfl) (by intro _ _ _ h; exact h) (Or.inl ⟨by rfl, ?_⟩) ?_
            rotate_left
            · intro w; go_simp; try with_reducible rfl
            try simp only [Act.put, List.setIfInBounds_toArray, List.set_cons_zero, List.set_cons_succ, Array.replicate]
            refine wpAny_take (i := 5) (v := ?_) (by simp only [List.getElem?_toArray, List.getElem?_cons_zero, List.getElem?_cons_succ] <;> rfl) (by kernel_rfl) (by kernel_rfl) (by kernel_rfl) (by intro _ _ _ h; exact h) (Or.inl ⟨by rfl, ?_⟩) ?_
            rotate_left
            · intro w; go_simp; try with_reducible rfl
            try simp only [Act.put, List.setIfInBounds_toArray, List.set_cons_zero, List.set_cons_succ, Array.replicate]
            refine wpAny_done (by kernel_rfl) ?_ _
            go_wp2_with fail
            exact ret_clock3 rfl rfl _ rfl _ A (Arr.setRow (Arr.keep S0.out (by repeat (first | with_reducible exact Below.refl _ _ | with_reducible refine bdrew ?_ | with_reducible refine balloc ?_ _ | with_reducible refine bstep ?_ (by assumption)))) A) HA.out ⟨v1, rfl, (Own.setRowBelow ho1 hgl _).sh, bsetRow (bthen HB.out (by repeat (first | with_reducible exact Below.refl _ _ | with_reducible refine bdrew ?_ | with_reducible refine balloc ?_ _ | with_reducible refine bstep ?_ (by assumption))) (Nat.le_refl _)) (Nat.le_refl _) _⟩
          exact AllReady.nil
        exact AllReady.nil
      exact AllReady.nil
end Go.Proofs.Ytadmjhlcdoghpaa
