/- Package shell: parse, where there are as many words as there should be. (printed by gen/shl4.py) -/
import Derived.Test.YtojoeaaodomfnaaGreatDoorShl3
namespace Go.Proofs.YtojoeaaodomfnaaGreatDoor
set_option linter.unusedVariables false
set_option linter.unusedSimpArgs false
set_option linter.unnecessarySimpa false
open Go.RowKit
set_option maxRecDepth 100000
set_option maxHeartbeats 2000000

theorem Upd.cell {p : Nat} {a b : World} (h : Upd p a b) {q : Addr} {v : Value} (hc : a.cell? q = some v) (hq : q.block ≠ p) : b.cell? q = some v := by
  have h1 := h.block q.block (blt hc) (fun e => hq (by simpa [eq_comm] using e))
  unfold World.cell? at hc ⊢
  rw [h1]
  exact hc
namespace Shl
theorem setAll_app : ∀ (p1 : List UInt8) (w1 : List (List UInt8)), p1.length = w1.length → ∀ (p2 : List UInt8) (w2 : List (List UInt8)) (e : Ev), setAll (p1 ++ p2) (w1 ++ w2) e = (setAll p1 w1 e).bind (setAll p2 w2)
  | [], [], _, p2, w2, e => rfl
  | c :: p1, w :: w1, h, p2, w2, e => by
    simp only [List.cons_append, setAll]
    cases setE c w e with
    | none => rfl
    | some x => simp only [Option.bind_some]; exact setAll_app p1 w1 (by simpa using h) p2 w2 x
theorem setAll_step (P : List UInt8) (W : List (List UInt8)) (hl : P.length = W.length) (e0 e : Ev) (k : Nat) (hk : k < P.length) (h : setAll (P.take k) (W.take k) e0 = some e) :
    setAll (P.take (k + 1)) (W.take (k + 1)) e0 = setE (P.getD k 0) (W.getD k []) e ∧ (setE (P.getD k 0) (W.getD k []) e = none → setAll P W e0 = none) := by
  have hw : k < W.length := by omega
  have e1 : P.getD k 0 = P[k] := by simp [List.getD, hk]
  have e2 : W.getD k [] = W[k] := by simp [List.getD, hw]
  rw [e1, e2]
  have hs := setAll_app (P.take k) (W.take k) (by simp; omega)
  constructor
  · rw [List.take_succ_eq_append_getElem hk, List.take_succ_eq_append_getElem hw, hs, h]
    simp only [Option.bind_some, setAll]
    cases setE P[k] W[k] e <;> rfl
  · intro hn
    have := hs (P.drop k) (W.drop k) e0
    rw [List.take_append_drop, List.take_append_drop, h, Option.bind_some, List.drop_eq_getElem_cons hk, List.drop_eq_getElem_cons hw] at this
    rw [this]
    simp only [setAll, hn]
    rfl
theorem words_len : ∀ (s : List UInt8), ∀ w ∈ wordsL s, w.length ≤ s.length
  | [], w, hw => by simp [wordsL] at hw; subst hw; simp
  | c :: r, w, hw => by
    by_cases h : c = 32
    · subst h; rw [words_blank] at hw
      rcases List.mem_cons.1 hw with rfl | hw
      · simp
      · have := words_len r w hw; simp; omega
    · obtain ⟨x, ws, h1, h2⟩ := words_byte h r
      rw [h2] at hw
      rcases List.mem_cons.1 hw with rfl | hw
      · have := words_len r x (by rw [h1]; exact List.mem_cons_self ..); simp; omega
      · have := words_len r w (by rw [h1]; exact List.mem_cons_of_mem _ hw); simp; omega
theorem after_len : ∀ (s : List UInt8) (b : Nat), (afterL s b).length ≤ s.length
  | [], b => by simp [afterL]
  | c :: r, b => by
    unfold afterL
    split
    · split
      · simp
      · have := after_len r (b - 1); simp; omega
    · have := after_len r b; simp; omega
/-- What is a verb's line, the verb's number known. -/
theorem parse_at {s : List UInt8} {j : Nat} (hj : j < 15) (hn : (verbs.getD j ⟨[], 0, 0, []⟩).name = (wordsL s).headD []) : parseL s = fin (verbs.getD j ⟨[], 0, 0, []⟩) ((wordsL s).drop 1) := by
  have key : ∀ j, j < 15 → verbs.find? (fun v => v.name == (verbs.getD j ⟨[], 0, 0, []⟩).name) = some (verbs.getD j ⟨[], 0, 0, []⟩) := by decide
  unfold parseL
  rw [← hn, key j hj]
theorem parse_none {s : List UInt8} (h : ∀ k, k < 15 → (verbs.getD k ⟨[], 0, 0, []⟩).name ≠ (wordsL s).headD []) : parseL s = .inl 5 := by
  unfold parseL
  have : verbs.find? (fun v => v.name == (wordsL s).headD []) = none := by
    rw [List.find?_eq_none]
    intro v hv
    obtain ⟨k, hk, rfl⟩ := List.mem_iff_getElem.1 hv
    have := h k hk
    simpa [List.getD, hk] using this
  rw [this]
end Shl
theorem idxV_some {f : List UInt8} {j : Nat} (h : idxV f = (j : Int)) : j < 15 ∧ (Shl.verbs.getD j dV).name = f := by
  unfold idxV at h
  cases hf : Shl.verbs.findIdx? (fun v => v.name == f) with
  | none => rw [hf] at h; simp only at h; omega
  | some i =>
    rw [hf] at h
    simp only at h
    obtain rfl : i = j := by omega
    obtain ⟨h1, h2, -⟩ := List.findIdx?_eq_some_iff_getElem.1 hf
    exact ⟨h1, by simpa [List.getD, h1] using h2⟩
theorem pat_letters (j : Nat) (hj : j < 15) : ∀ c ∈ (Shl.verbs.getD j dV).pat, c ∈ letters := by
  have key : ∀ j, j < 15 → ∀ c ∈ (Shl.verbs.getD j dV).pat, c ∈ letters := by decide
  exact key j hj
theorem parse_eq (s : ByteArray) (hs : s.size < 4294967281) (w : World) (hg : Gl w) (j : Nat) (hj : j < 15) (hi : idxV ((Shl.wordsL s.data.toList).headD []) = (j : Int)) (m : Nat) (hL : (wordsB s).length = m + 1) (hm1 : 1 ≤ m) (hn : m = (Shl.verbs.getD j dV).pat.length) :
    Calls Tryz.prog 18 #[.string s] w fun e w' => e = .returned (parseV s (Shl.parseL s.data.toList)) ∧ Below w.heap.size w w' := by
  obtain ⟨Fl, hFl⟩ : ∃ Fl, (Shl.wordsL s.data.toList).drop 1 = Fl := ⟨_, rfl⟩
  have hFll : Fl.length = m := by
    have h1 : (Shl.wordsL s.data.toList).length = m + 1 := by rw [← hL]; simp [wordsB]
    rw [← hFl, List.length_drop, h1]; omega
  have hfit : Shl.fitW (Shl.verbs.getD j dV) Fl = Fl := by
    unfold Shl.fitW
    rw [if_neg (fun h => by omega)]
  have hPL : Shl.parseL s.data.toList = match Shl.setAll (Shl.verbs.getD j dV).pat Fl (Shl.ev0 (Shl.verbs.getD j dV)) with | none => .inl 4 | some e => .inr e := by
    rw [Shl.parse_at hj (idxV_some hi).2]
    show Shl.fin (Shl.verbs.getD j dV) _ = _
    rw [hFl]
    unfold Shl.fin
    rw [hfit, if_neg (by omega), if_neg (by omega)]
    rfl
  have HWC : Hid (∀ k, k < m → (strs (wordsB s))[1 + k]? = some (.string (bs (Fl.getD k [])))) := fun k hk => by
    have h1 : (Shl.wordsL s.data.toList).length = m + 1 := by rw [← hL]; simp [wordsB]
    have h2 : 1 + k < (Shl.wordsL s.data.toList).length := by omega
    rw [← hFl]
    unfold strs wordsB
    rw [List.getElem?_map, List.getElem?_map, List.getElem?_eq_getElem h2]
    simp [List.getD, List.getElem?_drop, List.getElem?_eq_getElem h2, Nat.add_comm k 1]
  have HLET := Lib.hid (pat_letters j hj)
  have HFS : Hid (∀ k, (Fl.getD k []).length ≤ 4294967281) := fun k => by
    by_cases hk : k < Fl.length
    · have h1 : Fl.getD k [] ∈ Shl.wordsL s.data.toList := by
        have h0 : Fl.getD k [] ∈ Fl := by simp [List.getD, hk]
        have h1 : Fl.getD k [] ∈ (Shl.wordsL s.data.toList).drop 1 := by rw [hFl]; exact h0
        exact List.mem_of_mem_drop h1
      have h2 := Shl.words_len _ _ h1
      have h3 : s.data.toList.length = s.size := rfl
      omega
    · have : Fl.getD k [] = [] := by simp [List.getD, hk]
      rw [this]; simp
  have HPL := Lib.hid hPL
  have hFln := hFll
  have hna : m ≤ (Shl.verbs.getD j dV).pat.length := by omega
  have hnb : (Shl.verbs.getD j dV).pat.length ≤ m := by omega
  have HFLL : Hid (Fl.length = m) := hFll
  clear hPL hfit hFl hFll hFln hn
  have HG := Lib.hid hg
  have hz := hg.sz
  have HI := Lib.hid hi
  obtain ⟨v, hv⟩ : ∃ v, Shl.verbs.getD j dV = v := ⟨_, rfl⟩
  obtain ⟨hp1, hp3, hlast⟩ := pat_facts j hj
  rw [hv] at hp1 hp3 hlast hna hnb HPL HLET
  have HV := Lib.hid hv
  generalize hf : (Shl.wordsL s.data.toList).headD [] = f at *
  have HF := Lib.hid hf
  have Z1 := Lib.hid (Row.new w 28 (evC ev00))
  have Z2 : Hid (Below w.heap.size w (w.alloc (.cells (evC ev00).toArray 28))) := balloc (Below.refl _ _) _
  have HL := Lib.hid hL
  have hm0 : ¬ m + 1 = 1 := by omega
  have hmI : ¬ (m : Int) + 1 = 1 := by omega
  clear hg hi hf hv hL
  go_enter Tryz.func18, Tryz.ntmps18
  go_upto_region 2 with (go_at_call 32; refine (Cut_any s hs _ (HG.out.keep Z2.out)).mono ?_; rw [HF.out]; rintro e w1 ⟨x, y, rfl, hb1⟩; have R1 := Lib.hid (Z1.out.keep hb1); have B1 := Lib.hid (Z2.out.trans (hb1.mono (Z2.out.size))); have hw1 := B1.out.size; clear hb1)
  have HW := Lib.hid (Row.new w1 9 [.string (bs f)])
  have B2 : Hid (Below w.heap.size w (w1.alloc (.cells #[.string (bs f)] 9))) := B1.out.alloc hw1 _
  have R2 := Lib.hid (R1.out.alloc (.cells #[.string (bs f)] 9))
  obtain ⟨W2, hW2⟩ : ∃ W2, w1.alloc (.cells #[.string (bs f)] 9) = W2 := ⟨_, rfl⟩
  have hw2 : w1.heap.size < W2.heap.size := by rw [← hW2]; simp
  have F2 : Hid (Row W2 w1.heap.size 9 [.string (bs f)]) := by rw [← hW2]; exact HW.out
  rw [hW2] at B2 R2 ⊢
  clear hW2 HW R1 B1
  generalize w1.heap.size = fb at *
  go_upto_region 3 with (go_at_call 33; refine (pick_any (bs f) fb _ (HG.out.keep B2.out) (F2.out.cell 0)).mono ?_; rw [bs_data, HI.out]; rintro e w3 ⟨rfl, hb3⟩; have B3 := Lib.hid (B2.out.trans (hb3.mono B2.out.size)); have R3 := Lib.hid (R2.out.keep hb3); have F3 := Lib.hid (F2.out.keep hb3); have hw3 := hb3.size; clear hb3)
  clear B2 R2 F2
  obtain ⟨hc0, hc1, hc2, hc3⟩ := verb_cells _ (HG.out.keep B3.out) j hj
  rw [HV.out] at hc0 hc1 hc2 hc3
  have hjI : (j : Int) < 15 := by omega
  have hj0 : ¬ (j : Int) < 0 := by omega
  go_upto_region 6 with fail
  obtain ⟨W4, hW4⟩ : ∃ W4, w3.alloc (.cells (verbV v).toArray 48) = W4 := ⟨_, rfl⟩
  have V4 : Hid (Row W4 w3.heap.size 48 (verbV v)) := by rw [← hW4]; exact Row.new w3 _ _
  have B4 : Hid (Below w.heap.size w W4) := by rw [← hW4]; exact B3.out.alloc B3.out.size _
  have R4 : Hid (Row W4 w.heap.size 28 (evC ev00)) := by rw [← hW4]; exact R3.out.alloc _
  have F4 : Hid (Row W4 fb 9 [.string (bs f)]) := by rw [← hW4]; exact F3.out.alloc _
  have hw4 : w3.heap.size < W4.heap.size := by rw [← hW4]; simp
  have e4 : w3.alloc (.cells #[.string (bs v.name), .int .i64 v.kind, .int .i64 v.cmd, .string (bs v.pat)] 48) = W4 := hW4
  rw [e4]
  clear hc0 hc1 hc2 hc3 hW4 e4 B3 R3 F3
  have hw3b : w.heap.size ≤ w3.heap.size := by omega
  generalize w3.heap.size = vb at *
  go_upto_region 7 with (go_at_call 36; refine (Split_any s hs _ (HG.out.keep B4.out)).mono ?_; rw [HL.out]; rintro e w5 ⟨rfl, hw5e⟩; have W5 : Hid (Row w5 W4.heap.size 9 (strs (wordsB s))) := (by rw [hw5e]; exact Row.new W4 _ _); have hb5 : Below W4.heap.size W4 w5 := (by rw [hw5e]; exact balloc (Below.refl _ _) _); have hw5 : W4.heap.size < w5.heap.size := (by rw [hw5e]; simp); have B5 := Lib.hid (B4.out.trans (hb5.mono B4.out.size)); have R5 := Lib.hid (R4.out.keep hb5); have F5 := Lib.hid (F4.out.keep hb5); have V5 := Lib.hid (V4.out.keep hb5); clear hw5e hb5)
  clear R4 F4 V4
  have hB4 : w.heap.size ≤ W4.heap.size := B4.out.size
  clear B4
  generalize W4.heap.size = wb at *
  obtain ⟨P, hP⟩ : ∃ P, v.pat = P := ⟨_, rfl⟩
  have hv3 := V5.out.cell 3
  simp only [verbV, List.getElem?_cons_succ, List.getElem?_cons_zero] at hv3
  rw [hP] at hv3 hp1 hp3 hlast hna hnb HPL HLET
  have hps : (bs P).size = P.length := rfl
  have hlt1 : P.length - 1 < (bs P).size := by rw [hps]; omega
  have hpI : 1 ≤ (P.length : Int) ∧ (P.length : Int) - 1 < (P.length : Int) := ⟨by omega, by omega⟩
  have hlx := last_at P hp1 hlt1
  have hf5 := F5.out.cell 0
  simp only [List.getElem?_cons_zero] at hf5
  have HPP := Lib.hid hP
  clear hP
  have hnI : ¬ (m : Int) < (P.length : Int) := by omega
  have hnI2 : ¬ (P.length : Int) < (m : Int) := by omega
  have hv1 := V5.out.cell 1
  have hv2 := V5.out.cell 2
  simp only [verbV, List.getElem?_cons_succ, List.getElem?_cons_zero] at hv1 hv2
  have HFC : Hid (∀ k, k < P.length → w5.cell? ⟨wb, 1 + k, none⟩ = some (.string (bs (Fl.getD k [])))) := fun k hk => by rw [W5.out.cell]; exact HWC.out k (by omega)
  by_cases hj00 : j = 0
  · have hq : ((((bs P)[P.length - 1]).toNat : Int) == 116) = true := by
      have := (hlx.symm.trans (hlast.2 hj00))
      simp only [Option.some.injEq] at this
      rw [this]; rfl
    have hnB : decide (P.length < m) = false := decide_eq_false (by omega)
    have hnBI : decide ((P.length : Int) < (m : Int)) = false := decide_eq_false (by omega)
    clear hlx hlast hj00
    go_upto_region 15 with fail
    obtain ⟨Wa, hWa⟩ : ∃ Wa, w5.alloc (.cells (evC (Shl.ev0 v)).toArray 28) = Wa := ⟨_, rfl⟩
    have Ea : Hid (Row Wa w5.heap.size 28 (evC (Shl.ev0 v))) := by rw [← hWa]; exact Row.new w5 _ _
    have ba : Below w5.heap.size w5 Wa := by rw [← hWa]; exact balloc (Below.refl _ _) _
    have hwa : w5.heap.size < Wa.heap.size := by rw [← hWa]; simp
    have Ba := Lib.hid (B5.out.trans (ba.mono B5.out.size))
    have Ra := Lib.hid (R5.out.keep ba)
    have Fa := Lib.hid (F5.out.keep ba)
    have Va := Lib.hid (V5.out.keep ba)
    have Ca : Hid (∀ k, k < P.length → Wa.cell? ⟨wb, 1 + k, none⟩ = some (.string (bs (Fl.getD k [])))) := fun k hk => bkeep ba (HFC.out k hk)
    have ea : w5.alloc (.cells #[.int .i64 v.kind, .int .i64 0, .int .i64 0, .int .i64 v.cmd, .string ⟨#[]⟩, .string ⟨#[]⟩, .int .i64 0, .int .i64 0, .int .u64 0, .slice none 0 0, .slice none 0 0] 28) = Wa := hWa
    rw [ea]
    have HR := Lib.hid hna
    have ep : (bs P).size = P.length := rfl
    clear hWa ba ea hv1 hv2
    generalize w5.heap.size = eb at *
    have hcv := Lib.run_convert_string_bytes (P := Tryz.prog) Wa 9 26 5 (bs P) Tryz.underlying9 Tryz.underlying26 Tryz.underlying5
    have hva := Va.out.cell 3
    simp only [verbV, List.getElem?_cons_succ, List.getElem?_cons_zero] at hva
    rw [HPP.out] at hva
    go_upto_region 16 with fail
    obtain ⟨Wb, hWb⟩ : ∃ Wb, Lib.bytesWorld Wa 5 (bs P) = Wb := ⟨_, rfl⟩
    rw [hWb]
    clear hcv
    generalize grownCap Wa (bs P).size 0 5 = cb at *
    have bb : Below Wa.heap.size Wa Wb := by rw [← hWb]; exact Lib.bytesWorld_below _ _ _
    have Cb : Hid (∀ k, k < P.length → Wb.cell? ⟨Wa.heap.size, k, none⟩ = some (.int .u8 ((P.getD k 0).toNat : Int))) := fun k hk => by rw [← hWb]; exact Lib.bytesWorld_cell Wa _ (bs P) k hk
    have hwb : Wa.heap.size < Wb.heap.size := by rw [← hWb, Lib.bytesWorld_size]; omega
    have Bb := Lib.hid (Ba.out.trans (bb.mono Ba.out.size))
    have Rb := Lib.hid (Ra.out.keep bb)
    have Fb := Lib.hid (Fa.out.keep bb)
    have Eb := Lib.hid (Ea.out.keep bb)
    have Db : Hid (∀ k, k < P.length → Wb.cell? ⟨wb, 1 + k, none⟩ = some (.string (bs (Fl.getD k [])))) := fun k hk => bkeep bb (Ca.out k hk)
    clear hWb bb
    have HWAB := Lib.hid hwa
    generalize Wa.heap.size = bk at *
    have hme : m = P.length := by omega
    subst hme
    go_loopw [93] (fun iv wr => ∃ k : Nat, k ≤ P.length ∧ iv = .int .i64 k ∧ ∃ e, Shl.setAll (P.take k) (Fl.take k) (Shl.ev0 v) = some e ∧ Row wr eb 28 (evC e) ∧ Upd eb Wb wr) (fun iv _ => P.length - (intOf iv).toNat)
    case atStart => exact ⟨0, Nat.zero_le _, rfl, _, rfl, Eb.out, Upd.refl _ _⟩
    case round =>
      obtain ⟨k, hk, rfl, ev, hset, hrow, hupd⟩ := hrel
      have HSET := Lib.hid hset
      have HROW := Lib.hid hrow
      have HUPD := Lib.hid hupd
      have Br := Lib.hid (Upd.below' Bb.out hupd (by omega) (by omega))
      have Rr := Lib.hid (HUPD.out.row Rb.out (by omega))
      have Fr := Lib.hid (HUPD.out.row Fb.out (by omega))
      have hfr := Fr.out.cell 0
      simp only [List.getElem?_cons_zero] at hfr
      clear hset hrow hupd
      by_cases hlt : k < P.length
      · have hltI : (k : Int) < (P.length : Int) := by omega
        have hcb := HUPD.out.cell (Cb.out k hlt) (show bk ≠ eb by omega)
        have hcw := HUPD.out.cell (Db.out k hlt) (show wb ≠ eb by omega)
        obtain ⟨hst, hsn⟩ := Shl.setAll_step P Fl HFLL.out.symm (Shl.ev0 v) ev k hlt HSET.out
        have HST := Lib.hid hst
        have HSN := Lib.hid hsn
        have HLT : Hid (P.getD k 0 ∈ letters) := HLET.out _ (by simp [List.getD, hlt])
        have HSZ := Lib.hid (HFS.out k)
        clear hst hsn
        generalize P.getD k 0 = c at *
        generalize Fl.getD k [] = x2 at *
        obtain ⟨r, hr⟩ : ∃ r, Shl.setE c x2 ev = r := ⟨_, rfl⟩
        rw [hr] at HST HSN
        have HRR := Lib.hid hr
        clear hr
        have hx2 : (bs x2).size ≤ 281474976710656 := by have := HSZ.out; show x2.length ≤ _; omega
        cases r with
        | none =>
          have HPN : Hid (parseV s (Shl.parseL s.data.toList) = .tuple #[evV ev00, Errs.flt (bs f) 4]) := by
            show _ = _
            rw [HPL.out, HSN.out rfl, ← HF.out]
            rfl
          go_upto_region 19 with (go_at_call 37; refine (set_any eb c HLT.out (bs x2) hx2 ev _ (HG.out.below Br.out hz) HROW.out).mono ?_; rw [bs_data, HRR.out]; rintro e w8 ⟨rfl, hx8, hu8⟩; have B8 := Lib.hid (Upd.below' Br.out hu8 (by omega) Br.out.size); have R8 := Lib.hid (hu8.row Rr.out (by omega)); have F8 := Lib.hid (hu8.row Fr.out (by omega)); clear hx8 hu8)
          have hf8 := F8.out.cell 0
          simp only [List.getElem?_cons_zero] at hf8
          go_wp2_with (first
            | (go_at_call 35; refine (Errs.At_E _ _ (by decide) _ (HG.out.keep B8.out).et).mono ?_; rintro e w6 ⟨rfl, hb6⟩; have B6 := Lib.hid (B8.out.trans (hb6.mono B8.out.size)); have R6 := Lib.hid (R8.out.keep hb6); clear hb6)
            | (refine store_box rfl 28 (.tmp 2) (.tmp 105) (by rfl) w.heap.size (by rfl) (evC ev00) (by rfl) 28 (evC ev00) R6.out rfl (evSz _) (evOne _) ?_; intro w7 hr7 hu7; have R7 := Lib.hid hr7; have B7 := Lib.hid (Upd.below' B6.out hu7 (Nat.le_refl _) B6.out.size); clear hr7 hu7))
          refine ret_box rfl rfl w.heap.size rfl (evC ev00) R7.out Tryz.underlying28 rfl (evSz _) ?_
          exact ⟨by rw [HPN.out]; rfl, B7.out⟩
        | some e2 =>
          go_wp2_with (go_at_call 37; refine (set_any eb c HLT.out (bs x2) hx2 ev _ (HG.out.below Br.out hz) HROW.out).mono ?_; rw [bs_data, HRR.out]; rintro e w8 ⟨rfl, hx8, hu8⟩; have ROW8 := Lib.hid (hx8 e2 rfl); have U8 := Lib.hid (HUPD.out.trans hu8); clear hx8 hu8)
          exact ⟨⟨k + 1, by omega, by go_num, e2, HST.out, ROW8.out, U8.out⟩, by simp [intOf]; omega⟩
      · have hkn : k = P.length := by omega
        subst hkn
        have HPY : Hid (parseV s (Shl.parseL s.data.toList) = .tuple #[evV ev, .nilIface]) := by
          show _ = _
          have h1 := HSET.out
          rw [List.take_length, show Fl.take P.length = Fl from by rw [← HFLL.out, List.take_length]] at h1
          rw [HPL.out, h1]
          rfl
        go_wp2_with (first
          | (refine load_box rfl 28 (.tmp 11) (by rfl) eb (by rfl) (evC ev) 28 HROW.out _ Tryz.underlying28 rfl (evSz _) ?_)
          | (refine store_box rfl 28 (.tmp 2) (.tmp 110) (by rfl) w.heap.size (by rfl) (evC ev) (by rfl) 28 (evC ev00) Rr.out rfl (evSz _) (evOne _) ?_; intro w9 hr9 hu9; have R9 := Lib.hid hr9; have B9 := Lib.hid (Upd.below' Br.out hu9 (Nat.le_refl _) Br.out.size); clear hr9 hu9))
        refine ret_box rfl rfl w.heap.size rfl (evC ev) R9.out Tryz.underlying28 rfl (evSz _) ?_
        exact ⟨by rw [HPY.out]; rfl, B9.out⟩
  · have hq : ((((bs P)[P.length - 1]).toNat : Int) == 116) = false := by
      rw [beq_eq_false_iff_ne]
      intro h
      refine hj00 (hlast.1 (hlx.trans ?_))
      rw [Option.some.injEq]
      exact UInt8.toNat_inj.1 (by show _ = 116; omega)
    clear hlx hlast hj00
    go_upto_region 15 with fail
    obtain ⟨Wa, hWa⟩ : ∃ Wa, w5.alloc (.cells (evC (Shl.ev0 v)).toArray 28) = Wa := ⟨_, rfl⟩
    have Ea : Hid (Row Wa w5.heap.size 28 (evC (Shl.ev0 v))) := by rw [← hWa]; exact Row.new w5 _ _
    have ba : Below w5.heap.size w5 Wa := by rw [← hWa]; exact balloc (Below.refl _ _) _
    have hwa : w5.heap.size < Wa.heap.size := by rw [← hWa]; simp
    have Ba := Lib.hid (B5.out.trans (ba.mono B5.out.size))
    have Ra := Lib.hid (R5.out.keep ba)
    have Fa := Lib.hid (F5.out.keep ba)
    have Va := Lib.hid (V5.out.keep ba)
    have Ca : Hid (∀ k, k < P.length → Wa.cell? ⟨wb, 1 + k, none⟩ = some (.string (bs (Fl.getD k [])))) := fun k hk => bkeep ba (HFC.out k hk)
    have ea : w5.alloc (.cells #[.int .i64 v.kind, .int .i64 0, .int .i64 0, .int .i64 v.cmd, .string ⟨#[]⟩, .string ⟨#[]⟩, .int .i64 0, .int .i64 0, .int .u64 0, .slice none 0 0, .slice none 0 0] 28) = Wa := hWa
    rw [ea]
    have HR := Lib.hid hna
    have ep : (bs P).size = P.length := rfl
    clear hWa ba ea hv1 hv2
    generalize w5.heap.size = eb at *
    have hcv := Lib.run_convert_string_bytes (P := Tryz.prog) Wa 9 26 5 (bs P) Tryz.underlying9 Tryz.underlying26 Tryz.underlying5
    have hva := Va.out.cell 3
    simp only [verbV, List.getElem?_cons_succ, List.getElem?_cons_zero] at hva
    rw [HPP.out] at hva
    go_upto_region 16 with fail
    obtain ⟨Wb, hWb⟩ : ∃ Wb, Lib.bytesWorld Wa 5 (bs P) = Wb := ⟨_, rfl⟩
    rw [hWb]
    clear hcv
    generalize grownCap Wa (bs P).size 0 5 = cb at *
    have bb : Below Wa.heap.size Wa Wb := by rw [← hWb]; exact Lib.bytesWorld_below _ _ _
    have Cb : Hid (∀ k, k < P.length → Wb.cell? ⟨Wa.heap.size, k, none⟩ = some (.int .u8 ((P.getD k 0).toNat : Int))) := fun k hk => by rw [← hWb]; exact Lib.bytesWorld_cell Wa _ (bs P) k hk
    have hwb : Wa.heap.size < Wb.heap.size := by rw [← hWb, Lib.bytesWorld_size]; omega
    have Bb := Lib.hid (Ba.out.trans (bb.mono Ba.out.size))
    have Rb := Lib.hid (Ra.out.keep bb)
    have Fb := Lib.hid (Fa.out.keep bb)
    have Eb := Lib.hid (Ea.out.keep bb)
    have Db : Hid (∀ k, k < P.length → Wb.cell? ⟨wb, 1 + k, none⟩ = some (.string (bs (Fl.getD k [])))) := fun k hk => bkeep bb (Ca.out k hk)
    clear hWb bb
    have HWAB := Lib.hid hwa
    generalize Wa.heap.size = bk at *
    have hme : m = P.length := by omega
    subst hme
    go_loopw [93] (fun iv wr => ∃ k : Nat, k ≤ P.length ∧ iv = .int .i64 k ∧ ∃ e, Shl.setAll (P.take k) (Fl.take k) (Shl.ev0 v) = some e ∧ Row wr eb 28 (evC e) ∧ Upd eb Wb wr) (fun iv _ => P.length - (intOf iv).toNat)
    case atStart => exact ⟨0, Nat.zero_le _, rfl, _, rfl, Eb.out, Upd.refl _ _⟩
    case round =>
      obtain ⟨k, hk, rfl, ev, hset, hrow, hupd⟩ := hrel
      have HSET := Lib.hid hset
      have HROW := Lib.hid hrow
      have HUPD := Lib.hid hupd
      have Br := Lib.hid (Upd.below' Bb.out hupd (by omega) (by omega))
      have Rr := Lib.hid (HUPD.out.row Rb.out (by omega))
      have Fr := Lib.hid (HUPD.out.row Fb.out (by omega))
      have hfr := Fr.out.cell 0
      simp only [List.getElem?_cons_zero] at hfr
      clear hset hrow hupd
      by_cases hlt : k < P.length
      · have hltI : (k : Int) < (P.length : Int) := by omega
        have hcb := HUPD.out.cell (Cb.out k hlt) (show bk ≠ eb by omega)
        have hcw := HUPD.out.cell (Db.out k hlt) (show wb ≠ eb by omega)
        obtain ⟨hst, hsn⟩ := Shl.setAll_step P Fl HFLL.out.symm (Shl.ev0 v) ev k hlt HSET.out
        have HST := Lib.hid hst
        have HSN := Lib.hid hsn
        have HLT : Hid (P.getD k 0 ∈ letters) := HLET.out _ (by simp [List.getD, hlt])
        have HSZ := Lib.hid (HFS.out k)
        clear hst hsn
        generalize P.getD k 0 = c at *
        generalize Fl.getD k [] = x2 at *
        obtain ⟨r, hr⟩ : ∃ r, Shl.setE c x2 ev = r := ⟨_, rfl⟩
        rw [hr] at HST HSN
        have HRR := Lib.hid hr
        clear hr
        have hx2 : (bs x2).size ≤ 281474976710656 := by have := HSZ.out; show x2.length ≤ _; omega
        cases r with
        | none =>
          have HPN : Hid (parseV s (Shl.parseL s.data.toList) = .tuple #[evV ev00, Errs.flt (bs f) 4]) := by
            show _ = _
            rw [HPL.out, HSN.out rfl, ← HF.out]
            rfl
          go_upto_region 19 with (go_at_call 37; refine (set_any eb c HLT.out (bs x2) hx2 ev _ (HG.out.below Br.out hz) HROW.out).mono ?_; rw [bs_data, HRR.out]; rintro e w8 ⟨rfl, hx8, hu8⟩; have B8 := Lib.hid (Upd.below' Br.out hu8 (by omega) Br.out.size); have R8 := Lib.hid (hu8.row Rr.out (by omega)); have F8 := Lib.hid (hu8.row Fr.out (by omega)); clear hx8 hu8)
          have hf8 := F8.out.cell 0
          simp only [List.getElem?_cons_zero] at hf8
          go_wp2_with (first
            | (go_at_call 35; refine (Errs.At_E _ _ (by decide) _ (HG.out.keep B8.out).et).mono ?_; rintro e w6 ⟨rfl, hb6⟩; have B6 := Lib.hid (B8.out.trans (hb6.mono B8.out.size)); have R6 := Lib.hid (R8.out.keep hb6); clear hb6)
            | (refine store_box rfl 28 (.tmp 2) (.tmp 105) (by rfl) w.heap.size (by rfl) (evC ev00) (by rfl) 28 (evC ev00) R6.out rfl (evSz _) (evOne _) ?_; intro w7 hr7 hu7; have R7 := Lib.hid hr7; have B7 := Lib.hid (Upd.below' B6.out hu7 (Nat.le_refl _) B6.out.size); clear hr7 hu7))
          refine ret_box rfl rfl w.heap.size rfl (evC ev00) R7.out Tryz.underlying28 rfl (evSz _) ?_
          exact ⟨by rw [HPN.out]; rfl, B7.out⟩
        | some e2 =>
          go_wp2_with (go_at_call 37; refine (set_any eb c HLT.out (bs x2) hx2 ev _ (HG.out.below Br.out hz) HROW.out).mono ?_; rw [bs_data, HRR.out]; rintro e w8 ⟨rfl, hx8, hu8⟩; have ROW8 := Lib.hid (hx8 e2 rfl); have U8 := Lib.hid (HUPD.out.trans hu8); clear hx8 hu8)
          exact ⟨⟨k + 1, by omega, by go_num, e2, HST.out, ROW8.out, U8.out⟩, by simp [intOf]; omega⟩
      · have hkn : k = P.length := by omega
        subst hkn
        have HPY : Hid (parseV s (Shl.parseL s.data.toList) = .tuple #[evV ev, .nilIface]) := by
          show _ = _
          have h1 := HSET.out
          rw [List.take_length, show Fl.take P.length = Fl from by rw [← HFLL.out, List.take_length]] at h1
          rw [HPL.out, h1]
          rfl
        go_wp2_with (first
          | (refine load_box rfl 28 (.tmp 11) (by rfl) eb (by rfl) (evC ev) 28 HROW.out _ Tryz.underlying28 rfl (evSz _) ?_)
          | (refine store_box rfl 28 (.tmp 2) (.tmp 110) (by rfl) w.heap.size (by rfl) (evC ev) (by rfl) 28 (evC ev00) Rr.out rfl (evSz _) (evOne _) ?_; intro w9 hr9 hu9; have R9 := Lib.hid hr9; have B9 := Lib.hid (Upd.below' Br.out hu9 (Nat.le_refl _) Br.out.size); clear hr9 hu9))
        refine ret_box rfl rfl w.heap.size rfl (evC ev) R9.out Tryz.underlying28 rfl (evSz _) ?_
        exact ⟨by rw [HPY.out]; rfl, B9.out⟩
end Go.Proofs.YtojoeaaodomfnaaGreatDoor
