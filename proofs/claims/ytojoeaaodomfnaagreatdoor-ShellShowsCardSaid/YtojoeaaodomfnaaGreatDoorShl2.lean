/- Package shell: set; which verb a line begins with. (printed by gen/shl2.py) -/
import Derived.Test.YtojoeaaodomfnaaGreatDoorShl1
namespace Go.Proofs.YtojoeaaodomfnaaGreatDoor
set_option linter.unusedVariables false
set_option linter.unusedSimpArgs false
set_option linter.unnecessarySimpa false
open Go.RowKit
set_option maxRecDepth 100000
set_option maxHeartbeats 4000000

/-- An event's cells. -/
def evC (e : Shl.Ev) : List Value := [.int .i64 e.kind, .int .i64 e.a, .int .i64 e.b, .int .i64 e.ck, .string (bs e.subj), .string (bs e.text), .int .i64 e.n, .int .i64 0, .int .u64 0, .slice none 0 0, .slice none 0 0]
def SetQ (b : Nat) (w : World) (r : Option Shl.Ev) (e : Ending) (w' : World) : Prop := e = .returned (.bool r.isSome) ∧ (∀ x, r = some x → Row w' b 28 (evC x)) ∧ Upd b w w'
theorem set_r (b : Nat) (s : ByteArray) (hs : s.size ≤ 281474976710656) (e : Shl.Ev) (w : World) (hg : Gl w) (hr : Row w b 28 (evC e)) :
    Calls Tryz.prog 37 #[.pointer (some ⟨b, 0, none⟩), .int .u8 114, .string s] w (SetQ b w (Shl.setE 114 s.data.toList e)) := by
  have HG := Lib.hid hg
  have HR := Lib.hid hr
  have hrl := hr.lt
  rw [Shl.setE_r]
  obtain ⟨x, hx⟩ : ∃ x, Shl.numL s.data.toList = x := ⟨_, rfl⟩
  have HX := Lib.hid hx
  clear hg hr hx
  cases x with
  | none =>
    go_enter Tryz.func37, Tryz.ntmps37
    go_wp2_with (go_at_call 49; refine (number_any s hs _ HG.out).mono ?_; rintro en w1 ⟨v, rfl, hv, hb1⟩; have B1 := Lib.hid hb1; clear hb1; rw [HX.out]; have HV := Lib.hid hv; clear hv; have R1 := Lib.hid (HR.out.keep B1.out); have hc1 := R1.out.cell 1; simp only [evC, List.getElem?_cons_zero, List.getElem?_cons_succ] at hc1; have hf1 := R1.out.frozen 1)
    go_ret
    rw [HX.out]
    exact ⟨rfl, fun x hx => (by cases hx), (Upd.of_below B1.out).trans (Upd.set _ _ _ _)⟩
  | some n =>
    go_enter Tryz.func37, Tryz.ntmps37
    go_wp2_with (go_at_call 49; refine (number_any s hs _ HG.out).mono ?_; rintro en w1 ⟨v, rfl, hv, hb1⟩; have B1 := Lib.hid hb1; clear hb1; obtain rfl := hv n HX.out; rw [HX.out]; have R1 := Lib.hid (HR.out.keep B1.out); have hc1 := R1.out.cell 1; simp only [evC, List.getElem?_cons_zero, List.getElem?_cons_succ] at hc1; have hf1 := R1.out.frozen 1)
    go_ret
    rw [HX.out]
    refine ⟨rfl, fun x hx => ?_, (Upd.of_below B1.out).trans (Upd.set _ _ _ _)⟩
    simp only [Option.map_some, Option.some.injEq] at hx
    subst hx
    exact R1.out.set 1 _
theorem set_b (b : Nat) (s : ByteArray) (hs : s.size ≤ 281474976710656) (e : Shl.Ev) (w : World) (hg : Gl w) (hr : Row w b 28 (evC e)) :
    Calls Tryz.prog 37 #[.pointer (some ⟨b, 0, none⟩), .int .u8 98, .string s] w (SetQ b w (Shl.setE 98 s.data.toList e)) := by
  have HG := Lib.hid hg
  have HR := Lib.hid hr
  have hrl := hr.lt
  rw [Shl.setE_b]
  obtain ⟨x, hx⟩ : ∃ x, Shl.numL s.data.toList = x := ⟨_, rfl⟩
  have HX := Lib.hid hx
  clear hg hr hx
  cases x with
  | none =>
    go_enter Tryz.func37, Tryz.ntmps37
    go_wp2_with (go_at_call 49; refine (number_any s hs _ HG.out).mono ?_; rintro en w1 ⟨v, rfl, hv, hb1⟩; have B1 := Lib.hid hb1; clear hb1; rw [HX.out]; have HV := Lib.hid hv; clear hv; have R1 := Lib.hid (HR.out.keep B1.out); have hc1 := R1.out.cell 2; simp only [evC, List.getElem?_cons_zero, List.getElem?_cons_succ] at hc1; have hf1 := R1.out.frozen 2)
    go_ret
    rw [HX.out]
    exact ⟨rfl, fun x hx => (by cases hx), (Upd.of_below B1.out).trans (Upd.set _ _ _ _)⟩
  | some n =>
    go_enter Tryz.func37, Tryz.ntmps37
    go_wp2_with (go_at_call 49; refine (number_any s hs _ HG.out).mono ?_; rintro en w1 ⟨v, rfl, hv, hb1⟩; have B1 := Lib.hid hb1; clear hb1; obtain rfl := hv n HX.out; rw [HX.out]; have R1 := Lib.hid (HR.out.keep B1.out); have hc1 := R1.out.cell 2; simp only [evC, List.getElem?_cons_zero, List.getElem?_cons_succ] at hc1; have hf1 := R1.out.frozen 2)
    go_ret
    rw [HX.out]
    refine ⟨rfl, fun x hx => ?_, (Upd.of_below B1.out).trans (Upd.set _ _ _ _)⟩
    simp only [Option.map_some, Option.some.injEq] at hx
    subst hx
    exact R1.out.set 2 _
theorem set_n (b : Nat) (s : ByteArray) (hs : s.size ≤ 281474976710656) (e : Shl.Ev) (w : World) (hg : Gl w) (hr : Row w b 28 (evC e)) :
    Calls Tryz.prog 37 #[.pointer (some ⟨b, 0, none⟩), .int .u8 110, .string s] w (SetQ b w (Shl.setE 110 s.data.toList e)) := by
  have HG := Lib.hid hg
  have HR := Lib.hid hr
  have hrl := hr.lt
  rw [Shl.setE_n]
  obtain ⟨x, hx⟩ : ∃ x, Shl.numL s.data.toList = x := ⟨_, rfl⟩
  have HX := Lib.hid hx
  clear hg hr hx
  cases x with
  | none =>
    go_enter Tryz.func37, Tryz.ntmps37
    go_wp2_with (go_at_call 49; refine (number_any s hs _ HG.out).mono ?_; rintro en w1 ⟨v, rfl, hv, hb1⟩; have B1 := Lib.hid hb1; clear hb1; rw [HX.out]; have HV := Lib.hid hv; clear hv; have R1 := Lib.hid (HR.out.keep B1.out); have hc1 := R1.out.cell 6; simp only [evC, List.getElem?_cons_zero, List.getElem?_cons_succ] at hc1; have hf1 := R1.out.frozen 6)
    go_ret
    rw [HX.out]
    exact ⟨rfl, fun x hx => (by cases hx), (Upd.of_below B1.out).trans (Upd.set _ _ _ _)⟩
  | some n =>
    go_enter Tryz.func37, Tryz.ntmps37
    go_wp2_with (go_at_call 49; refine (number_any s hs _ HG.out).mono ?_; rintro en w1 ⟨v, rfl, hv, hb1⟩; have B1 := Lib.hid hb1; clear hb1; obtain rfl := hv n HX.out; rw [HX.out]; have R1 := Lib.hid (HR.out.keep B1.out); have hc1 := R1.out.cell 6; simp only [evC, List.getElem?_cons_zero, List.getElem?_cons_succ] at hc1; have hf1 := R1.out.frozen 6)
    go_ret
    rw [HX.out]
    refine ⟨rfl, fun x hx => ?_, (Upd.of_below B1.out).trans (Upd.set _ _ _ _)⟩
    simp only [Option.map_some, Option.some.injEq] at hx
    subst hx
    exact R1.out.set 6 _
theorem set_p (b : Nat) (s : ByteArray) (hs : s.size ≤ 281474976710656) (e : Shl.Ev) (w : World) (hg : Gl w) (hr : Row w b 28 (evC e)) :
    Calls Tryz.prog 37 #[.pointer (some ⟨b, 0, none⟩), .int .u8 112, .string s] w (SetQ b w (Shl.setE 112 s.data.toList e)) := by
  have HG := Lib.hid hg
  have HR := Lib.hid hr
  have hrl := hr.lt
  rw [Shl.setE_p]
  obtain ⟨x, hx⟩ : ∃ x, Shl.placeL s.data.toList = x := ⟨_, rfl⟩
  have HX := Lib.hid hx
  clear hg hr hx
  cases x with
  | none =>
    go_enter Tryz.func37, Tryz.ntmps37
    go_wp2_with (go_at_call 50; refine (place_any s _ HG.out).mono ?_; rintro en w1 ⟨v, rfl, hv, hb1⟩; subst hb1; have B1 := Lib.hid (Below.refl w.heap.size w); rw [HX.out]; have HV := Lib.hid hv; clear hv; have R1 := Lib.hid (HR.out.keep B1.out); have hc1 := R1.out.cell 6; simp only [evC, List.getElem?_cons_zero, List.getElem?_cons_succ] at hc1; have hf1 := R1.out.frozen 6)
    go_ret
    rw [HX.out]
    exact ⟨rfl, fun x hx => (by cases hx), (Upd.of_below B1.out).trans (Upd.set _ _ _ _)⟩
  | some n =>
    go_enter Tryz.func37, Tryz.ntmps37
    go_wp2_with (go_at_call 50; refine (place_any s _ HG.out).mono ?_; rintro en w1 ⟨v, rfl, hv, hb1⟩; subst hb1; have B1 := Lib.hid (Below.refl w.heap.size w); obtain rfl := hv n HX.out; rw [HX.out]; have R1 := Lib.hid (HR.out.keep B1.out); have hc1 := R1.out.cell 6; simp only [evC, List.getElem?_cons_zero, List.getElem?_cons_succ] at hc1; have hf1 := R1.out.frozen 6)
    go_ret
    rw [HX.out]
    refine ⟨rfl, fun x hx => ?_, (Upd.of_below B1.out).trans (Upd.set _ _ _ _)⟩
    simp only [Option.map_some, Option.some.injEq] at hx
    subst hx
    exact R1.out.set 6 _
theorem set_s (b : Nat) (s : ByteArray) (e : Shl.Ev) (w : World) (hr : Row w b 28 (evC e)) :
    Calls Tryz.prog 37 #[.pointer (some ⟨b, 0, none⟩), .int .u8 115, .string s] w (SetQ b w (Shl.setE 115 s.data.toList e)) := by
  have HR := Lib.hid hr
  have hc1 := hr.cell 4
  simp only [evC, List.getElem?_cons_zero, List.getElem?_cons_succ] at hc1
  have hf1 := hr.frozen 4
  rw [Shl.setE_s]
  clear hr
  go_enter Tryz.func37, Tryz.ntmps37
  go_wp2_with fail
  go_ret
  refine ⟨rfl, fun x hx => ?_, Upd.set _ _ _ _⟩
  simp only [Option.some.injEq] at hx
  subst hx
  exact HR.out.set 4 _
theorem set_t (b : Nat) (s : ByteArray) (e : Shl.Ev) (w : World) (hr : Row w b 28 (evC e)) :
    Calls Tryz.prog 37 #[.pointer (some ⟨b, 0, none⟩), .int .u8 116, .string s] w (SetQ b w (Shl.setE 116 s.data.toList e)) := by
  have HR := Lib.hid hr
  have hc1 := hr.cell 5
  simp only [evC, List.getElem?_cons_zero, List.getElem?_cons_succ] at hc1
  have hf1 := hr.frozen 5
  rw [Shl.setE_t]
  clear hr
  go_enter Tryz.func37, Tryz.ntmps37
  go_wp2_with fail
  go_ret
  refine ⟨rfl, fun x hx => ?_, Upd.set _ _ _ _⟩
  simp only [Option.some.injEq] at hx
  subst hx
  exact HR.out.set 5 _
def letters : List UInt8 := [114, 98, 110, 112, 115, 116]
theorem set_any (b : Nat) (c : UInt8) (hc : c ∈ letters) (s : ByteArray) (hs : s.size ≤ 281474976710656) (e : Shl.Ev) (w : World) (hg : Gl w) (hr : Row w b 28 (evC e)) :
    Calls Tryz.prog 37 #[.pointer (some ⟨b, 0, none⟩), .int .u8 (c.toNat : Int), .string s] w (SetQ b w (Shl.setE c s.data.toList e)) := by
  simp only [letters, List.mem_cons, List.not_mem_nil, or_false] at hc
  rcases hc with rfl | rfl | rfl | rfl | rfl | rfl
  · exact set_r b s hs e w hg hr
  · exact set_b b s hs e w hg hr
  · exact set_n b s hs e w hg hr
  · exact set_p b s hs e w hg hr
  · exact set_s b s e w hr
  · exact set_t b s e w hr

/-! ### the verbs -/
def dV : Shl.Verb := ⟨[], 0, 0, []⟩
theorem verb_cells (w : World) (hg : Gl w) (j : Nat) (hj : j < 15) :
    w.cell? ⟨0, j * 4, none⟩ = some (.string (bs (Shl.verbs.getD j dV).name)) ∧ w.cell? ⟨0, j * 4 + 1, none⟩ = some (.int .i64 (Shl.verbs.getD j dV).kind) ∧
    w.cell? ⟨0, j * 4 + 2, none⟩ = some (.int .i64 (Shl.verbs.getD j dV).cmd) ∧ w.cell? ⟨0, j * 4 + 3, none⟩ = some (.string (bs (Shl.verbs.getD j dV).pat)) := by
  have key : ∀ j, j < 15 → verbC[j * 4]? = some (.string (bs (Shl.verbs.getD j dV).name)) ∧ verbC[j * 4 + 1]? = some (.int .i64 (Shl.verbs.getD j dV).kind) ∧ verbC[j * 4 + 2]? = some (.int .i64 (Shl.verbs.getD j dV).cmd) ∧ verbC[j * 4 + 3]? = some (.string (bs (Shl.verbs.getD j dV).pat)) := by
    intro j hj
    match j, hj with
    | 0, _ => exact ⟨rfl, rfl, rfl, rfl⟩
    | 1, _ => exact ⟨rfl, rfl, rfl, rfl⟩
    | 2, _ => exact ⟨rfl, rfl, rfl, rfl⟩
    | 3, _ => exact ⟨rfl, rfl, rfl, rfl⟩
    | 4, _ => exact ⟨rfl, rfl, rfl, rfl⟩
    | 5, _ => exact ⟨rfl, rfl, rfl, rfl⟩
    | 6, _ => exact ⟨rfl, rfl, rfl, rfl⟩
    | 7, _ => exact ⟨rfl, rfl, rfl, rfl⟩
    | 8, _ => exact ⟨rfl, rfl, rfl, rfl⟩
    | 9, _ => exact ⟨rfl, rfl, rfl, rfl⟩
    | 10, _ => exact ⟨rfl, rfl, rfl, rfl⟩
    | 11, _ => exact ⟨rfl, rfl, rfl, rfl⟩
    | 12, _ => exact ⟨rfl, rfl, rfl, rfl⟩
    | 13, _ => exact ⟨rfl, rfl, rfl, rfl⟩
    | 14, _ => exact ⟨rfl, rfl, rfl, rfl⟩
  obtain ⟨h0, h1, h2, h3⟩ := key j hj
  exact ⟨hg.vb _ _ h0, hg.vb _ _ h1, hg.vb _ _ h2, hg.vb _ _ h3⟩
/-- Which verb: its number; below 0: none. -/
def idxV (f : List UInt8) : Int := match Shl.verbs.findIdx? (fun v => v.name == f) with | some i => (i : Int) | none => -1
theorem idxV_eq (f : List UInt8) (j : Nat) (hj : j < 15) (h1 : ∀ k, k < j → (Shl.verbs.getD k dV).name ≠ f) (h2 : (Shl.verbs.getD j dV).name = f) : idxV f = j := by
  unfold idxV
  have hl : Shl.verbs.length = 15 := rfl
  generalize Shl.verbs = V at *
  have : V.findIdx? (fun v => v.name == f) = some j := by
    rw [List.findIdx?_eq_some_iff_getElem]
    refine ⟨by omega, by simpa [List.getD, List.getElem?_eq_getElem (show j < V.length by omega)] using h2, fun k hk => ?_⟩
    have := h1 k hk
    simpa [List.getD, List.getElem?_eq_getElem (show k < V.length by omega)] using this
  simp only [this]
theorem idxV_none (f : List UInt8) (h1 : ∀ k, k < 15 → (Shl.verbs.getD k dV).name ≠ f) : idxV f = -1 := by
  have : Shl.verbs.findIdx? (fun v => v.name == f) = none := by
    rw [List.findIdx?_eq_none_iff]
    intro x hx
    obtain ⟨k, hk, rfl⟩ := List.mem_iff_getElem.1 hx
    have := h1 k hk
    simpa [List.getD, List.getElem?_eq_getElem hk] using this
  unfold idxV; rw [this]
theorem pick_any (f : ByteArray) (fb : Nat) (w : World) (hg : Gl w) (hf : w.cell? ⟨fb, 0, none⟩ = some (.string f)) :
    Calls Tryz.prog 33 #[.slice (some ⟨0, 0, none⟩) 15 15, .func (.func 34) #[] #[.pointer (some ⟨fb, 0, none⟩)]] w fun e w' => e = .returned (.int .i64 (idxV f.data.toList)) ∧ Below w.heap.size w w' := by
  have HG := Lib.hid hg
  have HF := Lib.hid hf
  clear hg hf
  go_enter Tryz.func33, Tryz.ntmps33
  go_wp2_with fail
  go_loopw [8] (fun iv wr => ∃ j : Nat, j ≤ 15 ∧ iv = .int .i64 j ∧ (∀ k, k < j → (Shl.verbs.getD k dV).name ≠ f.data.toList) ∧ Below w.heap.size w wr) (fun iv _ => 15 - (intOf iv).toNat)
  case atStart => exact ⟨0, Nat.zero_le _, rfl, (fun k hk => by omega), Below.refl _ _⟩
  case round =>
    obtain ⟨j, hj, rfl, h1, hb⟩ := hrel
    have H1 := Lib.hid h1
    have HB := Lib.hid hb
    clear h1 hb
    by_cases hlt : j < 15
    · have hltI : (j : Int) < 15 := by omega
      have GR := Lib.hid (HG.out.keep HB.out)
      obtain ⟨hc0, hc1, hc2, hc3⟩ := verb_cells _ GR.out j hlt
      have hf1 := bkeep HB.out HF.out
      have hl0 := blt hf1
      generalize hv : Shl.verbs.getD j dV = v at *
      have HV := Lib.hid hv
      clear hv
      have hba : Below wr.heap.size wr (wr.alloc (.cells (verbV v).toArray 48)) := balloc (Below.refl _ _) _
      have hf2 := bkeep hba hf1
      have HBA := Lib.hid (HB.out.trans (hba.mono HB.out.size))
      clear hba
      by_cases he : v.name = f.data.toList
      · have hb : ((bs v.name).toList == f.toList) = true := by rw [toL, toL, beq_iff_eq]; exact he
        have HE : Hid (idxV f.data.toList = (j : Int)) := idxV_eq _ j hlt H1.out (by rw [HV.out]; exact he)
        clear he
        go_wp2
        go_ret
        exact ⟨by rw [HE.out]; rfl, HBA.out⟩
      · have hb : ((bs v.name).toList == f.toList) = false := by rw [toL, toL, beq_eq_false_iff_ne]; exact he
        have HE := Lib.hid he
        clear he
        go_wp2
        exact ⟨⟨j + 1, by omega, by go_num, fun k hk => by
          rcases Nat.lt_or_ge k j with h | h
          · exact H1.out k h
          · rw [show k = j by omega, HV.out]; exact HE.out, HBA.out⟩, by simp [intOf]; omega⟩
    · have hj15 : j = 15 := by omega
      subst hj15
      have HE := Lib.hid (idxV_none _ H1.out)
      go_wp2_with fail
      go_ret
      exact ⟨by rw [HE.out]; rfl, HB.out⟩
end Go.Proofs.YtojoeaaodomfnaaGreatDoor
