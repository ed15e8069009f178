/- Package sha: New, Write. -/
import Derived.Test.YticabllkadpmeaaGreatDoorSha2
import Derived.Test.YticabllkadpmeaaGreatDoorOwnA
namespace Go.Proofs.YticabllkadpmeaaGreatDoor
set_option linter.unusedVariables false
set_option linter.unusedSimpArgs false
set_option linter.unnecessarySimpa false
open Go.RowKit
set_option maxRecDepth 100000
set_option maxHeartbeats 4000000

theorem info_byte : (Tryz.prog.info? 5).map (fun i => (i.zero, i.size, i.bytes)) = some (some (.int .u8 0), 1, 1) := by kernel_rfl
theorem takes_more (s : Sha.St) (l m : List UInt8) : ∀ n, 64 * n ≤ l.length → s.takes (l ++ m) n = s.takes l n
  | 0, _ => rfl
  | n + 1, h => by
    show (s.takes (l ++ m) n).take _ = (s.takes l n).take _
    rw [takes_more s l m n (by omega), List.drop_append_of_le_length (by omega), List.take_append_of_le_length (by rw [List.length_drop]; omega)]
theorem Sh.head {w : World} {a : Option Addr} {n cap k : Nat} {l : List UInt8} (h : Sh w (.slice a n cap) l) (hk : k ≤ l.length) : Sh w (.slice a k cap) (l.take k) := by
  obtain ⟨h1, a', cap', hv, h2, h3, h4, h5⟩ := h
  simp only [Value.slice.injEq] at hv
  obtain ⟨rfl, rfl, rfl⟩ := hv
  have e : (l.take k).length = k := by simp; omega
  refine ⟨by simp, _, _, by rw [e], by omega, h3, h4, fun x hx j u hu => h5 x hx j u ?_⟩
  rw [bytes_get] at hu ⊢
  rw [List.getElem?_take] at hu
  split at hu
  · exact hu
  · simp at hu
/-- A hash of the bytes l so far: the object at block p. -/
def HashIs (w : World) (p : Nat) (l : List UInt8) : Prop := ∃ left, Row w p 93 (hashC (Sha.St.first.takes l (l.length / 64)) left l.length) ∧ OwnA w (p + 1) 5 left (l.drop (64 * (l.length / 64)))
theorem HashIs.lt {w : World} {p : Nat} {l : List UInt8} (h : HashIs w p l) : p < w.heap.size := by obtain ⟨_, h, -⟩ := h; exact h.lt
theorem HashIs.below {w w' : World} {B p : Nat} {l : List UInt8} (h : HashIs w p l) (hb : Below B w w') (hB : w.heap.size ≤ B) : HashIs w' p l := by
  obtain ⟨left, h1, h2⟩ := h
  exact ⟨left, Row.below h1 hb (by have := h1.lt; omega), h2.below hb hB⟩

theorem New_any (w : World) (hg : Glob w) :
    Calls Tryz.prog 27 #[] w fun e w' => e = .returned (.pointer (some ⟨w.heap.size, 0, none⟩)) ∧ HashIs w' w.heap.size [] ∧ Below w.heap.size w w' := by
  have g0 := hg.2.1 0 (by decide)
  have g1 := hg.2.1 1 (by decide)
  have g2 := hg.2.1 2 (by decide)
  have g3 := hg.2.1 3 (by decide)
  have g4 := hg.2.1 4 (by decide)
  have g5 := hg.2.1 5 (by decide)
  have g6 := hg.2.1 6 (by decide)
  have g7 := hg.2.1 7 (by decide)
  generalize h0 : u (Sha.first.getD 0 0) = x0 at *
  generalize h1 : u (Sha.first.getD 1 0) = x1 at *
  generalize h2 : u (Sha.first.getD 2 0) = x2 at *
  generalize h3 : u (Sha.first.getD 3 0) = x3 at *
  generalize h4 : u (Sha.first.getD 4 0) = x4 at *
  generalize h5 : u (Sha.first.getD 5 0) = x5 at *
  generalize h6 : u (Sha.first.getD 6 0) = x6 at *
  generalize h7 : u (Sha.first.getD 7 0) = x7 at *
  have HH := Lib.hid (And.intro h0 (And.intro h1 (And.intro h2 (And.intro h3 (And.intro h4 (And.intro h5 (And.intro h6 h7)))))))
  clear h0 h1 h2 h3 h4 h5 h6 h7 hg
  go_enter Tryz.func27, Tryz.ntmps27
  go_wp2_with fail
  go_ret
  refine ⟨rfl, ⟨.slice none 0 0, ?_, OwnA.nil _ _ _⟩, balloc (Below.refl _ _) _⟩
  obtain ⟨h0, h1, h2, h3, h4, h5, h6, h7⟩ := HH.out
  subst h0 h1 h2 h3 h4 h5 h6 h7
  exact Row.new w _ (hashC Sha.St.first (.slice none 0 0) 0)
def leftLen (w : World) (p : Nat) : Nat := match w.cell? ⟨p, 8, none⟩ with | some (.slice _ n _) => n | _ => 0
theorem hashC_set8 (s : Sha.St) (l l' : Value) (n : Nat) : (hashC s l n).set 8 l' = hashC s l' n := rfl
theorem hashC_set9 (s : Sha.St) (l : Value) (n n' : Nat) : (hashC s l n).set 9 (.int .u64 (n' : Int)) = hashC s l n' := rfl
theorem Addr.block_add (x : Addr) (j : Nat) : (x.add j).block = x.block := by unfold Addr.add; split <;> rfl
/-- Bytes are no cells of a hash: a store into it leaves them. -/
theorem Sh.hash_set {w : World} {p j : Nat} {s : Sha.St} {left v u : Value} {n : Nat} {m : List UInt8} (hs : Sh w v m) (hr : Row w p 93 (hashC s left n)) (hl : ∀ c : UInt8, left ≠ .int .u8 (c.toNat : Int)) : Sh (w.setCell ⟨p, j, none⟩ u) v m := by
  have hs0 := hs
  obtain ⟨b1, ax, cx, hv, b2, b3, b4, b5⟩ := hs
  refine ⟨b1, ax, cx, hv, b2, b3, b4, fun x hx i q hq => ?_⟩
  have hc := b5 x hx i q hq
  by_cases hxp : x.block = p
  · exfalso
    have hi : i < m.length := by have := (List.getElem?_eq_some_iff.1 hq).1; simpa using this
    subst hx hv
    obtain ⟨xb, xo, hx2, -⟩ := hs0.cells (by omega)
    simp only [Option.some.injEq] at hx2
    subst hx2
    simp only at hxp
    subst hxp
    rw [Addr.add_lit, hr.cell, hashC_eq] at hc
    have : ∃ c : UInt8, q = .int .u8 (c.toNat : Int) := by
      rw [bytes_get] at hq
      cases hm : m[i]? with
      | none => rw [hm] at hq; cases hq
      | some c => rw [hm] at hq; exact ⟨c, by simpa using hq.symm⟩
    obtain ⟨c, rfl⟩ := this
    have hlc := hl c
    match xo + i, hc with
    | 0, hc | 1, hc | 2, hc | 3, hc | 4, hc | 5, hc | 6, hc | 7, hc | 9, hc => simp at hc
    | 8, hc => simp at hc; exact hlc hc
    | n + 10, hc => simp at hc
  · rw [World.cell?_setCell_far _ _ _ _ (fun e => hxp (by rw [← Addr.block_add x i]; exact e.symm))]; exact hc
theorem Write_any (p : Nat) (v : Value) (l m : List UInt8) (w : World) (hg : Glob w) (hp : 3 ≤ p) (hh : HashIs w p l) (hs : Sh w v m) (hsz : l.length + m.length ≤ 140737488355328) :
    Calls Tryz.prog 30 #[.pointer (some ⟨p, 0, none⟩), v] w fun e w' => e = .returned (.tuple #[]) ∧ HashIs w' p (l ++ m) ∧ Below p w w' := by
  obtain ⟨left, hr, ho⟩ := hh
  have hk0 : 64 * (l.length / 64) ≤ l.length := Nat.mul_div_le _ _
  have hdl : (l.drop (64 * (l.length / 64))).length ≤ l.length := by rw [List.length_drop]; omega
  have hfull : l.drop (64 * (l.length / 64)) ++ m = (l ++ m).drop (64 * (l.length / 64)) := (List.drop_append_of_le_length hk0).symm
  obtain ⟨Fl, hFl⟩ : ∃ Fl, l ++ m = Fl := ⟨_, rfl⟩
  rw [hFl] at hfull ⊢
  have HFL := Lib.hid hFl
  obtain ⟨D0, hD0⟩ : ∃ D0, Fl.drop (64 * (l.length / 64)) = D0 := ⟨_, rfl⟩
  rw [hD0] at hfull
  have HD0 := Lib.hid hD0
  have HF := Lib.hid hfull
  clear hD0
  have HK := Lib.hid hk0
  clear hfull
  generalize l.drop (64 * (l.length / 64)) = L0 at *
  obtain ⟨xl, cl, rfl, -, -, -, -⟩ := ho.sh.open
  obtain ⟨xm, cm, rfl, -, -, -, -⟩ := hs.open
  have hpl := hr.lt
  have q8 := Row.cell hr 8
  have q9 := Row.cell hr 9
  have f9 := Row.frozen hr 9
  simp only [hashC_eq, List.getElem?_cons_succ, List.getElem?_cons_zero] at q8 q9
  obtain ⟨N, hN⟩ : ∃ N, l.length + m.length = N := ⟨_, rfl⟩
  have hcnt : (l.length : Int) + (m.length : Int) = (N : Int) := by omega
  have hln : Fl.length = N := by rw [← hFl, List.length_append]; exact hN
  -- the count
  have hr1 := hr.set 9 (.int .u64 (N : Int))
  rw [hashC_set9] at hr1
  have hs1 := hs.hash_set (j := 9) (u := .int .u64 (N : Int)) hr (fun c => by simp)
  have ho1 := ho.set_other (p := p) (j := 9) hr (by decide) (.int .u64 (N : Int))
  have hb1 : Below p w (w.setCell ⟨p, 9, none⟩ (.int .u64 (N : Int))) := (Below.refl p w).setCell (p := ⟨p, 9, none⟩) (Nat.le_refl _) _
  have q8' := Row.cell hr1 8
  simp only [hashC_eq, List.getElem?_cons_succ, List.getElem?_cons_zero] at q8'
  have HR1 := Lib.hid hr1
  have HS1 := Lib.hid hs1
  have HO1 := Lib.hid ho1
  have HB1 := Lib.hid hb1
  have HG := Lib.hid hg
  have HSZ := Lib.hid hsz
  have HDL := Lib.hid hdl
  have hwr : IntKind.u64.wrap ((l.length : Int) + (m.length : Int)) = (N : Int) := by rw [hcnt]; exact IntWalk.u64_in _ ⟨by omega, by omega⟩
  have hwm : IntKind.u64.wrap (m.length : Int) = (m.length : Int) := IntWalk.u64_in _ ⟨by omega, by omega⟩
  have HN := Lib.hid hN
  have HLN := Lib.hid hln
  clear hr ho hr1 hs1 ho1 hb1 hs hg hsz hN hln hcnt hdl hk0 hFl
  go_enter Tryz.func30, Tryz.ntmps30
  go_upto_region 1 with fail
  clear q8 q9 f9 hwr hwm
  generalize w.setCell ⟨p, 9, none⟩ (.int .u64 (N : Int)) = w1 at *
  have f8 := Row.frozen HR1.out 8
  go_wp2_with (at_builtin; refine app_ownA Tryz.underlying64 info_byte rfl (.tmp 18) (.tmp 19) rfl rfl HO1.out rfl HS1.out (by have := HDL.out; have := HSZ.out; omega) (by have := HR1.out.lt; omega) ?_; intro v2 w2 ho2 hb2; rw [HF.out] at ho2; obtain ⟨x2, k2, rfl, -, -, -, -⟩ := ho2.sh.open; have R2 := Lib.hid (Row.below HR1.out hb2 (by omega)); have g8 := Row.frozen R2.out 8; have c8 := Row.cell R2.out 8; simp only [hashC_eq, List.getElem?_cons_succ, List.getElem?_cons_zero] at c8)
  have hF0 : Sha.St.first.takes l (l.length / 64) = Sha.St.first.takes Fl (l.length / 64) := by rw [← HFL.out]; exact (takes_more _ l m _ HK.out).symm
  have hR3 : Row (w2.setCell ⟨p, 8, none⟩ (.slice x2 D0.length k2)) p 93 (hashC (Sha.St.first.takes Fl (l.length / 64)) (.slice x2 D0.length k2) N) := by
    rw [← hF0]; exact R2.out.set 8 _
  have hO3 : OwnA (w2.setCell ⟨p, 8, none⟩ (.slice x2 D0.length k2)) (p + 1) 5 (.slice x2 D0.length k2) (Fl.drop (64 * (l.length / 64))) := by
    rw [HD0.out]; exact ho2.set_other R2.out (by decide) _
  have hB3 : Below p w (w2.setCell ⟨p, 8, none⟩ (.slice x2 D0.length k2)) := (HB1.out.trans (hb2.mono (Nat.le_succ _))).setCell (p := ⟨p, 8, none⟩) (Nat.le_refl _) _
  have hk0 : 64 * (l.length / 64) ≤ Fl.length := by have := HK.out; rw [← HFL.out, List.length_append]; omega
  generalize w2.setCell ⟨p, 8, none⟩ (.slice x2 D0.length k2) = w3 at *
  generalize l.length / 64 = k0 at *
  clear hb2 ho2 R2 g8 c8 f8 q8' HO1 HS1 HR1 HB1
  go_loopw [] (fun wr => ∃ (k : Nat) (left : Value), 64 * k ≤ Fl.length ∧ Row wr p 93 (hashC (Sha.St.first.takes Fl k) left N) ∧ OwnA wr (p + 1) 5 left (Fl.drop (64 * k)) ∧ Below p w wr) (fun wr => leftLen wr p)
  case atStart => exact ⟨k0, _, hk0, hR3, hO3, hB3⟩
  case round =>
    clear hk0 hR3 hO3 hB3
    obtain ⟨k, left, hk, r0, o0, b0⟩ := hrel
    have hdn : Fl.drop (64 * (k + 1)) = (Fl.drop (64 * k)).drop 64 := by rw [List.drop_drop]; congr 1
    have hdt : Sha.St.first.takes Fl (k + 1) = (Sha.St.first.takes Fl k).take ((Fl.drop (64 * k)).take 64) := rfl
    have hdl : (Fl.drop (64 * k)).length = N - 64 * k := by rw [List.length_drop, HLN.out]
    obtain ⟨D, hD⟩ : ∃ D, Fl.drop (64 * k) = D := ⟨_, rfl⟩
    have HDD := Lib.hid hD
    rw [hD] at hdn hdt hdl o0
    obtain ⟨x, c, rfl, hDc, -, -, -⟩ := o0.sh.open
    have c8 := Row.cell r0 8
    have f8 := Row.frozen r0 8
    simp only [hashC_eq, List.getElem?_cons_succ, List.getElem?_cons_zero] at c8
    have hlen0 : leftLen wr p = D.length := by unfold leftLen; rw [c8]
    obtain ⟨S, hS⟩ : ∃ S, Sha.St.first.takes Fl k = S := ⟨_, rfl⟩
    have HS := Lib.hid hS
    rw [hS] at r0 hdt
    clear hS
    have R0 := Lib.hid r0
    have O0 := Lib.hid o0
    have B0 := Lib.hid b0
    have HDN := Lib.hid hdn
    have HDT := Lib.hid hdt
    have HDLN := Lib.hid hdl
    have HL0 := Lib.hid hlen0
    have HKK := Lib.hid hk
    clear r0 o0 b0 hdn hdt hD hk hdl hlen0
    by_cases hlt : 64 ≤ D.length
    · have hI : (64 : Int) ≤ (D.length : Int) := by omega
      have hI2 : (64 : Int) ≤ (c : Int) := by omega
      obtain ⟨z, hz⟩ : ∃ z, (if c = 64 then x else x.map (fun x => (⟨x.block, x.off + 64, none⟩ : Addr))) = z := ⟨_, rfl⟩
      have HZ := Lib.hid hz
      have hpr := R0.out.lt
      go_wp2_with (go_at_call 54; refine (takes_any p S _ N _ (D.take 64) _ (Glob.below HG.out B0.out hp) R0.out (Sh.head O0.out.sh hlt) (by simp; omega) hp).mono ?_; rintro e w4 ⟨rfl, r4, u4⟩; have c84 := Row.cell r4 8; have f84 := Row.frozen r4 8; simp only [hashC_eq, List.getElem?_cons_succ, List.getElem?_cons_zero] at c84; have R4 := Lib.hid r4; have U4 := Lib.hid u4; clear r4 u4)
      have hO5 := ((O0.out.grown U4.out R0.out (by decide)).cut (by omega) hz (by decide)).set_other (p := p) (j := 8) R4.out (by decide) (.slice z (D.length - 64) (c - 64))
      refine ⟨⟨k + 1, .slice z (D.length - 64) (c - 64), by have := HDLN.out; have := HKK.out; have := HLN.out; omega, ?_, ?_, ?_⟩, ?_⟩
      · rw [HDT.out]; exact R4.out.set 8 _
      · rw [HDN.out]; exact hO5
      · exact (B0.out.trans (Upd.below U4.out (Nat.le_refl _) (Nat.le_of_lt hpr))).setCell (p := ⟨p, 8, none⟩) (Nat.le_refl _) _
      · rw [HL0.out]
        have : leftLen (w4.setCell ⟨p, 8, none⟩ (.slice z (D.length - 64) (c - 64))) p = D.length - 64 := by
          unfold leftLen
          rw [World.cell?_setCell_same' _ _ _ (by rw [c84]; rfl)]
        rw [this]; omega
    · have hI : ¬ (64 : Int) ≤ (D.length : Int) := by omega
      go_wp2_with fail
      go_end0
      refine ⟨rfl, ⟨.slice x D.length c, ?_, ?_⟩, B0.out⟩
      all_goals have hkN : Fl.length / 64 = k := by have := HDLN.out; have := HKK.out; have := HLN.out; omega
      · rw [hkN, HLN.out, HS.out]; exact R0.out
      · rw [hkN, HDD.out]; exact O0.out
end Go.Proofs.YticabllkadpmeaaGreatDoor
