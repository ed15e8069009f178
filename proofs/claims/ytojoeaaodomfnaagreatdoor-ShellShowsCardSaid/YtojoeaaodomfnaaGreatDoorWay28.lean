/- fault.Way of an error of package api, wrapped; the law's 'lives'. -/
import Derived.Test.YtojoeaaodomfnaaGreatDoorLaw28
import Derived.Test.YtojoeaaodomfnaaGreatDoorRShl1
namespace Go.Proofs.YtojoeaaodomfnaaGreatDoor
set_option linter.unusedVariables false
set_option linter.unusedSimpArgs false
set_option linter.unnecessarySimpa false
open Go.RowKit
set_option maxRecDepth 100000
set_option maxHeartbeats 4000000
def wayR (w : World) (s : ByteArray) (n : Int) (ev ov : Value) (wr : World) : Prop :=
  (ev = Errs.flt s n ∧ ov = .slice none 0 0 ∧ Row wr w.heap.size 61 [.string ⟨#[]⟩, .nilIface] ∧ Below w.heap.size w wr)
  ∨ (ev = .iface 38 (.int .i64 n) ∧ (∃ g c, ov = .slice (some ⟨g, 0, none⟩) 1 c ∧ w.heap.size < g ∧ wr.cell? ⟨g, 0, none⟩ = some (.string s)) ∧ Row wr w.heap.size 61 [.string s, .iface 38 (.int .i64 n)] ∧ Below w.heap.size w wr)
def wayM : Value → Nat
  | .iface t _ => if t = 61 then 1 else 0
  | _ => 0
theorem Way_F (s : ByteArray) (n : Int) (w : World) (hg : Gl w) :
    Calls Tryz.prog 12 #[Errs.flt s n] w fun e w' => ∃ g c, e = .returned (.slice (some ⟨g, 0, none⟩) 1 c) ∧ w'.cell? ⟨g, 0, none⟩ = some (.string s) ∧ Below w.heap.size w w' := by
  have HG := Lib.hid hg
  clear hg
  go_enter Tryz.func12, Tryz.ntmps12
  go_upto_region 3 with fail
  go_loopw [0, 3] (fun ev ov wr => wayR w s n ev ov wr) (fun ev _ _ => wayM ev)
  case atStart => exact .inl ⟨rfl, rfl, Row.new w _ _, balloc (Below.refl _ _) _⟩
  case round =>
    rcases hrel with ⟨rfl, rfl, hr, hb⟩ | ⟨rfl, ⟨g, c, rfl, hgb, hc⟩, hr, hb⟩
    · have R1 := Lib.hid hr
      have B1 := Lib.hid hb
      have hs1 := hr.lt
      clear hr hb
      unfold Errs.flt
      go_wp2_with (first
        | (go_at_call 24; refine (Errs.as_FF w.heap.size s n [.string ⟨#[]⟩, .nilIface] _ (HG.out.keep B1.out).et R1.out rfl).mono ?_; rintro e w2 ⟨rfl, hu, hr⟩; have B2 := Lib.hid (Upd.below' B1.out hu (Nat.le_refl _) B1.out.size); have R2 := Lib.hid hr; have hs2 := hr.lt; have hc0 := hr.cell 0; have hc1 := hr.cell 1; simp only [List.getElem?_cons_zero, List.getElem?_cons_succ] at hc0 hc1; clear hu hr)
        | (at_builtin; go_loud (refine app_one (base := w.heap.size + 1) (l := []) (m := [.string s]) Tryz.underlying43 info_string rfl rfl (.tmp 8) (.tmp 11) rfl rfl (Own1.nil _ _ _) rfl ((Own1.lit w2 9 [.string s]).shows) (by intro q hq; simp at hq; subst hq; rfl) (by simp) (by simp) (by simp; omega) ?_; intro v9 w9 ho9 hb9; have R9 := Lib.hid ((R2.out.alloc _).below hb9 (Nat.lt_succ_self _)); have B9 := Lib.hid ((B2.out.alloc B2.out.size _).trans (hb9.mono (Nat.le_succ _))); have hc1 := R9.out.cell 1; have O9 := Lib.hid ho9; simp only [List.getElem?_cons_zero, List.getElem?_cons_succ] at hc1; clear ho9 hb9)))
      refine ⟨.inr ⟨rfl, ?_, R9.out, B9.out⟩, Nat.zero_lt_one⟩
      obtain ⟨-, h | ⟨g, cap, cur, hv, hg, hh, -, -, hcs, ht⟩⟩ := O9.out
      · exact absurd h.2 (by simp)
      · refine ⟨g, cap, by simpa using hv, hg, ?_⟩
        have hl : cur.toList[0]? = some (.string s) := by
          have := congrArg (fun l => l[0]?) ht
          simpa [List.getElem?_take] using this
        rw [cell_of_row _ _ _ _ _ _ hh]
        simpa using hl
    · have R1 := Lib.hid hr
      have B1 := Lib.hid hb
      have hs1 := hr.lt
      have C1 := Lib.hid hc
      clear hr hb hc
      go_wp2_with (go_at_call 24; refine (Errs.as_EF w.heap.size n [.string s, .iface 38 (.int .i64 n)] _ (HG.out.keep B1.out).et R1.out).mono ?_; rintro e w2 ⟨rfl, hu, hr⟩; have B2 := Lib.hid (Upd.below' B1.out hu (Nat.le_refl _) B1.out.size); have C2 := Lib.hid (World.grownBy.cell hu C1.out (by simp; omega)); clear hu hr)
      go_ret
      exact ⟨g, c, rfl, C2.out, B2.out⟩
end Go.Proofs.YtojoeaaodomfnaaGreatDoor
