/- Of no program: an append touches one block alone. -/
import Derived.Test.YtkghkpkiodghiaaBase
import Derived.Test.YtkghkpkiodghiaaCrc
import Derived.Test.YtkghkpkiodghiaaPfxS
import Derived.Test.YtkghkpkiodghiaaOpen
namespace Go.Proofs.Ytkghkpkiodghiaa
set_option linter.unusedVariables false
set_option linter.unusedSimpArgs false
set_option linter.unnecessarySimpa false
open Go.RowKit

theorem Own.kept {w w' : World} {N e : Nat} {x : Value} {m : List UInt8} {row : Option Nat} (h : Own w N e x m) (hg : w.grownBy w' row) (hr : ∀ k, row = some k → k < N) : Own w' N e x m := by
 refine World.ownsRow.kept h hg ?_
 cases hx : x.ownBlock with
 | none => exact .inl rfl
 | some k =>
  refine .inr fun he => ?_
  have h1 := h.row k hx
  have h2 := hr k he.symm
  omega
theorem Own.lt {w : World} {N e : Nat} {x : Value} {m : List UInt8} (h : Own w N e x m) : ∀ k, x.ownBlock = some k → k < w.heap.size := fun k hk => (World.ownsRow.lt h k hk).2
section
variable {P : Program}
/-- 'app_bytes', and which block alone it touches. -/
theorem app_bytes_row {t e : TypeId} (ht : P.underlying t = some (.slice e)) (he : (P.info? e).map (fun i => (i.zero, i.size, i.bytes)) = some (some (.int .u8 0), 1, 1))
  {w : World} {ops : Array Oper} {rest : List Oper} {o : Oper} {a : Act} {Q : Exit → Act → World → Prop} (hgd : o.guard = none) (s x : Operand)
  (ho : o.op = .call { callee := .builtin .append, args := #[s, x], argTypes := #[t, t] })
  {base : Nat} {v sv : Value} {l m : List UInt8} (hs : a.eval s = v) (hown : Own w base e v l) (hx : a.eval x = sv) (hsh : Sh w sv m)
  (hlen : l.length + m.length ≤ 140737488355328) (hbase : base ≤ w.heap.size)
  (h : ∀ v' w', Own w' base e v' (l ++ m) → Below base w w' → w.grownBy w' v.ownBlock → wpList P ops Q rest (a.put o.dst v') w') : wpList P ops Q (o :: rest) a w := by
 obtain ⟨i, hi, hz0, hz1, hz2⟩ := info_parts he
 refine wpList_append_shows hgd s x t ho base e i (.int .u8 0) 1 1 ht hi hz0 hz1 hz2 rfl (by decide) v _ _ hs hown sv _ _ hx hsh (bytes_one _) (by simp only [maxLen]; omega) (by omega) hbase ?_
 intro v' w' h1 h2
 refine h v' w' ?_ ((Below.refl _ _).grown h2 hbase hown.row) h2
 unfold Own
 rw [bytes_append, List.length_append]; exact h1
end
end Go.Proofs.Ytkghkpkiodghiaa
namespace Go.Proofs.Ytkghkpkiodghiaa
set_option linter.unusedVariables false
set_option linter.unusedSimpArgs false
set_option linter.unnecessarySimpa false
open Go.RowKit
set_option maxRecDepth 100000
set_option maxHeartbeats 4000000

/-- What a frame's sum is of, and a frame. -/
def fB (d : List UInt8) : List UInt8 := enc d.length ++ d
def frameB (d : List UInt8) : List UInt8 := fB d ++ sumB (onL 4294967295 (fB d))
theorem fB_length (d : List UInt8) (h : d.length ≤ 1048576) : (fB d).length = nsize d.length + d.length := by
 unfold fB; rw [List.length_append, enc_length _ (by omega)]
theorem frameB_length (d : List UInt8) (h : d.length ≤ 1048576) : (frameB d).length = nsize d.length + d.length + 4 := by
 unfold frameB; rw [List.length_append, fB_length d h]; rfl
theorem Putf_any (v dv : Value) (b d : List UInt8) (w : World) (h : Sh w v b) (hd : Sh w dv d) (hl : b.length + d.length + 100 ≤ 140737488355328) (hs : d.length ≤ 1048576) :
  Calls Try.prog 46 #[v, dv] w fun e w' => ∃ v', e = .returned (.tuple #[v', .int .i64 0]) ∧ Own w' w.heap.size 5 v' (b ++ frameB d) ∧ Below w.heap.size w w' := by
 obtain ⟨x, cap, rfl, g1, g2, g3, g4⟩ := hd.open
 have HD := Lib.hid g4
 clear g3 g4 hd
 have hI : ¬ 1048576 < (d.length : Int) := by omega
 have hfl := fB_length d hs
 have hns := nsize_le d.length
 have HFL := Lib.hid hfl
 have HNS := Lib.hid hns
 have hsm := onL_lt 4294967295 (by omega) (fB d)
 have HFB := Lib.hid (show frameB d = fB d ++ sumB (onL 4294967295 (fB d)) from rfl)
 have HF := Lib.hid (show fB d = enc d.length ++ d from rfl)
 clear hfl hns
 go_enter Try.func46, Try.ntmps46
 go_upto_region 4 with (go_at_call 37; refine (clone_any v b _ h (by omega)).mono ?_; rintro e w1 ⟨v1, rfl, ho1, hb1⟩; have hcv := conv_run (HD.out.below hb1))
 have s1 := hb1.size
 have HV := Lib.hid ho1.lt
 have O1 := Lib.hid ho1
 have B1 := Lib.hid hb1
 clear ho1 hb1
 go_wp2_with (first
  | (go_at_call 60; refine (PutText_any _ [] ⟨d.toArray⟩ _ (Sh.nil _) (by simp [ByteArray.size]; omega)).mono ?_; rintro e w2 ⟨v2, rfl, ho2, hb2⟩; have O2 := Lib.hid (show Own w2 w1.heap.size 5 v2 (fB d) from by simpa [fB, ByteArray.size] using ho2); have s2 := hb2.size; clear ho2)
  | (at_builtin; refine app_bytes_row (base := w.heap.size) Try.underlying27 info_byte rfl (.tmp 16) (.tmp 17) rfl rfl (O1.out.below hb2) rfl O2.out.sh (by have := HFL.out; have := HNS.out; omega) (by omega) ?_; intro v3 w3 ho3 hb3 hg3; have O3 := Lib.hid ho3; have N3 := Lib.hid (Own.kept O2.out hg3 HV.out); have s3 := hb3.size; clear ho3 hg3)
  | (go_at_call 62; refine (Sum_any v2 (fB d) _ N3.out.sh).mono ?_; rintro e w4 ⟨rfl, hb4⟩; have s4 := hb4.size)
  | (go_at_call 61; refine (Bytes_any _ hsm _).mono ?_; rintro e w5 ⟨v5, rfl, ho5, hb5⟩; have s5 := hb5.size)
  | (at_builtin; refine app_bytes (base := w.heap.size) Try.underlying27 info_byte rfl (.tmp 18) (.tmp 21) rfl rfl ((O3.out.below hb4).below hb5) rfl ho5.sh (by have := HFL.out; have := HNS.out; simp [sumB]; omega) (by omega) ?_; intro v6 w6 ho6 hb6))
 go_ret2
 refine ⟨v6, rfl, ?_, ?_⟩
 ·rw [HFB.out, ← List.append_assoc]; exact ho6
 ·exact ((B1.out.trans (hb2.mono s1)).trans hb3).trans ((hb4.mono (by omega)).trans ((hb5.mono (by omega)).trans hb6))
end Go.Proofs.Ytkghkpkiodghiaa
namespace Go.Proofs.Ytkghkpkiodghiaa
set_option linter.unusedVariables false
set_option linter.unusedSimpArgs false
set_option linter.unnecessarySimpa false
open Go.RowKit
set_option maxRecDepth 100000
set_option maxHeartbeats 4000000

def sizeF (n : Int) : Int := if n < 0 ∨ 1048576 < n then 0 else (nsize n.toNat : Int) + n + 4
theorem sizeF_of (d : List UInt8) (h : d.length ≤ 1048576) : sizeF (d.length : Int) = ((frameB d).length : Int) := by
 unfold sizeF
 rw [if_neg (by omega), frameB_length d h, Int.toNat_natCast]
 omega
theorem Sizef_any (n : Int) (w : World) : Calls Try.prog 42 #[.int .i64 n] w fun e w' => e = .returned (.int .i64 (sizeF n)) ∧ w' = w := by
 by_cases h0 : n < 0
 ·have he : sizeF n = 0 := by unfold sizeF; rw [if_pos (.inl h0)]
  rw [he]
  go_enter Try.func42, Try.ntmps42
  go_wp2_with fail
  go_ret
  exact ⟨rfl, rfl⟩
 ·by_cases h1 : 1048576 < n
  ·have he : sizeF n = 0 := by unfold sizeF; rw [if_pos (.inr h1)]
   rw [he]
   go_enter Try.func42, Try.ntmps42
   go_wp2_with fail
   go_ret
   exact ⟨rfl, rfl⟩
  ·have he : sizeF n = (nsize n.toNat : Int) + n + 4 := by unfold sizeF; rw [if_neg (by omega)]
   have hw := IntWalk.u64_in n ⟨by omega, by omega⟩
   have hns := nsize_le n.toNat
   have h0' : 0 ≤ n := by omega
   rw [he]
   clear he
   go_enter Try.func42, Try.ntmps42
   go_wp2_with (go_at_call 57; refine (size_any n h0' _).mono ?_; rintro e w1 ⟨rfl, rfl⟩)
   go_ret
   exact ⟨rfl, rfl⟩
def frames (Ls : List (List UInt8)) : List UInt8 := Ls.flatMap frameB
end Go.Proofs.Ytkghkpkiodghiaa
