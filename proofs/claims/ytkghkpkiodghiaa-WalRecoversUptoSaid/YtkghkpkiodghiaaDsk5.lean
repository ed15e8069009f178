/- The disk: the law DiskWhole. (printed by gen/dsk5.py) -/
import Derived.Test.YtkghkpkiodghiaaDsk4
namespace Go.Proofs.Ytkghkpkiodghiaa
set_option linter.unusedVariables false
set_option linter.unusedSimpArgs false
set_option linter.unnecessarySimpa false
open Go.RowKit
set_option maxRecDepth 100000
set_option maxHeartbeats 4000000

theorem and_one (x : Int) : bits .and .i64 x 1 = 0 ∨ bits .and .i64 x 1 = 1 := by
  have h : (BitVec.ofInt 64 x &&& BitVec.ofInt 64 1).toNat = (BitVec.ofInt 64 x).toNat % 2 := by
    rw [BitVec.toNat_and]
    have : (BitVec.ofInt 64 1).toNat = 1 := by decide
    rw [this, Nat.and_one_is_mod]
  show IntKind.i64.wrap ((BitVec.ofInt 64 x &&& BitVec.ofInt 64 1).toNat : Int) = 0 ∨ IntKind.i64.wrap ((BitVec.ofInt 64 x &&& BitVec.ofInt 64 1).toNat : Int) = 1
  rw [h, IntWalk.i64_in _ ⟨by omega, by omega⟩]
  omega
/-- 'append([]byte{}, l...)' as a step of a region that draws. -/
theorem step_app_own {P : Program} {t e : TypeId} (ht : P.underlying t = some (.slice e)) (he : (P.info? e).map (fun i => (i.zero, i.size, i.bytes)) = some (some (.int .u8 0), 1, 1))
    {ops : Array Oper} {o : Oper} {a : Act} {w : World} {K : Act → World → Prop} {Q : Exit → Act → World → Prop} {E : Prop} (hw : Region.wanted o (yielded ops a.tmps) = true) (s x : Operand)
    (ho : o.op = .call { callee := .builtin .append, args := #[s, x], argTypes := #[t, t] })
    {g : Nat} {sv : Value} {m : List UInt8} (hs : a.eval s = .slice (some ⟨g, 0, none⟩) 0 0) (hg : Row w g e []) (hx : a.eval x = sv) (hsh : Sh w sv m) (hlen : m.length ≤ 140737488355328)
    (h : ∀ v' w', Own w' g e v' m → Below w.heap.size w w' → K (a.put o.dst v') w') : if Region.wanted o (yielded ops a.tmps) = true then Oper.wp P o a w K Q else E := by
  rw [if_pos hw]
  obtain ⟨i, hi, hz0, hz1, hz2⟩ := info_parts he
  obtain ⟨v', w', hr, g1, g2⟩ := run_app_fresh (P := P) w t o.type e i (.int .u8 0) 1 1 ht hi hz0 hz1 hz2 rfl (by decide) g hg sv _ _ hsh (bytes_one _) (by simp only [maxLen]; omega) (by omega)
  unfold Oper.wp
  simp [execOp, ho, resolve, invoke, builtin, hs, hx, hr, Result.andThen]
  exact h v' w' g1 g2
theorem app_own_w {P : Program} {t e : TypeId} (ht : P.underlying t = some (.slice e)) (he : (P.info? e).map (fun i => (i.zero, i.size, i.bytes)) = some (some (.int .u8 0), 1, 1))
    {ops : Array Oper} {rest : List Oper} {o : Oper} {a : Act} {w : World} {Q : Exit → Act → World → Prop} (hw : Region.wanted o (yielded ops a.tmps) = true) (s x : Operand)
    (ho : o.op = .call { callee := .builtin .append, args := #[s, x], argTypes := #[t, t] })
    {g : Nat} {sv : Value} {m : List UInt8} (hs : a.eval s = .slice (some ⟨g, 0, none⟩) 0 0) (hg : Row w g e []) (hx : a.eval x = sv) (hsh : Sh w sv m) (hlen : m.length ≤ 140737488355328)
    (h : ∀ v' w', Own w' g e v' m → Below w.heap.size w w' → wpList P ops Q rest (a.put o.dst v') w') : wpList P ops Q (o :: rest) a w :=
  wpList_step fun K hK => step_app_own ht he hw s x ho hs hg hx hsh hlen (fun v' w' h1 h2 => hK _ _ (h v' w' h1 h2))
theorem write_ok (S : PD) (n : Int) (b : List UInt8) (h1 : S.dead = false) (h2 : S.left ≠ 0) (h3 : n = 0 ∨ n = 1) (h4 : ¬ S.lim - S.tot < (b.length : Int)) : S.write n b = (if n = 0 then { S.tick with n0 := S.n0 ++ b } else { S.tick with n1 := S.n1 ++ b }, 0) := by
  unfold PD.write
  rw [if_neg (by rw [h1]; simpa using h2), if_neg (by omega), if_neg h4]
  split <;> rfl
theorem replace_ok (S : PD) (n : Int) (b : List UInt8) (h1 : S.dead = false) (h2 : S.left ≠ 0) (h3 : n = 0 ∨ n = 1) (h4 : ¬ S.lim - (S.tot - ((if n = 0 then S.n0 else S.n1).length : Int)) < (b.length : Int)) : S.replace n b = (if n = 0 then { S.tick with n0 := b, r0 := true } else { S.tick with n1 := b, r1 := true }, 0) := by
  unfold PD.replace
  rw [if_neg (by rw [h1]; simpa using h2), if_neg (by omega), if_neg h4]
  split <;> rfl
theorem sync_ok (S : PD) (n : Int) (h1 : S.dead = false) (h2 : S.left ≠ 0) (h3 : n = 0 ∨ n = 1) : S.sync n = (if n = 0 then { S.tick with f0 := S.n0, r0 := false } else { S.tick with f1 := S.n1, r1 := false }, 0) := by
  unfold PD.sync
  rw [if_neg (by rw [h1]; simpa using h2), if_neg (by omega)]
  split <;> rfl
end Go.Proofs.Ytkghkpkiodghiaa
