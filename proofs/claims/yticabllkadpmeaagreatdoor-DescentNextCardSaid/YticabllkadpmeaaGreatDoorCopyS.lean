/- Package sha: turned. -/
import Derived.Test.YticabllkadpmeaaGreatDoorRows
import Derived.Test.YticabllkadpmeaaGreatDoorRegion
import Derived.Test.YticabllkadpmeaaGreatDoorShaP
import Derived.Test.YticabllkadpmeaaGreatDoorBase
import Derived.Laws.CopyRow
import Derived.Laws.CopyOwn
namespace Go.Proofs.YticabllkadpmeaaGreatDoor
set_option linter.unusedVariables false
set_option linter.unusedSimpArgs false
set_option linter.unnecessarySimpa false
open Go.RowKit
set_option maxRecDepth 100000
set_option maxHeartbeats 4000000

/-- A word's number. -/
def u (x : UInt32) : Int := (x.toNat : Int)
theorem u_lt (x : UInt32) : 0 ≤ u x ∧ u x < 4294967296 := by have := x.toNat_lt; unfold u; omega
theorem u_xor (x y : UInt32) : bits .xor .u32 (u x) (u y) = u (x ^^^ y) := by
  have hx := x.toNat_lt
  have hy := y.toNat_lt
  have hz := (x ^^^ y).toNat_lt
  have h1 : (BitVec.ofInt 32 (x.toNat : Int)).toNat = x.toNat := by rw [BitVec.ofInt_natCast, BitVec.toNat_ofNat]; exact Nat.mod_eq_of_lt (by omega)
  have h2 : (BitVec.ofInt 32 (y.toNat : Int)).toNat = y.toNat := by rw [BitVec.ofInt_natCast, BitVec.toNat_ofNat]; exact Nat.mod_eq_of_lt (by omega)
  show IntKind.u32.wrap ((BitVec.ofInt 32 (x.toNat : Int) ^^^ BitVec.ofInt 32 (y.toNat : Int)).toNat : Int) = _
  rw [BitVec.toNat_xor, h1, h2, ← UInt32.toNat_xor, IntWalk.u32_in _ ⟨by omega, by omega⟩]; rfl
theorem u_and (x y : UInt32) : bits .and .u32 (u x) (u y) = u (x &&& y) := by
  have hx := x.toNat_lt
  have hy := y.toNat_lt
  have hz := (x &&& y).toNat_lt
  have h1 : (BitVec.ofInt 32 (x.toNat : Int)).toNat = x.toNat := by rw [BitVec.ofInt_natCast, BitVec.toNat_ofNat]; exact Nat.mod_eq_of_lt (by omega)
  have h2 : (BitVec.ofInt 32 (y.toNat : Int)).toNat = y.toNat := by rw [BitVec.ofInt_natCast, BitVec.toNat_ofNat]; exact Nat.mod_eq_of_lt (by omega)
  show IntKind.u32.wrap ((BitVec.ofInt 32 (x.toNat : Int) &&& BitVec.ofInt 32 (y.toNat : Int)).toNat : Int) = _
  rw [BitVec.toNat_and, h1, h2, ← UInt32.toNat_and, IntWalk.u32_in _ ⟨by omega, by omega⟩]; rfl
theorem u_or (x y : UInt32) : bits .or .u32 (u x) (u y) = u (x ||| y) := by
  have hx := x.toNat_lt
  have hy := y.toNat_lt
  have hz := (x ||| y).toNat_lt
  have h1 : (BitVec.ofInt 32 (x.toNat : Int)).toNat = x.toNat := by rw [BitVec.ofInt_natCast, BitVec.toNat_ofNat]; exact Nat.mod_eq_of_lt (by omega)
  have h2 : (BitVec.ofInt 32 (y.toNat : Int)).toNat = y.toNat := by rw [BitVec.ofInt_natCast, BitVec.toNat_ofNat]; exact Nat.mod_eq_of_lt (by omega)
  show IntKind.u32.wrap ((BitVec.ofInt 32 (x.toNat : Int) ||| BitVec.ofInt 32 (y.toNat : Int)).toNat : Int) = _
  rw [BitVec.toNat_or, h1, h2, ← UInt32.toNat_or, IntWalk.u32_in _ ⟨by omega, by omega⟩]; rfl
theorem u_add (x y : UInt32) : (u x + u y) % 4294967296 = u (x + y) := by
  have hx := x.toNat_lt
  have hy := y.toNat_lt
  unfold u; rw [UInt32.toNat_add]; omega
theorem u_shl (x : UInt32) (k : Nat) (hk : k < 32) : u x * 2 ^ k % 4294967296 = u (x <<< UInt32.ofNat k) := by
  unfold u
  have : (UInt32.ofNat k).toNat % 32 = k := by have h : (UInt32.ofNat k).toNat = k % 4294967296 := UInt32.toNat_ofNat; omega
  rw [UInt32.toNat_shiftLeft, this, Nat.shiftLeft_eq, Int.natCast_emod, Int.natCast_mul, Int.natCast_pow]
  rfl
theorem u_shr (x : UInt32) (k : Nat) (hk : k < 32) : u x / 2 ^ k = u (x >>> UInt32.ofNat k) := by
  unfold u
  have : (UInt32.ofNat k).toNat % 32 = k := by have h : (UInt32.ofNat k).toNat = k % 4294967296 := UInt32.toNat_ofNat; omega
  rw [UInt32.toNat_shiftRight, this, Nat.shiftRight_eq_div_pow, Int.natCast_ediv, Int.natCast_pow]
  rfl
theorem and31 (k : Nat) (h0 : 0 < k) (h1 : k < 32) : bits .and .u64 (IntKind.u64.wrap (-(k : Int))) 31 = ((32 - k : Nat) : Int) := by
  have : ∀ k : Fin 32, 0 < k.val → bits .and .u64 (IntKind.u64.wrap (-((k.val : Nat) : Int))) 31 = ((32 - k.val : Nat) : Int) := by decide +kernel
  exact this ⟨k, h1⟩ h0
theorem turn_any (x : UInt32) (k : Nat) (h0 : 0 < k) (h1 : k < 32) (w : World) :
    Calls Tryz.prog 89 #[.int .u32 (u x), .int .i64 (-(k : Int))] w fun e w' => e = .returned (.int .u32 (u (Sha.rot x (UInt32.ofNat k)))) ∧ w' = w := by
  have ha := and31 k h0 h1
  have H1 := Lib.hid (u_shl x (32 - k) (by omega))
  have H2 := Lib.hid (u_shr x k (by omega))
  have hsub : IntKind.u64.wrap (32 - ((32 - k : Nat) : Int)) = (k : Int) := by rw [IntWalk.u64_in _ ⟨by omega, by omega⟩]; omega
  have HR := Lib.hid (show bits .or .u32 (u (x <<< UInt32.ofNat (32 - k))) (u (x >>> UInt32.ofNat k)) = u (Sha.rot x (UInt32.ofNat k)) by
    rw [u_or, UInt32.or_comm]
    unfold Sha.rot
    congr 3
    apply UInt32.toNat_inj.1
    rw [UInt32.toNat_sub]
    have h2 : (UInt32.ofNat (32 - k)).toNat = (32 - k) % 4294967296 := UInt32.toNat_ofNat
    have h3 : (UInt32.ofNat k).toNat = k % 4294967296 := UInt32.toNat_ofNat
    have h4 : (32 : UInt32).toNat = 32 := rfl
    rw [h2, h3, h4]; omega)
  have hs32 : 32 - k ≤ 32 := by omega
  generalize UInt32.ofNat (32 - k) = K1 at *
  generalize UInt32.ofNat k = K2 at *
  generalize 32 - k = s at *
  go_enter Tryz.func89, Tryz.ntmps89
  go_wp2_with fail
  rw [H1.out, H2.out, HR.out]
  go_ret
  exact ⟨rfl, rfl⟩
theorem turned_any (x : UInt32) (k : Nat) (h0 : 0 < k) (h1 : k < 32) (w : World) :
    Calls Tryz.prog 68 #[.int .u32 (u x), .int .i64 (k : Int)] w fun e w' => e = .returned (.int .u32 (u (Sha.rot x (UInt32.ofNat k)))) ∧ w' = w := by
  go_enter Tryz.func68, Tryz.ntmps68
  go_wp2_with (go_at_call 89; refine (turn_any x k h0 h1 _).mono ?_; rintro e w1 ⟨rfl, rfl⟩)
  go_ret
  exact ⟨rfl, rfl⟩
theorem turned_lit (x : UInt32) (k : Nat) (K : Int) (r : UInt32) (hK : K = (k : Int)) (h0 : 0 < k) (h1 : k < 32) (hr : r = Sha.rot x (UInt32.ofNat k)) (w : World) :
    Calls Tryz.prog 68 #[.int .u32 (u x), .int .i64 K] w fun e w' => e = .returned (.int .u32 (u r)) ∧ w' = w := by
  subst hK hr
  exact turned_any x k h0 h1 w
theorem u_of8 (c : UInt8) : (c.toNat : Int) % 4294967296 = u c.toUInt32 := by
  have := c.toNat_lt
  have h : c.toUInt32.toNat = c.toNat := rfl
  unfold u; rw [h]; omega
theorem u_not (x : UInt32) : 4294967295 - u x = u (~~~x) := by
  have := x.toNat_lt
  unfold u; rw [UInt32.toNat_not]; have : UInt32.size = 4294967296 := rfl; omega
theorem u_addw (x y : UInt32) : IntKind.u32.wrap (u x + u y) = u (x + y) := by rw [IntKind.wrap_u32, u_add]
theorem u_notw (x : UInt32) : IntKind.u32.wrap (-1 - u x) = u (~~~x) := by rw [IntKind.wrap_u32, ← u_not]; have := u_lt x; omega
theorem u_not2 (x : UInt32) : bits .xor .u32 (if IntKind.u32.signed = true then -1 else IntKind.u32.max) (u x) = u (~~~x) := by
  show bits .xor .u32 (u 4294967295) (u x) = _
  rw [u_xor]; congr 1
end Go.Proofs.YticabllkadpmeaaGreatDoor
namespace Go.Proofs.YticabllkadpmeaaGreatDoor
set_option linter.unusedVariables false
set_option linter.unusedSimpArgs false
set_option linter.unnecessarySimpa false
open Go.RowKit

/-- Of what was there block p alone is another. -/
def Upd (p : Nat) (w w' : World) : Prop := w.grownBy w' (some p)
theorem Upd.refl (p : Nat) (w : World) : Upd p w w := ⟨rfl, rfl, rfl, Nat.le_refl _, fun _ _ _ => rfl⟩
theorem Upd.trans {p : Nat} {a b c : World} (h : Upd p a b) (k : Upd p b c) : Upd p a c :=
  ⟨k.os.trans h.os, k.tape.trans h.tape, k.output.trans h.output, Nat.le_trans h.size k.size, fun i hi hp => (k.block i (Nat.lt_of_lt_of_le hi h.size) hp).trans (h.block i hi hp)⟩
theorem Upd.of_below {p : Nat} {a b : World} (h : Below a.heap.size a b) : Upd p a b := bgrow h _
theorem Upd.sizeLe {p : Nat} {a b : World} (h : Upd p a b) : a.heap.size ≤ b.heap.size := h.size
theorem Upd.below {p B : Nat} {a b : World} (h : Upd p a b) (hp : B ≤ p) (hB : B ≤ a.heap.size) : Below B a b :=
  ⟨h.os, h.tape, h.output, h.size, fun k hk => h.block k (by omega) (fun e => by simp at e; omega)⟩
theorem Upd.set (p j : Nat) (w : World) (u : Value) : Upd p w (w.setCell ⟨p, j, none⟩ u) :=
  ⟨rfl, rfl, rfl, by simp [World.setCell], fun k _ hk => Below.heap_setCell _ _ _ _ (fun e => hk (by simp [e]))⟩
theorem Upd.row {p q t : Nat} {C : List Value} {a b : World} (h : Upd p a b) (hr : Row a q t C) (hq : q ≠ p) : Row b q t C := (h.block q hr.lt (fun e => hq (by simpa using e))).trans hr
theorem Upd.own {p t e : Nat} {C : List Value} {v : Value} {l : List UInt8} {B : Nat} {a b : World} (h : Upd p a b) (ho : Own a B e v l) (hr : Row a p t C) (he : e ≠ t) : Own b B e v l := by
  refine World.ownsRow.kept ho h ?_
  rcases ho.2 with ⟨rfl, _⟩ | ⟨g, cap, cur, rfl, _, hg, _⟩
  · exact .inl rfl
  · refine .inr fun hc => ?_
    simp only [Value.ownBlock, Option.some.injEq] at hc
    subst hc
    unfold Row at hr
    rw [hg] at hr
    simp only [Option.some.injEq, Obj.cells.injEq] at hr
    exact he hr.2.1
theorem Own.belowAny {w w' : World} {e B : Nat} {v : Value} {l : List UInt8} (h : Own w B e v l) (hb : Below w.heap.size w w') : Own w' B e v l := h.below hb
end Go.Proofs.YticabllkadpmeaaGreatDoor
namespace Go.Proofs.YticabllkadpmeaaGreatDoor
set_option linter.unusedVariables false
set_option linter.unusedSimpArgs false
set_option linter.unnecessarySimpa false
open Go.RowKit
section
variable {P : Program}
theorem run_copy_rows (w : World) (dT sT ty elem : TypeId) (size g o dLen dCap : Nat) (a : Option Addr) (sLen sCap : Nat) (cur : List Value) (t : TypeId) (cs : List Value)
    (hu : P.underlying dT = some (.slice elem)) (hs : (P.info? elem).map (·.size) = some size)
    (hg : w.heap[g]? = some (.cells cur.toArray t (0, 0))) (hn : cs.length = Nat.min sLen dLen * size)
    (hsrc : ∀ x, a = some x → ∀ j v, cs[j]? = some v → w.cell? (x.add j) = some v) (hnil : a = none → sLen = 0) (hfit : o + cs.length ≤ cur.length) (h1 : ∀ v ∈ cs, v.oneCell' = true) :
    (Builtin.copy_ #[dT, sT] ty #[.slice (some ⟨g, o, none⟩) dLen dCap, .slice a sLen sCap]).run P w =
      .ok (goInt (Nat.min sLen dLen)) (w.setRow g (splice cur o cs).toArray) := by
  have hst := run_storeCells_at P g o t cs 0 cur.toArray w hg (by simpa using hfit) h1
  have hsp : (cur.toArray.toList.take (o + 0) ++ cs ++ cur.toArray.toList.drop (o + 0 + cs.length)).toArray = (splice cur o cs).toArray := by simp [splice]
  rw [hsp] at hst
  cases hq : P.info? elem with
  | none => simp [hq] at hs
  | some i =>
    have hi : i.size = size := by simpa [hq] using hs
    cases a with
    | none =>
      have h0 := hnil rfl
      subst h0
      have hcs : cs = [] := List.eq_nil_of_length_eq_zero (by rw [hn]; simp)
      subst hcs
      have hse : (splice cur o ([] : List Value)).toArray = cur.toArray := by simp [splice]
      have hself := setRow_self w g cur.toArray t (0, 0) hg
      simp [Builtin.copy_, run_underlying hu, Builtin.lenOf, Builtin.firstCells, sizeOf, typeInfo, hq, storeCells, hse, hself]
    | some x =>
      have hl := run_loadCells_list (P := P) w x cs (hsrc x rfl)
      have hl2 : (loadCells x (Nat.min sLen dLen * i.size)).run P w = .ok cs.toArray w := by rw [hi, ← hn]; exact hl
      simp [Builtin.copy_, run_underlying hu, Builtin.lenOf, Builtin.firstCells, sizeOf, typeInfo, hq, hl2, hst]
end
theorem splice_append {α : Type} (A B C D : List α) (h : D.length = B.length) : splice (A ++ B ++ C) A.length D = A ++ D ++ C := by
  simp [splice, h]
end Go.Proofs.YticabllkadpmeaaGreatDoor
