/- Package sha: turned. -/
import Derived.Test.YticabllkadpmeaaDoorRows
import Derived.Test.YticabllkadpmeaaDoorArr
import Derived.Test.YticabllkadpmeaaDoorTreP
namespace Go.Proofs.YticabllkadpmeaaDoor
set_option linter.unusedVariables false
set_option linter.unusedSimpArgs false
set_option linter.unnecessarySimpa false
open Go.RowKit
set_option maxRecDepth 100000
set_option maxHeartbeats 4000000

/-- A word's number. -/
def u (x : UInt32) : Int := (x.toNat : Int)
theorem u_lt (x : UInt32) : 0 ≤ u x ∧ u x < 4294967296 := by have := x.toNat_lt; unfold u; omega
theorem u_xor (x y : UInt32) : bits .xor .u32 (u x) (u y) = u (x ^^^ y) := by
  have hx := x.toNat_lt
  have hy := y.toNat_lt
  have hz := (x ^^^ y).toNat_lt
  have h1 : (BitVec.ofInt 32 (x.toNat : Int)).toNat = x.toNat := by rw [BitVec.ofInt_natCast, BitVec.toNat_ofNat]; exact Nat.mod_eq_of_lt (by omega)
  have h2 : (BitVec.ofInt 32 (y.toNat : Int)).toNat = y.toNat := by rw [BitVec.ofInt_natCast, BitVec.toNat_ofNat]; exact Nat.mod_eq_of_lt (by omega)
  show IntKind.u32.wrap ((BitVec.ofInt 32 (x.toNat : Int) ^^^ BitVec.ofInt 32 (y.toNat : Int)).toNat : Int) = _
  rw [BitVec.toNat_xor, h1, h2, ← UInt32.toNat_xor, IntWalk.u32_in _ ⟨by omega, by omega⟩]; rfl
theorem u_and (x y : UInt32) : bits .and .u32 (u x) (u y) = u (x &&& y) := by
  have hx := x.toNat_lt
  have hy := y.toNat_lt
  have hz := (x &&& y).toNat_lt
  have h1 : (BitVec.ofInt 32 (x.toNat : Int)).toNat = x.toNat := by rw [BitVec.ofInt_natCast, BitVec.toNat_ofNat]; exact Nat.mod_eq_of_lt (by omega)
  have h2 : (BitVec.ofInt 32 (y.toNat : Int)).toNat = y.toNat := by rw [BitVec.ofInt_natCast, BitVec.toNat_ofNat]; exact Nat.mod_eq_of_lt (by omega)
  show IntKind.u32.wrap ((BitVec.ofInt 32 (x.toNat : Int) &&& BitVec.ofInt 32 (y.toNat : Int)).toNat : Int) = _
  rw [BitVec.toNat_and, h1, h2, ← UInt32.toNat_and, IntWalk.u32_in _ ⟨by omega, by omega⟩]; rfl
theorem u_or (x y : UInt32) : bits .or .u32 (u x) (u y) = u (x ||| y) := by
  have hx := x.toNat_lt
  have hy := y.toNat_lt
  have hz := (x ||| y).toNat_lt
  have h1 : (BitVec.ofInt 32 (x.toNat : Int)).toNat = x.toNat := by rw [BitVec.ofInt_natCast, BitVec.toNat_ofNat]; exact Nat.mod_eq_of_lt (by omega)
  have h2 : (BitVec.ofInt 32 (y.toNat : Int)).toNat = y.toNat := by rw [BitVec.ofInt_natCast, BitVec.toNat_ofNat]; exact Nat.mod_eq_of_lt (by omega)
  show IntKind.u32.wrap ((BitVec.ofInt 32 (x.toNat : Int) ||| BitVec.ofInt 32 (y.toNat : Int)).toNat : Int) = _
  rw [BitVec.toNat_or, h1, h2, ← UInt32.toNat_or, IntWalk.u32_in _ ⟨by omega, by omega⟩]; rfl
theorem u_add (x y : UInt32) : (u x + u y) % 4294967296 = u (x + y) := by
  have hx := x.toNat_lt
  have hy := y.toNat_lt
  unfold u; rw [UInt32.toNat_add]; omega
theorem u_shl (x : UInt32) (k : Nat) (hk : k < 32) : u x * 2 ^ k % 4294967296 = u (x <<< UInt32.ofNat k) := by
  unfold u
  have : (UInt32.ofNat k).toNat % 32 = k := by have h : (UInt32.ofNat k).toNat = k % 4294967296 := UInt32.toNat_ofNat; omega
  rw [UInt32.toNat_shiftLeft, this, Nat.shiftLeft_eq, Int.natCast_emod, Int.natCast_mul, Int.natCast_pow]
  rfl
theorem u_shr (x : UInt32) (k : Nat) (hk : k < 32) : u x / 2 ^ k = u (x >>> UInt32.ofNat k) := by
  unfold u
  have : (UInt32.ofNat k).toNat % 32 = k := by have h : (UInt32.ofNat k).toNat = k % 4294967296 := UInt32.toNat_ofNat; omega
  rw [UInt32.toNat_shiftRight, this, Nat.shiftRight_eq_div_pow, Int.natCast_ediv, Int.natCast_pow]
  rfl
theorem and31 (k : Nat) (h0 : 0 < k) (h1 : k < 32) : bits .and .u64 (IntKind.u64.wrap (-(k : Int))) 31 = ((32 - k : Nat) : Int) := by
  have : ∀ k : Fin 32, 0 < k.val → bits .and .u64 (IntKind.u64.wrap (-((k.val : Nat) : Int))) 31 = ((32 - k.val : Nat) : Int) := by decide +kernel
  exact this ⟨k, h1⟩ h0
theorem turn_any (x : UInt32) (k : Nat) (h0 : 0 < k) (h1 : k < 32) (w : World) :
    Calls Tryd.prog 97 #[.int .u32 (u x), .int .i64 (-(k : Int))] w fun e w' => e = .returned (.int .u32 (u (Sha.rot x (UInt32.ofNat k)))) ∧ w' = w := by
  have ha := and31 k h0 h1
  have H1 := Lib.hid (u_shl x (32 - k) (by omega))
  have H2 := Lib.hid (u_shr x k (by omega))
  have hsub : IntKind.u64.wrap (32 - ((32 - k : Nat) : Int)) = (k : Int) := by rw [IntWalk.u64_in _ ⟨by omega, by omega⟩]; omega
  have HR := Lib.hid (show bits .or .u32 (u (x <<< UInt32.ofNat (32 - k))) (u (x >>> UInt32.ofNat k)) = u (Sha.rot x (UInt32.ofNat k)) by
    rw [u_or, UInt32.or_comm]
    unfold Sha.rot
    congr 3
    apply UInt32.toNat_inj.1
    rw [UInt32.toNat_sub]
    have h2 : (UInt32.ofNat (32 - k)).toNat = (32 - k) % 4294967296 := UInt32.toNat_ofNat
    have h3 : (UInt32.ofNat k).toNat = k % 4294967296 := UInt32.toNat_ofNat
    have h4 : (32 : UInt32).toNat = 32 := rfl
    rw [h2, h3, h4]; omega)
  have hs32 : 32 - k ≤ 32 := by omega
  generalize UInt32.ofNat (32 - k) = K1 at *
  generalize UInt32.ofNat k = K2 at *
  generalize 32 - k = s at *
  go_enter Tryd.func97, Tryd.ntmps97
  go_wp2_with fail
  rw [H1.out, H2.out, HR.out]
  go_ret
  exact ⟨rfl, rfl⟩
theorem turned_any (x : UInt32) (k : Nat) (h0 : 0 < k) (h1 : k < 32) (w : World) :
    Calls Tryd.prog 82 #[.int .u32 (u x), .int .i64 (k : Int)] w fun e w' => e = .returned (.int .u32 (u (Sha.rot x (UInt32.ofNat k)))) ∧ w' = w := by
  go_enter Tryd.func82, Tryd.ntmps82
  go_wp2_with (go_at_call 97; refine (turn_any x k h0 h1 _).mono ?_; rintro e w1 ⟨rfl, rfl⟩)
  go_ret
  exact ⟨rfl, rfl⟩
theorem turned_lit (x : UInt32) (k : Nat) (K : Int) (r : UInt32) (hK : K = (k : Int)) (h0 : 0 < k) (h1 : k < 32) (hr : r = Sha.rot x (UInt32.ofNat k)) (w : World) :
    Calls Tryd.prog 82 #[.int .u32 (u x), .int .i64 K] w fun e w' => e = .returned (.int .u32 (u r)) ∧ w' = w := by
  subst hK hr
  exact turned_any x k h0 h1 w
theorem u_of8 (c : UInt8) : (c.toNat : Int) % 4294967296 = u c.toUInt32 := by
  have := c.toNat_lt
  have h : c.toUInt32.toNat = c.toNat := rfl
  unfold u; rw [h]; omega
theorem u_not (x : UInt32) : 4294967295 - u x = u (~~~x) := by
  have := x.toNat_lt
  unfold u; rw [UInt32.toNat_not]; have : UInt32.size = 4294967296 := rfl; omega
theorem u_addw (x y : UInt32) : IntKind.u32.wrap (u x + u y) = u (x + y) := by rw [IntKind.wrap_u32, u_add]
theorem u_notw (x : UInt32) : IntKind.u32.wrap (-1 - u x) = u (~~~x) := by rw [IntKind.wrap_u32, ← u_not]; have := u_lt x; omega
theorem u_not2 (x : UInt32) : bits .xor .u32 (if IntKind.u32.signed = true then -1 else IntKind.u32.max) (u x) = u (~~~x) := by
  show bits .xor .u32 (u 4294967295) (u x) = _
  rw [u_xor]; congr 1
end Go.Proofs.YticabllkadpmeaaDoor
