/- tree.Path. (printed by gen/rpath.py) -/
import Derived.Test.YticabllkadpmeaaGreatDoorCatN
import Derived.Test.YticabllkadpmeaaGreatDoorTreQ
import Derived.Test.YticabllkadpmeaaGreatDoorSha5
namespace Go.Proofs.YticabllkadpmeaaGreatDoor
set_option linter.unusedVariables false
set_option linter.unusedSimpArgs false
set_option linter.unnecessarySimpa false
open Go.RowKit
open Tre (It)
set_option maxRecDepth 100000
set_option maxHeartbeats 8000000

/-- A name's leaf as a path. -/
def pathOf (s : ByteArray) : List Int := [((Tre.slot s.data.toList / 4 : Nat) : Int), ((Tre.slot s.data.toList % 4 : Nat) : Int)]
theorem lit2 (w : World) (a b : Int) : Ns (w.alloc (.cells #[.int .i64 a, .int .i64 b] 3)) (.slice (some ⟨w.heap.size, 0, none⟩) 2 2) [a, b] :=
  Shows.of_own (World.ownsRow_lit (e := 3) (size := 1) (base := w.heap.size) w #[.int .i64 a, .int .i64 b] 2 (Nat.le_refl _) (by decide) (by simp))
end Go.Proofs.YticabllkadpmeaaGreatDoor
namespace Go.Proofs.YticabllkadpmeaaGreatDoor
set_option linter.unusedVariables false
set_option linter.unusedSimpArgs false
set_option linter.unnecessarySimpa false
open Go.RowKit
set_option maxRecDepth 100000
set_option maxHeartbeats 4000000

theorem info_u32 : (Tryz.prog.info? 90).map (fun i => (i.zero, i.size, i.bytes)) = some (some (.int .u32 0), 1, 4) := by kernel_rfl
theorem rwords_any (w : World) : Calls Tryz.prog 90 #[] w fun e w' => e = .returned (.slice (some ⟨w.heap.size, 0, none⟩) 8 8) ∧ Row w' w.heap.size 90 (stC Sha.St.first) ∧ Below w.heap.size w w' := by
  go_enter Tryz.func90, Tryz.ntmps90
  go_wp2_with fail
  go_ret
  exact ⟨rfl, Row.new w _ (stC Sha.St.first), balloc (Below.refl _ _) _⟩
theorem rroots_any (w : World) : Calls Tryz.prog 91 #[] w fun e w' => e = .returned (.slice (some ⟨w.heap.size, 0, none⟩) 64 64) ∧ Row w' w.heap.size 90 (nums .u32 (us Sha.roots)) ∧ Below w.heap.size w w' := by
  go_enter Tryz.func91, Tryz.ntmps91
  go_wp2_with fail
  go_ret
  exact ⟨rfl, Row.new w _ (nums .u32 (us Sha.roots)), balloc (Below.refl _ _) _⟩
theorem rturn_any (x : UInt32) (k : Nat) (h0 : 0 < k) (h1 : k < 32) (w : World) :
    Calls Tryz.prog 92 #[.int .u32 (u x), .int .u64 (k : Int)] w fun e w' => e = .returned (.int .u32 (u (Sha.rot x (UInt32.ofNat k)))) ∧ w' = w := by
  have H1 := Lib.hid (u_shl x (32 - k) (by omega))
  have H2 := Lib.hid (u_shr x k (by omega))
  have hsub : IntKind.u64.wrap (32 - (k : Int)) = ((32 - k : Nat) : Int) := by rw [IntWalk.u64_in _ ⟨by omega, by omega⟩]; omega
  have HR := Lib.hid (show bits .or .u32 (u (x >>> UInt32.ofNat k)) (u (x <<< UInt32.ofNat (32 - k))) = u (Sha.rot x (UInt32.ofNat k)) by
    rw [u_or]
    unfold Sha.rot
    congr 3
    apply UInt32.toNat_inj.1
    rw [UInt32.toNat_sub]
    have h2 : (UInt32.ofNat (32 - k)).toNat = (32 - k) % 4294967296 := UInt32.toNat_ofNat
    have h3 : (UInt32.ofNat k).toNat = k % 4294967296 := UInt32.toNat_ofNat
    have h4 : (32 : UInt32).toNat = 32 := rfl
    rw [h2, h3, h4]; omega)
  have hs32 : 32 - k ≤ 32 := by omega
  generalize UInt32.ofNat (32 - k) = K1 at *
  generalize UInt32.ofNat k = K2 at *
  generalize 32 - k = s at *
  go_enter Tryz.func92, Tryz.ntmps92
  go_wp2_with fail
  rw [H1.out, H2.out, HR.out]
  go_ret
  exact ⟨rfl, rfl⟩
theorem rturn_lit (x : UInt32) (k : Nat) (K : Int) (r : UInt32) (hK : K = (k : Int)) (h0 : 0 < k) (h1 : k < 32) (hr : r = Sha.rot x (UInt32.ofNat k)) (w : World) :
    Calls Tryz.prog 92 #[.int .u32 (u x), .int .u64 K] w fun e w' => e = .returned (.int .u32 (u r)) ∧ w' = w := by
  subst hK hr
  exact rturn_any x k h0 h1 w
end Go.Proofs.YticabllkadpmeaaGreatDoor
