/- The document's SHA-256 (package ref03): words, roots, turn. -/
import Derived.Test.YtnhkbbladifmmaaDoorSha5
namespace Go.Proofs.YtnhkbbladifmmaaDoor
set_option linter.unusedVariables false
set_option linter.unusedSimpArgs false
set_option linter.unnecessarySimpa false
open Go.RowKit
set_option maxRecDepth 100000
set_option maxHeartbeats 4000000

theorem info_u32 : (Tryd.prog.info? 94).map (fun i => (i.zero, i.size, i.bytes)) = some (some (.int .u32 0), 1, 4) := by kernel_rfl
theorem rwords_any (w : World) : Calls Tryd.prog 56 #[] w fun e w' => e = .returned (.slice (some ⟨w.heap.size, 0, none⟩) 8 8) ∧ Row w' w.heap.size 94 (stC Sha.St.first) ∧ Below w.heap.size w w' := by
  go_enter Tryd.func56, Tryd.ntmps56
  go_wp2_with fail
  go_ret
  exact ⟨rfl, Row.new w _ (stC Sha.St.first), balloc (Below.refl _ _) _⟩
theorem rroots_any (w : World) : Calls Tryd.prog 57 #[] w fun e w' => e = .returned (.slice (some ⟨w.heap.size, 0, none⟩) 64 64) ∧ Row w' w.heap.size 94 (nums .u32 (us Sha.roots)) ∧ Below w.heap.size w w' := by
  go_enter Tryd.func57, Tryd.ntmps57
  go_wp2_with fail
  go_ret
  exact ⟨rfl, Row.new w _ (nums .u32 (us Sha.roots)), balloc (Below.refl _ _) _⟩
theorem rturn_any (x : UInt32) (k : Nat) (h0 : 0 < k) (h1 : k < 32) (w : World) :
    Calls Tryd.prog 58 #[.int .u32 (u x), .int .u64 (k : Int)] w fun e w' => e = .returned (.int .u32 (u (Sha.rot x (UInt32.ofNat k)))) ∧ w' = w := by
  have H1 := Lib.hid (u_shl x (32 - k) (by omega))
  have H2 := Lib.hid (u_shr x k (by omega))
  have hsub : IntKind.u64.wrap (32 - (k : Int)) = ((32 - k : Nat) : Int) := by rw [IntWalk.u64_in _ ⟨by omega, by omega⟩]; omega
  have HR := Lib.hid (show bits .or .u32 (u (x >>> UInt32.ofNat k)) (u (x <<< UInt32.ofNat (32 - k))) = u (Sha.rot x (UInt32.ofNat k)) by
    rw [u_or]
    unfold Sha.rot
    congr 3
    apply UInt32.toNat_inj.1
    rw [UInt32.toNat_sub]
    have h2 : (UInt32.ofNat (32 - k)).toNat = (32 - k) % 4294967296 := UInt32.toNat_ofNat
    have h3 : (UInt32.ofNat k).toNat = k % 4294967296 := UInt32.toNat_ofNat
    have h4 : (32 : UInt32).toNat = 32 := rfl
    rw [h2, h3, h4]; omega)
  have hs32 : 32 - k ≤ 32 := by omega
  generalize UInt32.ofNat (32 - k) = K1 at *
  generalize UInt32.ofNat k = K2 at *
  generalize 32 - k = s at *
  go_enter Tryd.func58, Tryd.ntmps58
  go_wp2_with fail
  rw [H1.out, H2.out, HR.out]
  go_ret
  exact ⟨rfl, rfl⟩
theorem rturn_lit (x : UInt32) (k : Nat) (K : Int) (r : UInt32) (hK : K = (k : Int)) (h0 : 0 < k) (h1 : k < 32) (hr : r = Sha.rot x (UInt32.ofNat k)) (w : World) :
    Calls Tryd.prog 58 #[.int .u32 (u x), .int .u64 K] w fun e w' => e = .returned (.int .u32 (u r)) ∧ w' = w := by
  subst hK hr
  exact rturn_any x k h0 h1 w
end Go.Proofs.YtnhkbbladifmmaaDoor
