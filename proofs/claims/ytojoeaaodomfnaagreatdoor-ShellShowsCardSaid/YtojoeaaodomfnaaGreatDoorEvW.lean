/- An event's cells, whatever it has. -/
import Derived.Test.YtojoeaaodomfnaaGreatDoorShl3
namespace Go.Proofs.YtojoeaaodomfnaaGreatDoor
set_option linter.unusedVariables false
open Go.RowKit
/-- An event's cells, whatever it has. -/
def evW (e : Shl.Ev) (at_ ep : Int) (se st : Value) : List Value := [.int .i64 e.kind, .int .i64 e.a, .int .i64 e.b, .int .i64 e.ck, .string (bs e.subj), .string (bs e.text), .int .i64 e.n, .int .i64 at_, .int .u64 ep, se, st]
/-- Numbers as there may be. -/
def EvOk (e : Shl.Ev) : Prop := (-9223372036854775808 ≤ e.a ∧ e.a ≤ 9223372036854775807) ∧ (-9223372036854775808 ≤ e.b ∧ e.b ≤ 9223372036854775807) ∧ (-9223372036854775808 ≤ e.n ∧ e.n ≤ 9223372036854775807) ∧ e.subj.length ≤ 9223372036854775807 ∧ e.text.length ≤ 9223372036854775807
end Go.Proofs.YtojoeaaodomfnaaGreatDoor
