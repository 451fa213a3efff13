/- The document's rebase and bind of a link; says.fix. -/
import Derived.Test.YtpnldfinobnpoaaGreatDoorBits
import Derived.Test.YtpnldfinobnpoaaGreatDoorRecFx
import Derived.Test.YtpnldfinobnpoaaGreatDoorRecImp
namespace Go.Proofs.YtpnldfinobnpoaaGreatDoor
open Go.RowKit
set_option maxRecDepth 100000

def pow56 : Nat := 72057594037927936
theorem pow56_eq : (2 : Nat) ^ 56 = pow56 := by decide
def m64 : Nat := 18446744073709551616
/-- A fixup as a value. -/
abbrev fixV (at_ kind tgt ord : Int) (sym : ByteArray) (add : Int) (weak : Bool) : Value := .agg #[.int .u64 at_, .int .i64 kind, .int .u64 tgt, .int .i64 ord, .string sym, .int .i64 add, .bool weak]
/-- The target of a rebase, above something, with a highest byte. -/
def tgt (t a h : Nat) : Nat := (t + a) % m64 % pow56 + h * pow56

end Go.Proofs.YtpnldfinobnpoaaGreatDoor
