/- The document's bind of a link. -/
import Derived.Test.YtpnldfinobnpoaaGreatDoorReb
namespace Go.Proofs.YtpnldfinobnpoaaGreatDoor
open Go.RowKit
set_option maxRecDepth 100000

/-- The fixup of a bind of an import. -/
def bindF (nth : Nat) (add : Int) (l : List Imp) : Fx := if nth < l.length then ⟨0, 2, 0, (l.getD nth .zero).ord, (l.getD nth .zero).sym, wrap64 ((l.getD nth .zero).add + add), (l.getD nth .zero).weak⟩ else .zero
def bindN (nth : Nat) (l : List Imp) : Int := if nth < l.length then 0 else 16
end Go.Proofs.YtpnldfinobnpoaaGreatDoor
