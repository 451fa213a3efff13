/- clevisref16.Link: the document's answer (formats 2 and 6). -/
import Derived.Test.YtpnldfinobnpoaaGreatDoorLink
namespace Go.Proofs.YtpnldfinobnpoaaGreatDoor
open Go.RowKit
set_option maxRecDepth 100000

/-- The fixup of a rebase. -/
def rebF (t a h : Nat) : Fx := ⟨0, 1, (tgt t a h : Nat), 0, ⟨#[]⟩, 0, false⟩
theorem tgt_a (t a h : Nat) : tgt t a h = ((t + a) % 18446744073709551616) % pow56 + h * pow56 := rfl
theorem tgt_0 (t h : Nat) (ht : t < 2 ^ 36) : tgt t 0 h = t % pow56 + h * pow56 := by
  have : (2 : Nat) ^ 36 = 68719476736 := by decide
  have e : t % 18446744073709551616 = t := Nat.mod_eq_of_lt (by omega)
  rw [tgt_a, Nat.add_zero, e]
theorem link_reb {low n : Nat} {fm : Int} {s : Say} (l : List Imp) (h : linkS low fm n = some s) (h2 : s.bind = false) :
    linkF low fm n l = ⟨0, 1, ((s.tgt.toNat % pow56 + s.high.toNat * pow56 : Nat) : Int), 0, ⟨#[]⟩, 0, false⟩ ∧ linkN low fm n l = s.next ∧ linkE low fm n l = 0 := by
  simp [linkF, linkN, linkE, h, fixN, fixF, h2]
end Go.Proofs.YtpnldfinobnpoaaGreatDoor
