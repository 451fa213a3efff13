/- clevisref16.Link: the document's answer (formats 1 and 12, and others). -/
import Derived.Test.YtpnldfinobnpoaaGreatDoorRLink
namespace Go.Proofs.YtpnldfinobnpoaaGreatDoor
open Go.RowKit
set_option maxRecDepth 100000

theorem tgt_1 (t h : Nat) (ht : t < 2 ^ 43) : tgt t 0 h = t % pow56 + h * pow56 := by
  have : (2 : Nat) ^ 43 = 8796093022208 := by decide
  have e : t % 18446744073709551616 = t := Nat.mod_eq_of_lt (by omega)
  rw [tgt_a, Nat.add_zero, e]
theorem addS_eq (n : Nat) : wrap64 ((bt n 32 18 : Int) - wrap64 ((bt n 50 1 : Int) * 262144)) = addS (bt n 32 19) := by
  unfold bt addS wrap64
  have e1 : (2 : Nat) ^ 32 = 4294967296 := by decide
  have e2 : (2 : Nat) ^ 18 = 262144 := by decide
  have e3 : (2 : Nat) ^ 50 = 1125899906842624 := by decide
  have e4 : (2 : Nat) ^ 19 = 524288 := by decide
  rw [e1, e2, e3, e4]
  split <;> omega
theorem two_bits (n : Nat) (hn : n < 18446744073709551616) : (bt n 62 2 = 0 ∧ bt n 62 1 ≠ 1 ∧ bt n 63 1 ≠ 1) ∨ (bt n 62 2 = 1 ∧ bt n 62 1 = 1 ∧ bt n 63 1 ≠ 1) ∨ (bt n 62 2 = 2 ∧ bt n 62 1 ≠ 1 ∧ bt n 63 1 = 1) ∨ (bt n 62 2 = 3 ∧ bt n 62 1 = 1 ∧ bt n 63 1 = 1) := by
  unfold bt
  have e1 : (2 : Nat) ^ 62 = 4611686018427387904 := by decide
  have e3 : (2 : Nat) ^ 63 = 9223372036854775808 := by decide
  rw [e1, e3]
  omega
end Go.Proofs.YtpnldfinobnpoaaGreatDoor
