/- walk.bits and the document's bits, power. -/
import Derived.Test.YtpnldfinobnpoaaGreatDoorF
import Derived.Test.YtpnldfinobnpoaaGreatDoorProg
import Derived.Test.YtpnldfinobnpoaaGreatDoorReg
namespace Go.Proofs.YtpnldfinobnpoaaGreatDoor
open Go.RowKit
set_option maxRecDepth 100000

theorem two_pow_le {m : Nat} (hm : m ≤ 63) : 1 ≤ 2 ^ m ∧ 2 ^ m ≤ 9223372036854775808 :=
  ⟨Nat.one_le_two_pow, Nat.le_trans (Nat.pow_le_pow_right (by decide) hm) (by decide)⟩
theorem wrap_pow {m : Nat} (hm : m ≤ 63) : IntKind.u64.wrap ((2 : Int) ^ m) = ((2 ^ m : Nat) : Int) := by
  have h := two_pow_le hm
  have e : (2 : Int) ^ m = ((2 ^ m : Nat) : Int) := by rw [Int.natCast_pow]; rfl
  rw [e]
  generalize 2 ^ m = p at h ⊢
  rw [IntKind.wrap_u64]; omega
theorem bits_eq (n f m : Nat) (hn : n < 18446744073709551616) (hm : m ≤ 63) :
    bits .and .u64 ((n : Int) / 2 ^ f) (IntKind.u64.wrap (IntKind.u64.wrap ((2 : Int) ^ m) - 1)) = ((n / 2 ^ f % 2 ^ m : Nat) : Int) := by
  have h := two_pow_le hm
  rw [wrap_pow hm]
  have e : (n : Int) / 2 ^ f = ((n / 2 ^ f : Nat) : Int) := by rw [Int.natCast_ediv, Int.natCast_pow]; rfl
  have hd : n / 2 ^ f < 18446744073709551616 := Nat.lt_of_le_of_lt (Nat.div_le_self _ _) hn
  rw [e, ← Nat.and_two_pow_sub_one_eq_mod]
  generalize n / 2 ^ f = d at hd ⊢
  generalize 2 ^ m = p at h ⊢
  have e2 : IntKind.u64.wrap ((p : Int) - 1) = ((p - 1 : Nat) : Int) := by rw [IntKind.wrap_u64]; omega
  rw [e2]
  exact u64_and_nat d (p - 1) hd (by omega)
theorem bits_any (n f m : Nat) (hn : n < 18446744073709551616) (hf : f ≤ 63) (hm : m ≤ 63) (w : World) :
    Calls Tryz.prog 16 #[.int .u64 n, .int .i64 f, .int .i64 m] w fun e w' => e = .returned (.int .u64 ((n / 2 ^ f % 2 ^ m : Nat) : Int)) ∧ Dr w w' := by
  have HE := Lib.hid (bits_eq n f m hn hm)
  go_enter Tryz.func16, Tryz.ntmps16
  go_wp2
  go_quiet (fail)
  rw [HE.out]
  go_wp2
  go_ret
  exact ⟨rfl, (Dr.refl _).drewN _⟩
end Go.Proofs.YtpnldfinobnpoaaGreatDoor
