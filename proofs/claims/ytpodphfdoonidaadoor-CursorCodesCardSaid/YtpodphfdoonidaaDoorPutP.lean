/- Plain: a number's groups, shortest bytes, and what bytes say. No program in sight. -/
import Derived.Test.YtpodphfdoonidaaDoorNumP
namespace Go.Proofs.YtpodphfdoonidaaDoor
open Go.RowKit

/-- A number's shortest bytes (fuel: how many bytes at most). -/
def putUf : Nat → Nat → List UInt8
  | 0, n => [UInt8.ofNat n]
  | f + 1, n => if n < 128 then [UInt8.ofNat n] else UInt8.ofNat (n % 128 + 128) :: putUf f (n / 128)
def putU (n : Nat) : List UInt8 := putUf 9 n
/-- A signed number's shortest bytes. -/
def putSf : Nat → Int → List UInt8
  | 0, n => [UInt8.ofNat (n % 128).toNat]
  | f + 1, n => if -64 ≤ n ∧ n < 64 then [UInt8.ofNat (n % 128).toNat] else UInt8.ofNat ((n % 128).toNat + 128) :: putSf f (n / 128)
def putS (n : Int) : List UInt8 := putSf 9 n
theorem putUf_length (f n : Nat) : (putUf f n).length ≤ f + 1 ∧ 0 < (putUf f n).length := by
  induction f generalizing n with
  | zero => simp [putUf]
  | succ f ih =>
    unfold putUf
    split
    · simp
    · have := ih (n / 128); simp; omega
theorem putSf_length (f : Nat) (n : Int) : (putSf f n).length ≤ f + 1 ∧ 0 < (putSf f n).length := by
  induction f generalizing n with
  | zero => simp [putSf]
  | succ f ih =>
    unfold putSf
    split
    · simp
    · have := ih (n / 128); simp; omega
/-- More fuel changes nothing. -/
theorem putUf_fuel (f : Nat) : ∀ (n : Nat), n < 128 ^ (f + 1) → putUf f n = putUf (f + 1) n := by
  induction f with
  | zero => intro n h; simp [putUf]; omega
  | succ f ih =>
    intro n h
    rw [putUf, putUf]
    split
    · rfl
    · rw [ih (n / 128) (by rw [Nat.pow_succ] at h; omega)]
theorem putUf_step (f n : Nat) (h : 128 ≤ n) : putUf (f + 1) n = UInt8.ofNat (n % 128 + 128) :: putUf f (n / 128) := by rw [putUf, if_neg (by omega)]
theorem putUf_small (f n : Nat) (h : n < 128) : putUf f n = [UInt8.ofNat n] := by cases f <;> simp [putUf, h]
theorem putSf_step (f : Nat) (n : Int) (h : ¬ (-64 ≤ n ∧ n < 64)) : putSf (f + 1) n = UInt8.ofNat ((n % 128).toNat + 128) :: putSf f (n / 128) := by rw [putSf, if_neg h]
theorem putSf_small (f : Nat) (n : Int) (h : -64 ≤ n ∧ n < 64) : putSf f n = [UInt8.ofNat (n % 128).toNat] := by cases f <;> simp [putSf, h]
theorem or128 (x : Nat) (h : x < 256) : x ||| 128 = x % 128 + 128 := by
  have h1 : x = x / 128 * 128 + x % 128 := by omega
  by_cases hx : x < 128
  · rw [Nat.or_comm, nat_join 7 128 x (by decide) (by omega)]; omega
  · have e : x = 128 ||| (x % 128) := by rw [nat_join 7 128 (x % 128) (by decide) (by omega)]; omega
    rw [Nat.or_comm, e, ← Nat.or_assoc, Nat.or_self, nat_join 7 128 (x % 128) (by decide) (by omega)]
    have : (128 + x % 128) % 128 = x % 128 := by omega
    omega
end Go.Proofs.YtpodphfdoonidaaDoor
