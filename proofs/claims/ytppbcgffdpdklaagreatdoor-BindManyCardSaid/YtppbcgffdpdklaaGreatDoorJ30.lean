/- Lemmas, laid together: part 30 of 39. Conditions: none but each lemma's own. -/
import Derived.Test.YtppbcgffdpdklaaGreatDoorJ16
/- Plain: a number's groups, shortest bytes, and what bytes say. No program in sight. -/
namespace Go.Proofs.YtppbcgffdpdklaaGreatDoor
open Go.RowKit

/-- A number's shortest bytes (fuel: how many bytes at most). -/
def putUf : Nat → Nat → List UInt8
  | 0, n => [UInt8.ofNat n]
  | f + 1, n => if n < 128 then [UInt8.ofNat n] else UInt8.ofNat (n % 128 + 128) :: putUf f (n / 128)
def putU (n : Nat) : List UInt8 := putUf 9 n
/-- A signed number's shortest bytes. -/
def putSf : Nat → Int → List UInt8
  | 0, n => [UInt8.ofNat (n % 128).toNat]
  | f + 1, n => if -64 ≤ n ∧ n < 64 then [UInt8.ofNat (n % 128).toNat] else UInt8.ofNat ((n % 128).toNat + 128) :: putSf f (n / 128)
def putS (n : Int) : List UInt8 := putSf 9 n
theorem putUf_length (f n : Nat) : (putUf f n).length ≤ f + 1 ∧ 0 < (putUf f n).length := by
  induction f generalizing n with
  | zero => simp [putUf]
  | succ f ih =>
    unfold putUf
    split
    · simp
    · have := ih (n / 128); simp; omega
theorem putSf_length (f : Nat) (n : Int) : (putSf f n).length ≤ f + 1 ∧ 0 < (putSf f n).length := by
  induction f generalizing n with
  | zero => simp [putSf]
  | succ f ih =>
    unfold putSf
    split
    · simp
    · have := ih (n / 128); simp; omega
/-- More fuel changes nothing. -/
theorem putUf_fuel (f : Nat) : ∀ (n : Nat), n < 128 ^ (f + 1) → putUf f n = putUf (f + 1) n := by
  induction f with
  | zero => intro n h; simp [putUf]; omega
  | succ f ih =>
    intro n h
    rw [putUf, putUf]
    split
    · rfl
    · rw [ih (n / 128) (by rw [Nat.pow_succ] at h; omega)]
theorem putUf_step (f n : Nat) (h : 128 ≤ n) : putUf (f + 1) n = UInt8.ofNat (n % 128 + 128) :: putUf f (n / 128) := by rw [putUf, if_neg (by omega)]
theorem putUf_small (f n : Nat) (h : n < 128) : putUf f n = [UInt8.ofNat n] := by cases f <;> simp [putUf, h]
theorem putSf_step (f : Nat) (n : Int) (h : ¬ (-64 ≤ n ∧ n < 64)) : putSf (f + 1) n = UInt8.ofNat ((n % 128).toNat + 128) :: putSf f (n / 128) := by rw [putSf, if_neg h]
theorem putSf_small (f : Nat) (n : Int) (h : -64 ≤ n ∧ n < 64) : putSf f n = [UInt8.ofNat (n % 128).toNat] := by cases f <;> simp [putSf, h]
theorem or128 (x : Nat) (h : x < 256) : x ||| 128 = x % 128 + 128 := by
  have h1 : x = x / 128 * 128 + x % 128 := by omega
  by_cases hx : x < 128
  · rw [Nat.or_comm, nat_join 7 128 x (by decide) (by omega)]; omega
  · have e : x = 128 ||| (x % 128) := by rw [nat_join 7 128 (x % 128) (by decide) (by omega)]; omega
    rw [Nat.or_comm, e, ← Nat.or_assoc, Nat.or_self, nat_join 7 128 (x % 128) (by decide) (by omega)]
    have : (128 + x % 128) % 128 = x % 128 := by omega
    omega
end Go.Proofs.YtppbcgffdpdklaaGreatDoor
/- Plain: what bytes say as a number; no number's bytes begin another one's. No program in sight. -/
namespace Go.Proofs.YtppbcgffdpdklaaGreatDoor
open Go.RowKit

def gsOf (l : List UInt8) : List Nat := l.map fun b => b.toNat % 128
def uval : List Nat → Nat
  | [] => 0
  | x :: r => x + 128 * uval r
theorem toNat_ofNat (x : Nat) (h : x < 256) : (UInt8.ofNat x).toNat = x := by simp; omega
theorem uval_putUf (f : Nat) : ∀ n, n < 128 ^ (f + 1) → uval (gsOf (putUf f n)) = n := by
  induction f with
  | zero => intro n h; simp [putUf, gsOf, uval]; omega
  | succ f ih =>
    intro n h
    by_cases hn : n < 128
    · rw [putUf_small _ n hn]; simp [gsOf, uval]; omega
    · rw [putUf_step f n (by omega)]
      have := ih (n / 128) (by rw [Nat.pow_succ] at h; omega)
      simp only [gsOf, List.map_cons, uval, toNat_ofNat _ (show n % 128 + 128 < 256 by omega)] at this ⊢
      rw [this]; omega
theorem putUf_shape (f : Nat) : ∀ n, n < 128 ^ (f + 1) → ∃ r b, putUf f n = r ++ [b] ∧ b.toNat < 128 ∧ ∀ x ∈ r, 128 ≤ x.toNat := by
  induction f with
  | zero => intro n h; exact ⟨[], UInt8.ofNat n, rfl, by rw [toNat_ofNat n (by omega)]; omega, fun _ hm => by cases hm⟩
  | succ f ih =>
    intro n h
    by_cases hn : n < 128
    · exact ⟨[], UInt8.ofNat n, putUf_small _ n hn, by rw [toNat_ofNat n (by omega)]; exact hn, fun _ hm => by cases hm⟩
    · obtain ⟨r, b, e, hb, hr⟩ := ih (n / 128) (by rw [Nat.pow_succ] at h; omega)
      refine ⟨UInt8.ofNat (n % 128 + 128) :: r, b, by rw [putUf_step f n (by omega), e]; rfl, hb, fun x hx => ?_⟩
      cases hx with
      | head => rw [toNat_ofNat _ (by omega)]; omega
      | tail _ hx => exact hr x hx
theorem putUf_mono (f : Nat) : ∀ n m, n ≤ m → (putUf f n).length ≤ (putUf f m).length := by
  induction f with
  | zero => intro n m _; simp [putUf]
  | succ f ih =>
    intro n m h
    by_cases hn : n < 128
    · rw [putUf_small _ n hn]; exact (putUf_length _ m).2
    · rw [putUf_step f n (by omega), putUf_step f m (by omega)]
      have := ih (n / 128) (m / 128) (by omega)
      simpa using this
theorem lt_pow10 (n : Nat) (h : n < 18446744073709551616) : n < 128 ^ (9 + 1) := by omega
theorem putU_mono (n m : Nat) (h : n ≤ m) : (putU n).length ≤ (putU m).length := putUf_mono 9 n m h
theorem putU_prefix (n m : Nat) (hn : n < 18446744073709551616) (hm : m < 18446744073709551616) (h : n ≠ m) : (putU m).take (putU n).length ≠ putU n := by
  intro e
  obtain ⟨r, b, e1, hb, hr⟩ := putUf_shape 9 n (lt_pow10 n hn)
  obtain ⟨r', b', e2, hb', hr'⟩ := putUf_shape 9 m (lt_pow10 m hm)
  have hn' : putU n = r ++ [b] := e1
  have hm' : putU m = r' ++ [b'] := e2
  rw [hn', hm'] at e
  by_cases hl : r.length < r'.length
  · have h1 : ((r' ++ [b']).take (r ++ [b]).length)[r.length]? = some b := by rw [e]; simp
    rw [List.getElem?_take, if_pos (by simp), List.getElem?_append_left hl] at h1
    have := hr' b (List.mem_of_getElem? h1)
    omega
  · have hlen : (r' ++ [b']).length ≤ (r ++ [b]).length := by simp; omega
    rw [List.take_of_length_le hlen] at e
    apply h
    rw [← uval_putUf 9 n (lt_pow10 n hn), ← uval_putUf 9 m (lt_pow10 m hm), e1, e2, e]
end Go.Proofs.YtppbcgffdpdklaaGreatDoor
