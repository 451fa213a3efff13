/- Plain: what stands in a number's shortest bytes, whatever stands behind them. No program in sight. -/
import Derived.Test.YtpodphfdoonidaaDoorLebD2
namespace Go.Proofs.YtpodphfdoonidaaDoor
open Go.RowKit

theorem szL_append (f : Nat) : ∀ (r : List UInt8) (b : UInt8) (rest : List UInt8) (i : Nat), i + r.length < 10 → (∀ x ∈ r, 128 ≤ x.toNat) → b.toNat < 128 → r.length ≤ f → szL (r ++ [b] ++ rest) i = i + r.length + 1 := by
  induction f with
  | zero =>
    intro r b rest i hi _ hb hf
    obtain rfl : r = [] := List.eq_nil_of_length_eq_zero (by omega)
    simp only [List.nil_append, List.cons_append, szL, List.length_nil]
    rw [if_neg (by simp at hi; omega), if_pos hb]
  | succ f ih =>
    intro r b rest i hi hr hb hf
    cases r with
    | nil =>
      simp only [List.nil_append, List.cons_append, szL, List.length_nil]
      rw [if_neg (by simp at hi; omega), if_pos hb]
    | cons x r =>
      have hx := hr x (List.mem_cons_self ..)
      simp only [List.length_cons] at hi hf ⊢
      have := ih r b rest (i + 1) (by omega) (fun y hy => hr y (List.mem_cons_of_mem _ hy)) hb (by omega)
      simp only [List.cons_append, szL]
      rw [if_neg (by omega), if_neg (by omega), this]
      omega
theorem gsOf_append (a b : List UInt8) : gsOf (a ++ b) = gsOf a ++ gsOf b := by simp [gsOf]
theorem gsOf_ten (l : List UInt8) (h : l.length = 10) : uval (gsOf l) = uval ((gsOf l).take 9) + 128 ^ 9 * (gsOf l).getD 9 0 := by
  have hl : (gsOf l).length = 10 := by rw [gsOf_length, h]
  have e : gsOf l = (gsOf l).take 9 ++ [(gsOf l).getD 9 0] := by
    match gsOf l, hl with
    | [a, b, c, d, e, f, g, i, j, k], _ => rfl
  have h9 : ((gsOf l).take 9).length = 9 := by simp [hl]
  calc uval (gsOf l) = uval ((gsOf l).take 9 ++ [(gsOf l).getD 9 0]) := by rw [← e]
    _ = _ := by rw [uval_snoc, h9]
theorem uvalV_put (n : Nat) (hn : n < 18446744073709551616) (rest : List UInt8) : uvalV (putU n ++ rest) = some (n, (putU n).length) := by
  obtain ⟨r, b, e, hb, hr⟩ := putUf_shape 9 n (lt_pow10 n hn)
  have e' : putU n = r ++ [b] := e
  have hlen := (putUf_length 9 n).1
  have hl10 : r.length < 10 := by
    have : (putU n).length ≤ 10 := hlen
    rw [e'] at this; simp at this; omega
  have hs : szL (putU n ++ rest) 0 = (putU n).length := by
    rw [e', szL_append r.length r b rest 0 (by omega) hr hb (Nat.le_refl _)]; simp
  have ht : (putU n ++ rest).take (putU n).length = putU n := by simp
  have hv : uval (gsOf (putU n)) = n := uval_putUf 9 n (lt_pow10 n hn)
  unfold uvalV
  rw [hs, ht, hv, if_neg (by rw [e']; simp), if_neg]
  rintro ⟨h10, h1⟩
  have := gsOf_ten (putU n) h10
  rw [hv] at this
  have h2 : 128 ^ 9 * 2 ≤ 128 ^ 9 * (gsOf (putU n)).getD 9 0 := Nat.mul_le_mul_left _ h1
  omega
theorem putSf_shape (f : Nat) : ∀ n : Int, (-(64 * 128 ^ f) ≤ n ∧ n < 64 * 128 ^ f) → ∃ r b, putSf f n = r ++ [b] ∧ b.toNat < 128 ∧ (∀ x ∈ r, 128 ≤ x.toNat) ∧ sval (gsOf (putSf f n)) = n := by
  induction f with
  | zero =>
    intro n h
    have hx : (n % 128).toNat < 128 := by omega
    refine ⟨[], UInt8.ofNat (n % 128).toNat, rfl, by rw [toNat_ofNat _ (by omega)]; exact hx, (fun _ hm => by cases hm), ?_⟩
    simp only [putSf, gsOf, List.map_cons, List.map_nil, sval, toNat_ofNat _ (show (n % 128).toNat < 256 by omega)]
    split <;> omega
  | succ f ih =>
    intro n h
    by_cases hn : -64 ≤ n ∧ n < 64
    · have hx : (n % 128).toNat < 128 := by omega
      refine ⟨[], UInt8.ofNat (n % 128).toNat, putSf_small _ n hn, by rw [toNat_ofNat _ (by omega)]; exact hx, (fun _ hm => by cases hm), ?_⟩
      rw [putSf_small _ n hn]
      simp only [gsOf, List.map_cons, List.map_nil, sval, toNat_ofNat _ (show (n % 128).toNat < 256 by omega)]
      split <;> omega
    · obtain ⟨r, b, e, hb, hr, hs⟩ := ih (n / 128) (by rw [Int.pow_succ] at h; omega)
      rw [putSf_step f n hn]
      have hx : ((n % 128).toNat + 128) % 128 = (n % 128).toNat := by omega
      refine ⟨UInt8.ofNat ((n % 128).toNat + 128) :: r, b, by rw [e]; rfl, hb, fun x hx => ?_, ?_⟩
      · cases hx with
        | head => rw [toNat_ofNat _ (by omega)]; omega
        | tail _ hx => exact hr x hx
      · have hne : ∃ y ys, gsOf (putSf f (n / 128)) = y :: ys := by
          have := (putSf_length f (n / 128)).2
          cases hp : putSf f (n / 128) with
          | nil => rw [hp] at this; simp at this
          | cons c cs => exact ⟨_, _, rfl⟩
        obtain ⟨y, ys, hy⟩ := hne
        have eg : gsOf (UInt8.ofNat ((n % 128).toNat + 128) :: putSf f (n / 128)) = (n % 128).toNat :: gsOf (putSf f (n / 128)) := by
          simp only [gsOf, List.map_cons, toNat_ofNat _ (show (n % 128).toNat + 128 < 256 by omega), hx]
        rw [eg, hy]
        simp only [sval]
        rw [← hy, hs]
        omega
theorem svalV_put (n : Int) (hn : -9223372036854775808 ≤ n ∧ n < 9223372036854775808) (rest : List UInt8) : svalV (putS n ++ rest) = some (n, (putS n).length) := by
  obtain ⟨r, b, e, hb, hr, hv⟩ := putSf_shape 9 n (by omega)
  have e' : putS n = r ++ [b] := e
  have hv' : sval (gsOf (putS n)) = n := hv
  have hlen := (putSf_length 9 n).1
  have hl10 : r.length < 10 := by
    have : (putS n).length ≤ 10 := hlen
    rw [e'] at this; simp at this; omega
  have hs : szL (putS n ++ rest) 0 = (putS n).length := by
    rw [e', szL_append r.length r b rest 0 (by omega) hr hb (Nat.le_refl _)]; simp
  have ht : (putS n ++ rest).take (putS n).length = putS n := by simp
  unfold svalV
  rw [hs, ht, hv', if_neg (by rw [e']; simp), if_neg]
  rintro ⟨h10, h1⟩
  have hl : (gsOf (putS n)).length = 10 := by rw [gsOf_length, h10]
  have hd := sval_drop (gsOf (putS n)) 0 (by omega)
  have ho := s_out (gsOf (putS n)) hl (gsOf_lt _) h1
  have h0 : (gsOf (putS n)).getD 0 0 < 128 := by
    have : (gsOf (putS n)).getD 0 0 ∈ gsOf (putS n) := by rw [List.getD_eq_getElem?_getD, List.getElem?_eq_getElem (by omega)]; exact List.getElem_mem _
    exact gsOf_lt _ _ this
  rw [List.drop_zero, hv', if_neg (by omega)] at hd
  simp only [Nat.zero_add] at hd
  omega
end Go.Proofs.YtpodphfdoonidaaDoor
