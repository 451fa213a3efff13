/- Plain: where the reference's reckoning goes beyond, and where it does not. No program in sight. -/
import Derived.Test.YtpodphfdoonidaaDoorLebD
namespace Go.Proofs.YtpodphfdoonidaaDoor
open Go.RowKit

theorem uval_snoc (xs : List Nat) (y : Nat) : uval (xs ++ [y]) = uval xs + 128 ^ xs.length * y := by
  induction xs with
  | nil => simp [uval]
  | cons x r ih => simp only [List.cons_append, uval, ih, List.length_cons, Nat.pow_succ, Nat.mul_add, Nat.mul_comm (128 ^ r.length) 128, Nat.mul_assoc, Nat.add_assoc]
theorem uval_lt (xs : List Nat) (h : ∀ x ∈ xs, x < 128) : uval xs < 128 ^ xs.length := by
  induction xs with
  | nil => simp [uval]
  | cons x r ih =>
    have h1 := h x (List.mem_cons_self ..)
    have h2 := ih (fun y hy => h y (List.mem_cons_of_mem _ hy))
    simp only [uval, List.length_cons, Nat.pow_succ]
    omega
theorem sval_snoc (xs : List Nat) (y : Nat) : sval (xs ++ [y]) = (uval xs : Int) + 128 ^ xs.length * (if 64 ≤ y then (y : Int) - 128 else y) := by
  induction xs with
  | nil => simp [uval, sval]
  | cons x r ih =>
    have e : sval (x :: r ++ [y]) = (x : Int) + 128 * sval (r ++ [y]) := by
      cases r with
      | nil => rfl
      | cons z r' => rfl
    rw [e, ih]
    simp only [uval, List.length_cons]
    rw [Int.pow_succ]
    push_cast
    rw [Int.mul_add, ← Int.add_assoc, ← Int.mul_assoc, Int.mul_comm 128 (128 ^ r.length)]
theorem gsOf_lt (l : List UInt8) : ∀ x ∈ gsOf l, x < 128 := by
  intro x hx
  obtain ⟨b, _, rfl⟩ := List.mem_map.1 hx
  exact Nat.mod_lt _ (by decide)
theorem gsOf_length (l : List UInt8) : (gsOf l).length = l.length := by simp [gsOf]
/-- Ten groups, less the first: eight, and the tenth. -/
theorem ten_drop (gs : List Nat) (h : gs.length = 10) : gs.drop 1 = (gs.drop 1).take 8 ++ [gs.getD 9 0] := by
  match gs, h with
  | [a, b, c, d, e, f, g, i, j, k], _ => rfl
theorem u_below (gs : List Nat) (hl : gs.length ≤ 10) (hg : ∀ x ∈ gs, x < 128) (h : ¬ (gs.length = 10 ∧ 1 < gs.getD 9 0)) (j : Nat) (hj : 1 ≤ j) : uval (gs.drop j) < 144115188075855872 := by
  have hd : ∀ x ∈ gs.drop j, x < 128 := fun x hx => hg x (List.mem_of_mem_drop hx)
  have hlt := uval_lt _ hd
  have hlen : (gs.drop j).length = gs.length - j := by simp
  by_cases h9 : gs.length - j ≤ 8
  · have : (128 : Nat) ^ (gs.length - j) ≤ 128 ^ 8 := Nat.pow_le_pow_right (by decide) h9
    rw [hlen] at hlt
    omega
  · obtain rfl : j = 1 := by omega
    have hl10 : gs.length = 10 := by omega
    have h1 : gs.getD 9 0 ≤ 1 := by
      rcases Nat.lt_or_ge 1 (gs.getD 9 0) with h' | h'
      · exact absurd ⟨hl10, h'⟩ h
      · exact h'
    rw [ten_drop gs hl10, uval_snoc]
    have h8 : ((gs.drop 1).take 8).length = 8 := by simp [hl10]
    have := uval_lt ((gs.drop 1).take 8) (fun x hx => hd x (List.mem_of_mem_take hx))
    rw [h8] at this ⊢
    have : 128 ^ 8 * gs.getD 9 0 ≤ 128 ^ 8 * 1 := Nat.mul_le_mul_left _ h1
    omega
theorem u_above (gs : List Nat) (hl : gs.length = 10) (h : 1 < gs.getD 9 0) : 144115188075855872 ≤ uval (gs.drop 1) := by
  rw [ten_drop gs hl, uval_snoc]
  have h8 : ((gs.drop 1).take 8).length = 8 := by simp [hl]
  rw [h8]
  have : 128 ^ 8 * 2 ≤ 128 ^ 8 * gs.getD 9 0 := Nat.mul_le_mul_left _ h
  omega
theorem uval_drop (gs : List Nat) (j : Nat) (h : j < gs.length) : uval (gs.drop j) = gs.getD j 0 + 128 * uval (gs.drop (j + 1)) := by
  rw [List.drop_eq_getElem_cons h]; simp [uval, h]
/-- In a row of signed groups. -/
theorem sval_drop (gs : List Nat) (j : Nat) (h : j < gs.length) : sval (gs.drop j) = (if j + 1 = gs.length ∧ 64 ≤ gs.getD j 0 then (gs.getD j 0 : Int) - 128 else gs.getD j 0) + 128 * sval (gs.drop (j + 1)) := by
  rw [List.drop_eq_getElem_cons h]
  have e : gs.getD j 0 = gs[j] := by simp [h]
  rw [e]
  by_cases hl : j + 1 = gs.length
  · have : gs.drop (j + 1) = [] := List.drop_eq_nil_of_le (by omega)
    rw [this]
    simp only [sval, hl, true_and]
    simp
  · rw [if_neg (by omega)]
    rw [List.drop_eq_getElem_cons (show j + 1 < gs.length by omega)]
    rfl
theorem sval_bd (gs : List Nat) (hg : ∀ x ∈ gs, x < 128) : -(64 * 128 ^ (gs.length - 1)) ≤ sval gs ∧ sval gs < 64 * 128 ^ (gs.length - 1) := by
  rcases List.eq_nil_or_concat gs with rfl | ⟨xs, y, rfl⟩
  · simp [sval]
  · rw [List.concat_eq_append] at *
    rw [sval_snoc]
    have h1 := uval_lt xs (fun x hx => hg x (by simp [hx]))
    have h2 := hg y (by simp)
    have e : (xs ++ [y]).length - 1 = xs.length := by simp
    rw [e]
    have e0 : ((128 : Int) ^ xs.length) = ((128 ^ xs.length : Nat) : Int) := by push_cast; rfl
    rw [e0]
    have hp : 0 < (128 : Nat) ^ xs.length := Nat.pow_pos (by decide)
    split
    · have a1 : ((128 ^ xs.length : Nat) : Int) * (-64) ≤ ((128 ^ xs.length : Nat) : Int) * ((y : Int) - 128) := Int.mul_le_mul_of_nonneg_left (by omega) (by omega)
      have a2 : ((128 ^ xs.length : Nat) : Int) * ((y : Int) - 128) ≤ ((128 ^ xs.length : Nat) : Int) * (-1) := Int.mul_le_mul_of_nonneg_left (by omega) (by omega)
      omega
    · have a1 : ((128 ^ xs.length : Nat) : Int) * 0 ≤ ((128 ^ xs.length : Nat) : Int) * (y : Int) := Int.mul_le_mul_of_nonneg_left (by omega) (by omega)
      have a2 : ((128 ^ xs.length : Nat) : Int) * (y : Int) ≤ ((128 ^ xs.length : Nat) : Int) * 63 := Int.mul_le_mul_of_nonneg_left (by omega) (by omega)
      omega
theorem s_below (gs : List Nat) (hl : gs.length ≤ 10) (hg : ∀ x ∈ gs, x < 128) (h : ¬ (gs.length = 10 ∧ ¬ (gs.getD 9 0 = 0 ∨ gs.getD 9 0 = 127))) (j : Nat) (hj : 1 ≤ j) : -72057594037927936 ≤ sval (gs.drop j) ∧ sval (gs.drop j) < 72057594037927936 := by
  have hd : ∀ x ∈ gs.drop j, x < 128 := fun x hx => hg x (List.mem_of_mem_drop hx)
  have hlt := sval_bd _ hd
  have hlen : (gs.drop j).length = gs.length - j := by simp
  by_cases h9 : gs.length - j ≤ 8
  · have h7 : (128 : Nat) ^ (gs.length - j - 1) ≤ 128 ^ 7 := Nat.pow_le_pow_right (by decide) (by omega)
    have e0 : ((128 : Int) ^ (gs.length - j - 1)) = ((128 ^ (gs.length - j - 1) : Nat) : Int) := by push_cast; rfl
    rw [hlen, e0] at hlt
    omega
  · obtain rfl : j = 1 := by omega
    have hl10 : gs.length = 10 := by omega
    have h1 : gs.getD 9 0 = 0 ∨ gs.getD 9 0 = 127 := by
      rcases Decidable.em (gs.getD 9 0 = 0 ∨ gs.getD 9 0 = 127) with h' | h'
      · exact h'
      · exact absurd ⟨hl10, h'⟩ h
    have h8 : ((gs.drop 1).take 8).length = 8 := by simp [hl10]
    have hu := uval_lt ((gs.drop 1).take 8) (fun x hx => hd x (List.mem_of_mem_take hx))
    rw [ten_drop gs hl10, sval_snoc]
    rw [h8] at hu ⊢
    rcases h1 with h1 | h1
    · rw [h1, if_neg (by decide)]; omega
    · rw [h1, if_pos (by decide)]; omega
theorem s_out (gs : List Nat) (hl : gs.length = 10) (hg : ∀ x ∈ gs, x < 128) (h : ¬ (gs.getD 9 0 = 0 ∨ gs.getD 9 0 = 127)) : sval (gs.drop 1) < -72057594037927936 ∨ 72057594037927936 ≤ sval (gs.drop 1) := by
  have hd : ∀ x ∈ gs.drop 1, x < 128 := fun x hx => hg x (List.mem_of_mem_drop hx)
  have h8 : ((gs.drop 1).take 8).length = 8 := by simp [hl]
  have hu := uval_lt ((gs.drop 1).take 8) (fun x hx => hd x (List.mem_of_mem_take hx))
  have h9 : gs.getD 9 0 < 128 := by
    have : gs.getD 9 0 ∈ gs := by rw [List.getD_eq_getElem?_getD, List.getElem?_eq_getElem (by omega)]; exact List.getElem_mem _
    exact hg _ this
  rw [ten_drop gs hl, sval_snoc]
  rw [h8] at hu ⊢
  split <;> omega
end Go.Proofs.YtpodphfdoonidaaDoor
