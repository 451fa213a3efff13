/- Plain: a number's bytes with groups of nothing behind them. No program in sight. -/
import Derived.Test.YtpodphfdoonidaaDoorSl2
namespace Go.Proofs.YtpodphfdoonidaaDoor
open Go.RowKit

theorem szL_long (r : List UInt8) : ∀ (i : Nat) (rest : List UInt8), 10 ≤ i + r.length → (∀ x ∈ r, 128 ≤ x.toNat) → szL (r ++ rest) i = 0 := by
  induction r with
  | nil =>
    intro i rest h _
    simp only [List.length_nil, List.nil_append] at h ⊢
    cases rest with
    | nil => rfl
    | cons b rest => unfold szL; rw [if_pos (by omega)]
  | cons x r ih =>
    intro i rest h hx
    have h1 := hx x (List.mem_cons_self ..)
    simp only [List.length_cons] at h
    simp only [List.cons_append, szL]
    split
    · rfl
    · rw [if_neg (by omega), ih (i + 1) rest (by omega) (fun y hy => hx y (List.mem_cons_of_mem _ hy))]
theorem uval_zeros (xs : List Nat) (k : Nat) : uval (xs ++ List.replicate k 0) = uval xs := by
  induction xs with
  | nil =>
    induction k with
    | zero => rfl
    | succ k ih => simp only [List.nil_append] at ih; simp only [List.nil_append, List.replicate_succ, uval, ih]
  | cons x r ih => simp only [List.cons_append, uval, ih]
theorem sval_sign (xs : List Nat) (hx : ∀ x ∈ xs, x < 128) (y : Nat) (hy : y < 128) : sval (xs ++ [y]) < 0 ↔ 64 ≤ y := by
  rw [sval_snoc]
  have h1 := uval_lt xs hx
  have e0 : ((128 : Int) ^ xs.length) = ((128 ^ xs.length : Nat) : Int) := by push_cast; rfl
  rw [e0]
  have hp : 0 < (128 : Nat) ^ xs.length := Nat.pow_pos (by decide)
  split
  · have a2 : ((128 ^ xs.length : Nat) : Int) * ((y : Int) - 128) ≤ ((128 ^ xs.length : Nat) : Int) * (-1) := Int.mul_le_mul_of_nonneg_left (by omega) (by omega)
    omega
  · have a1 : ((128 ^ xs.length : Nat) : Int) * 0 ≤ ((128 ^ xs.length : Nat) : Int) * (y : Int) := Int.mul_le_mul_of_nonneg_left (by omega) (by omega)
    omega
theorem sval_fill1 (xs : List Nat) (hx : ∀ x ∈ xs, x < 128) (hne : xs ≠ []) (f : Nat) (hf : f = if sval xs < 0 then 127 else 0) : sval (xs ++ [f]) = sval xs := by
  rcases List.eq_nil_or_concat xs with rfl | ⟨ys, y, rfl⟩
  · exact absurd rfl hne
  · rw [List.concat_eq_append] at *
    have hy : y < 128 := hx y (by simp)
    have hs := sval_sign ys (fun x h => hx x (by simp [h])) y hy
    rw [sval_snoc (ys ++ [y]) f, sval_snoc ys y, uval_snoc]
    rw [List.length_append, List.length_singleton, Int.pow_succ]
    by_cases h64 : 64 ≤ y
    · rw [if_pos (hs.2 h64)] at hf
      subst hf
      rw [if_pos (by decide), if_pos h64]
      push_cast
      rw [Int.mul_assoc, Int.mul_sub]
      omega
    · rw [if_neg (fun h => h64 (hs.1 h))] at hf
      subst hf
      rw [if_neg (by decide), if_neg h64]
      push_cast
      omega
theorem sval_fill (k : Nat) : ∀ (xs : List Nat), (∀ x ∈ xs, x < 128) → xs ≠ [] → ∀ f, f = (if sval xs < 0 then 127 else 0) → sval (xs ++ List.replicate k f) = sval xs := by
  induction k with
  | zero => intro xs _ _ f _; simp
  | succ k ih =>
    intro xs hx hne f hf
    have h1 := sval_fill1 xs hx hne f hf
    have hf128 : f < 128 := by rw [hf]; split <;> omega
    have := ih (xs ++ [f]) (fun x h => by rcases List.mem_append.1 h with h | h; exact hx x h; rw [List.mem_singleton] at h; omega) (by simp) f (by rw [h1]; exact hf)
    rw [List.replicate_succ, List.append_cons, this, h1]
/-- The bytes: all but the last bear the mark. -/
def padL (r : List UInt8) (b f : UInt8) (k : Nat) : List UInt8 := r ++ [b + 128] ++ List.replicate k (f + 128) ++ [f]
theorem toNat_add128 (b : UInt8) (h : b.toNat < 128) : (b + 128).toNat = b.toNat + 128 := by
  rw [UInt8.toNat_add]; simp; omega
theorem pad_ge (r : List UInt8) (b f : UInt8) (k : Nat) (hr : ∀ x ∈ r, 128 ≤ x.toNat) (hb : b.toNat < 128) (hf : f.toNat < 128) : ∀ x ∈ r ++ [b + 128] ++ List.replicate k (f + 128), 128 ≤ x.toNat := by
  intro x hx
  rcases List.mem_append.1 hx with hx | hx
  · rcases List.mem_append.1 hx with hx | hx
    · exact hr x hx
    · rw [List.mem_singleton] at hx; rw [hx, toNat_add128 b hb]; omega
  · rw [(List.mem_replicate.1 hx).2, toNat_add128 f hf]; omega
theorem gsOf_pad (r : List UInt8) (b f : UInt8) (k : Nat) (hb : b.toNat < 128) (hf : f.toNat < 128) : gsOf (padL r b f k) = gsOf (r ++ [b]) ++ List.replicate (k + 1) f.toNat := by
  unfold padL
  rw [gsOf_append, gsOf_append, gsOf_append, gsOf_append]
  have e1 : gsOf [b + 128] = gsOf [b] := by simp only [gsOf, List.map_cons, List.map_nil, toNat_add128 b hb]; congr 1; omega
  have e2 : gsOf (List.replicate k (f + 128)) = List.replicate k f.toNat := by
    simp only [gsOf, List.map_replicate, toNat_add128 f hf]; congr 1; omega
  have e3 : gsOf [f] = [f.toNat] := by simp only [gsOf, List.map_cons, List.map_nil]; congr 1; omega
  rw [e1, e2, e3, List.append_assoc (gsOf r ++ gsOf [b]), List.replicate_succ']
theorem pad_length (r : List UInt8) (b f : UInt8) (k : Nat) : (padL r b f k).length = r.length + k + 2 := by simp [padL]; omega
theorem pad_szL (r : List UInt8) (b f : UInt8) (k : Nat) (hr : ∀ x ∈ r, 128 ≤ x.toNat) (hb : b.toNat < 128) (hf : f.toNat < 128) :
    szL (padL r b f k) 0 = if r.length + k + 2 ≤ 10 then r.length + k + 2 else 0 := by
  have hg := pad_ge r b f k hr hb hf
  have hl : (r ++ [b + 128] ++ List.replicate k (f + 128)).length = r.length + k + 1 := by simp; omega
  split
  · have := szL_append (r.length + k + 1) (r ++ [b + 128] ++ List.replicate k (f + 128)) f [] 0 (by omega) hg hf (by omega)
    rw [List.append_nil, hl] at this
    unfold padL; rw [this]; omega
  · exact szL_long _ 0 [f] (by omega) hg
theorem getD_last (xs : List Nat) (k f : Nat) (h : xs.length + (k + 1) = 10) : (xs ++ List.replicate (k + 1) f).getD 9 0 = f := by
  rw [List.getD_eq_getElem?_getD, List.getElem?_append_right (by omega), List.getElem?_replicate, if_pos (by omega)]; rfl
theorem padU_val (r : List UInt8) (b : UInt8) (k : Nat) (hr : ∀ x ∈ r, 128 ≤ x.toNat) (hb : b.toNat < 128) :
    uvalV (padL r b 0 k) = if r.length + k + 2 ≤ 10 then some (uval (gsOf (r ++ [b])), r.length + k + 2) else none := by
  have hs := pad_szL r b 0 k hr hb (by decide)
  have hg := gsOf_pad r b 0 k hb (by decide)
  rw [show (0 : UInt8).toNat = 0 from rfl] at hg
  have hl := pad_length r b 0 k
  unfold uvalV
  rw [hs]
  split
  · rw [if_neg (by omega), List.take_of_length_le (by omega), hg, uval_zeros, if_neg]
    rintro ⟨h1, h2⟩
    rw [getD_last _ _ _ (by rw [gsOf_length]; simp; omega)] at h2
    simp at h2
  · rw [if_pos rfl]
theorem padS_val (r : List UInt8) (b f : UInt8) (k : Nat) (hr : ∀ x ∈ r, 128 ≤ x.toNat) (hb : b.toNat < 128) (hf : f.toNat = if sval (gsOf (r ++ [b])) < 0 then 127 else 0) :
    svalV (padL r b f k) = if r.length + k + 2 ≤ 10 then some (sval (gsOf (r ++ [b])), r.length + k + 2) else none := by
  have hf2 : f.toNat = 0 ∨ f.toNat = 127 := by rw [hf]; split <;> omega
  have hf3 : f.toNat < 128 := by omega
  have hs := pad_szL r b f k hr hb hf3
  have hg := gsOf_pad r b f k hb hf3
  have hl := pad_length r b f k
  unfold svalV
  rw [hs]
  split
  · rw [if_neg (by omega), List.take_of_length_le (by omega), hg, sval_fill (k + 1) _ (gsOf_lt _) (by simp [gsOf]) _ hf, if_neg]
    rintro ⟨h1, h2⟩
    rw [getD_last _ _ _ (by rw [gsOf_length]; simp; omega)] at h2
    exact h2 hf2
  · rw [if_pos rfl]
theorem padU_cases (n : Nat) (r : List UInt8) (b : UInt8) (k : Nat) (hr : ∀ x ∈ r, 128 ≤ x.toNat) (hb : b.toNat < 128) (hn : uval (gsOf (r ++ [b])) = n) (U : List UInt8) (hU : U = padL r b 0 k) :
    ∃ (x : Int) (s : CS), lebV ulebR ⟨U, 0, false, false⟩ = x ∧ lebS ulebR ⟨U, 0, false, false⟩ = s ∧ ((U.length ≤ 10 ∧ x = n ∧ s = ⟨U, U.length, false, false⟩) ∨ (10 < U.length ∧ x = 0 ∧ s = ⟨U, 0, false, true⟩)) := by
  have hv := padU_val r b k hr hb
  have hl := pad_length r b 0 k
  rw [← hU] at hv hl
  rw [← hl] at hv
  refine ⟨_, _, rfl, rfl, ?_⟩
  by_cases h : U.length ≤ 10
  · rw [if_pos h, hn] at hv
    obtain ⟨e1, e2⟩ := U_some (l := U) (k := 0) false (by rw [List.drop_zero]; exact hv)
    rw [Nat.zero_add] at e2
    exact .inl ⟨h, e1, e2⟩
  · rw [if_neg h] at hv
    obtain ⟨e1, e2⟩ := U_none (l := U) (k := 0) false (by rw [List.drop_zero]; exact hv)
    exact .inr ⟨by omega, e1, e2⟩
theorem padS_cases (m : Int) (r : List UInt8) (b f : UInt8) (k : Nat) (hr : ∀ x ∈ r, 128 ≤ x.toNat) (hb : b.toNat < 128) (hm : sval (gsOf (r ++ [b])) = m) (hf : f.toNat = if m < 0 then 127 else 0) (U : List UInt8) (hU : U = padL r b f k) :
    ∃ (x : Int) (s : CS), lebV slebR ⟨U, 0, false, false⟩ = x ∧ lebS slebR ⟨U, 0, false, false⟩ = s ∧ ((U.length ≤ 10 ∧ x = m ∧ s = ⟨U, U.length, false, false⟩) ∨ (10 < U.length ∧ x = 0 ∧ s = ⟨U, 0, false, true⟩)) := by
  have hv := padS_val r b f k hr hb (by rw [hm]; exact hf)
  have hl := pad_length r b f k
  rw [← hU] at hv hl
  rw [← hl] at hv
  refine ⟨_, _, rfl, rfl, ?_⟩
  by_cases h : U.length ≤ 10
  · rw [if_pos h, hm] at hv
    obtain ⟨e1, e2⟩ := S_some (l := U) (k := 0) false (by rw [List.drop_zero]; exact hv)
    rw [Nat.zero_add] at e2
    exact .inl ⟨h, e1, e2⟩
  · rw [if_neg h] at hv
    obtain ⟨e1, e2⟩ := S_none (l := U) (k := 0) false (by rw [List.drop_zero]; exact hv)
    exact .inr ⟨by omega, e1, e2⟩
end Go.Proofs.YtpodphfdoonidaaDoor
