/- Lemmas, laid together: part 21 of 41. Conditions: none but each lemma's own. -/
import Derived.Test.YtkomocgodljecaaGreatDoorK20
import Derived.Test.YtkomocgodljecaaGreatDoorK14
import Derived.Test.YtkomocgodljecaaGreatDoorK17
/- Plain: what groups of bytes come to, as numbers and as signed ones. No program in sight. -/
namespace Go.Proofs.YtkomocgodljecaaGreatDoor
open Go.RowKit

theorem ofInt_toNat (a : Int) : (BitVec.ofInt 64 a).toNat = (a % 18446744073709551616).toNat := by rw [BitVec.toNat_ofInt]; rfl
theorem i64_and_nat (a b : Int) : bits .and .i64 a b = IntKind.i64.wrap (((a % 18446744073709551616).toNat &&& (b % 18446744073709551616).toNat : Nat) : Int) := by
  show IntKind.i64.wrap ((BitVec.ofInt 64 a &&& BitVec.ofInt 64 b).toNat : Int) = _
  rw [BitVec.toNat_and, ofInt_toNat, ofInt_toNat]
theorem i64_or_nat (a b : Int) : bits .or .i64 a b = IntKind.i64.wrap (((a % 18446744073709551616).toNat ||| (b % 18446744073709551616).toNat : Nat) : Int) := by
  show IntKind.i64.wrap ((BitVec.ofInt 64 a ||| BitVec.ofInt 64 b).toNat : Int) = _
  rw [BitVec.toNat_or, ofInt_toNat, ofInt_toNat]
theorem pow_split (j : Nat) (h : j ≤ 63) : (2 : Nat) ^ j * 2 ^ (63 - j) = 9223372036854775808 := by
  rw [← Nat.pow_add, show j + (63 - j) = 63 by omega]
theorem pow_le63 (j : Nat) (h : j ≤ 63) : (2 : Nat) ^ j ≤ 9223372036854775808 ∧ 0 < (2 : Nat) ^ j := by
  refine ⟨?_, Nat.pow_pos (by decide)⟩
  have : (2 : Nat) ^ j ≤ 2 ^ 63 := Nat.pow_le_pow_right (by decide) h
  simpa using this
theorem i64_mask (a : Int) (j : Nat) (h : j ≤ 63) (p : Nat) (hp : p = 2 ^ j) : bits .and .i64 a ((p : Int) - 1) = a % p := by
  obtain ⟨h1, h2⟩ := pow_le63 j h
  have hs := pow_split j h
  rw [← hp] at h1 h2 hs
  have e1 : (((p : Int) - 1) % 18446744073709551616).toNat = 2 ^ j - 1 := by rw [← hp]; omega
  rw [i64_and_nat, e1, Nat.and_two_pow_sub_one_eq_mod, ← hp]
  have e2 : (a % 18446744073709551616).toNat % p = (a % p).toNat := by
    have : (((a % 18446744073709551616).toNat % p : Nat) : Int) = a % p := by
      rw [Int.natCast_emod, Int.toNat_of_nonneg (Int.emod_nonneg _ (by decide))]
      exact Int.emod_emod_of_dvd a ⟨((2 * 2 ^ (63 - j) : Nat) : Int), by
        rw [← Int.natCast_mul, Nat.mul_left_comm, hs]; rfl⟩
    omega
  rw [e2, IntKind.wrap_i64]
  have h3 : 0 ≤ a % (p : Int) := Int.emod_nonneg _ (by omega)
  have h4 : a % (p : Int) < p := Int.emod_lt_of_pos _ (by omega)
  omega
theorem i64_join (a b j : Nat) (ha : a < 2 ^ j) (hb : b % 2 ^ j = 0) (h : a + b < 9223372036854775808) : bits .or .i64 (a : Int) (b : Int) = ((a + b : Nat) : Int) := by
  rw [i64_or_nat]
  have e1 : ((a : Int) % 18446744073709551616).toNat = a := by omega
  have e2 : ((b : Int) % 18446744073709551616).toNat = b := by omega
  rw [e1, e2, Nat.or_comm, nat_join j b a hb ha, IntKind.wrap_i64]
  omega
theorem i64_neg (a j : Nat) (p : Nat) (hp : p = 2 ^ j) (h : j ≤ 63) (ha : a < p) : bits .or .i64 (a : Int) (-(p : Int)) = (a : Int) - p := by
  obtain ⟨h1, h2⟩ := pow_le63 j h
  have hs := pow_split j h
  rw [← hp] at h1 h2 hs
  rw [i64_or_nat]
  have e1 : ((a : Int) % 18446744073709551616).toNat = a := by omega
  have e2 : (-(p : Int) % 18446744073709551616).toNat = 18446744073709551616 - p := by omega
  have e3 : (18446744073709551616 - p) % 2 ^ j = 0 := by
    rw [← hp, show 18446744073709551616 = p * (2 * 2 ^ (63 - j)) from by rw [Nat.mul_left_comm, hs]]
    have : p * (2 * 2 ^ (63 - j)) - p = p * (2 * 2 ^ (63 - j) - 1) := by rw [Nat.mul_sub, Nat.mul_one]
    rw [this, Nat.mul_mod_right]
  rw [e1, e2, Nat.or_comm, nat_join j _ a e3 (by omega), IntKind.wrap_i64]
  omega

/-- Where the number ahead ends: how many bytes it has with the i ahead of them; 0: nowhere. -/
def szL : List UInt8 → Nat → Nat
  | [], _ => 0
  | b :: r, i => if 10 ≤ i then 0 else if b.toNat < 128 then i + 1 else szL r (i + 1)
theorem szL_bd (l : List UInt8) : ∀ i, szL l i = 0 ∨ (i < szL l i ∧ szL l i ≤ 10 ∧ szL l i ≤ i + l.length) := by
  induction l with
  | nil => intro i; exact .inl rfl
  | cons b r ih =>
    intro i
    unfold szL
    split
    · exact .inl rfl
    · split
      · right; simp; omega
      · rcases ih (i + 1) with h | h
        · exact .inl h
        · right; simp; omega
def uvalV (l : List UInt8) : Option (Nat × Nat) :=
  if szL l 0 = 0 then none else if szL l 0 = 10 ∧ 1 < (gsOf (l.take (szL l 0))).getD 9 0 then none else some (uval (gsOf (l.take (szL l 0))), szL l 0)
theorem uStep_eq (i x G : Nat) (hi : i < 10) (hx : x < 128) (hok : uOk i x = true) (hG : G < 128 ^ i) : uStep i x (G : Int) = ((G + 128 ^ i * x : Nat) : Int) := by
  have e128 : (128 : Nat) ^ i = 2 ^ (7 * i) := by rw [Nat.pow_mul]
  have hx2 : 128 ^ i * x < 18446744073709551616 := by
    by_cases h9 : i < 9
    · have : (128 : Nat) ^ i ≤ 128 ^ 8 := Nat.pow_le_pow_right (by decide) (by omega)
      have : 128 ^ i * x ≤ 128 ^ 8 * 127 := Nat.mul_le_mul this (by omega)
      omega
    · obtain rfl : i = 9 := by omega
      have : x ≤ 1 := by simpa [uOk] using hok
      omega
  have hG2 : G < 18446744073709551616 := by
    have : (128 : Nat) ^ i ≤ 128 ^ 9 := Nat.pow_le_pow_right (by decide) (by omega)
    omega
  unfold uStep
  have e1 : (x : Int) * 2 ^ (7 * i) = ((128 ^ i * x : Nat) : Int) := by rw [e128, Nat.mul_comm (2 ^ (7 * i)) x]; push_cast; rfl
  rw [e1, IntKind.wrap_u64, Int.emod_eq_of_lt (by omega) (by omega), u64_or_nat _ _ hG2 hx2, Nat.or_comm, nat_join (7 * i) _ _ (by rw [← e128]; exact Nat.mul_mod_right _ _) (by rw [← e128]; exact hG), Nat.add_comm]
theorem grp_u (l : List UInt8) : ∀ (i G : Nat), i ≤ 10 → G < 128 ^ i → grp uOk uStep l i (G : Int) =
    if szL l i = 0 then none else if szL l i = 10 ∧ 1 < (gsOf (l.take (szL l i - i))).getD (9 - i) 0 then none else some (((G + 128 ^ i * uval (gsOf (l.take (szL l i - i))) : Nat) : Int), szL l i) := by
  induction l with
  | nil => intro i G _ _; rfl
  | cons b r ih =>
    intro i G hi hG
    have hbd := szL_bd r (i + 1)
    have hx : b.toNat % 128 < 128 := Nat.mod_lt _ (by decide)
    by_cases h10 : 10 ≤ i
    · rw [grp, if_pos h10, szL, if_pos h10, if_pos rfl]
    · rw [grp, if_neg h10, szL, if_neg h10]
      by_cases h128 : b.toNat < 128
      · rw [if_pos h128, if_pos h128, if_neg (show ¬ i + 1 = 0 by omega), show i + 1 - i = 1 by omega]
        have eg : gsOf ((b :: r).take 1) = [b.toNat % 128] := rfl
        rw [eg]
        by_cases hok : uOk i (b.toNat % 128) = true
        · rw [if_neg (show ¬ uOk i (b.toNat % 128) = false by rw [hok]; decide), if_neg, uStep_eq i _ G (by omega) hx hok hG]
          · simp [uval]
          · rintro ⟨h1, h2⟩
            obtain rfl : i = 9 := by omega
            simp [uOk] at hok h2
            omega
        · have hok' : uOk i (b.toNat % 128) = false := by simpa using hok
          rw [if_pos hok', if_pos]
          simp [uOk] at hok'
          obtain rfl : i = 9 := by omega
          exact ⟨rfl, by simp; omega⟩
      · rw [if_neg h128, if_neg h128]
        by_cases hok : uOk i (b.toNat % 128) = true
        · rw [if_neg (show ¬ uOk i (b.toNat % 128) = false by rw [hok]; decide), uStep_eq i _ G (by omega) hx hok hG, ih (i + 1) _ (by omega) (by
            rw [Nat.pow_succ]
            have : 128 ^ i * (b.toNat % 128) ≤ 128 ^ i * 127 := Nat.mul_le_mul_left _ (by omega)
            omega)]
          rcases hbd with h0 | ⟨h1, h2, h3⟩
          · rw [if_pos h0, if_pos h0]
          · have hne : ¬ szL r (i + 1) = 0 := by omega
            rw [if_neg hne, if_neg hne]
            have et : szL r (i + 1) - i = (szL r (i + 1) - (i + 1)) + 1 := by omega
            have eg : gsOf ((b :: r).take (szL r (i + 1) - i)) = (b.toNat % 128) :: gsOf (r.take (szL r (i + 1) - (i + 1))) := by rw [et]; rfl
            rw [eg]
            have e9 : szL r (i + 1) = 10 → ((b.toNat % 128) :: gsOf (r.take (szL r (i + 1) - (i + 1)))).getD (9 - i) 0 = (gsOf (r.take (szL r (i + 1) - (i + 1)))).getD (9 - (i + 1)) 0 := by
              intro h
              rw [show 9 - i = (9 - (i + 1)) + 1 by omega]; rfl
            by_cases hc : szL r (i + 1) = 10 ∧ 1 < (gsOf (r.take (szL r (i + 1) - (i + 1)))).getD (9 - (i + 1)) 0
            · rw [if_pos hc, if_pos ⟨hc.1, by rw [e9 hc.1]; exact hc.2⟩]
            · rw [if_neg hc, if_neg (fun hh => hc ⟨hh.1, by rw [← e9 hh.1]; exact hh.2⟩)]
              simp only [uval, Nat.pow_succ, Nat.mul_add, Nat.mul_assoc, Nat.add_assoc]
        · have hok' : uOk i (b.toNat % 128) = false := by simpa using hok
          rw [if_pos hok']
          simp [uOk] at hok'
          obtain rfl : i = 9 := by omega
          rcases hbd with h0 | ⟨h1, h2, h3⟩
          · rw [if_pos h0]
          · omega
theorem ulebR_eq (l : List UInt8) : ulebR l = (uvalV l).map fun p => ((p.1 : Int), p.2) := by
  have := grp_u l 0 0 (by omega) (by decide)
  unfold ulebR uvalV
  rw [show ((0 : Nat) : Int) = 0 from rfl] at this
  rw [this]
  simp only [Nat.sub_zero, Nat.pow_zero, Nat.one_mul, Nat.zero_add]
  split
  · rfl
  · split <;> rfl

/-- A signed number's groups. -/
def sval : List Nat → Int
  | [] => 0
  | [x] => if 64 ≤ x then (x : Int) - 128 else x
  | x :: y :: r => (x : Int) + 128 * sval (y :: r)
def svalV (l : List UInt8) : Option (Int × Nat) :=
  if szL l 0 = 0 then none else if szL l 0 = 10 ∧ ¬ ((gsOf (l.take (szL l 0))).getD 9 0 = 0 ∨ (gsOf (l.take (szL l 0))).getD 9 0 = 127) then none else some (sval (gsOf (l.take (szL l 0))), szL l 0)
/-- The closure's number is, but for the sign of the groups ahead, their sum. -/
def Near (i G : Nat) (acc : Int) : Prop := (acc = G ∨ acc = (G : Int) - 128 ^ i) ∧ (i = 0 → acc = G)
theorem pow7 (i : Nat) : (128 : Nat) ^ i = 2 ^ (7 * i) := by rw [Nat.pow_mul]
theorem pow128_9 (i : Nat) (h : i ≤ 9) : (128 : Nat) ^ i ≤ 9223372036854775808 ∧ 0 < (128 : Nat) ^ i := by
  rw [pow7]; exact pow_le63 (7 * i) (by omega)
theorem sBase_eq (i x G : Nat) (acc : Int) (hi : i < 9) (hx : x < 128) (hG : G < 128 ^ i) (hn : Near i G acc) : sBase i x acc = ((G + 128 ^ i * x : Nat) : Int) := by
  obtain ⟨h1, h2⟩ := pow128_9 i (by omega)
  have h3 : (128 : Nat) ^ (i + 1) ≤ 9223372036854775808 := (pow128_9 (i + 1) (by omega)).1
  rw [Nat.pow_succ] at h3
  have hx2 : 128 ^ i * x ≤ 128 ^ i * 127 := Nat.mul_le_mul_left _ (by omega)
  have hq : (2 : Int) ^ (7 * i) = ((128 ^ i : Nat) : Int) := by rw [pow7]; push_cast; rfl
  unfold sBase
  rw [hq]
  have w1 : wrap64 ((128 ^ i : Nat) : Int) = if i = 9 then -9223372036854775808 else ((128 ^ i : Nat) : Int) := by
    rw [if_neg (by omega)]
    have : (128 : Nat) ^ i < 9223372036854775808 := by omega
    unfold wrap64; omega
  rw [if_neg (by omega)] at w1
  have w2 : wrap64 (((128 ^ i : Nat) : Int) - 1) = ((128 ^ i : Nat) : Int) - 1 := by unfold wrap64; omega
  have w3 : wrap64 ((x : Int) * ((128 ^ i : Nat) : Int)) = ((128 ^ i * x : Nat) : Int) := by
    have : (x : Int) * ((128 ^ i : Nat) : Int) = ((128 ^ i * x : Nat) : Int) := by rw [Nat.mul_comm]; push_cast; rfl
    rw [this]; unfold wrap64; omega
  rw [w1, w2, w3, i64_mask acc (7 * i) (by omega) _ (pow7 i)]
  have e : acc % ((128 ^ i : Nat) : Int) = (G : Int) := by
    rcases hn.1 with h | h
    · rw [h]; exact Int.emod_eq_of_lt (by omega) (by omega)
    · have : ((128 : Int) ^ i) = ((128 ^ i : Nat) : Int) := by push_cast; rfl
      rw [this] at h
      rw [h, Int.sub_emod_right]; exact Int.emod_eq_of_lt (by omega) (by omega)
  rw [e, i64_join _ _ (7 * i) (by rw [← pow7]; exact hG) (by rw [← pow7]; exact Nat.mul_mod_right _ _) (by omega)]
theorem sStep_eq (i x G : Nat) (acc : Int) (hi : i < 9) (hx : x < 128) (hG : G < 128 ^ i) (hn : Near i G acc) :
    sStep i x acc = (G : Int) + 128 ^ i * (if 64 ≤ x then (x : Int) - 128 else x) := by
  have hb := sBase_eq i x G acc hi hx hG hn
  have e0 : ((128 : Int) ^ i) = ((128 ^ i : Nat) : Int) := by push_cast; rfl
  obtain ⟨h1, h2⟩ := pow128_9 i (by omega)
  have h3 : (128 : Nat) ^ (i + 1) ≤ 9223372036854775808 := (pow128_9 (i + 1) (by omega)).1
  have hx2 : 128 ^ i * x ≤ 128 ^ i * 127 := Nat.mul_le_mul_left _ (by omega)
  unfold sStep
  by_cases h64 : 64 ≤ x
  · have hq : -(2 : Int) ^ (7 * (i + 1)) = -((128 ^ (i + 1) : Nat) : Int) := by rw [pow7]; push_cast; rfl
    have hw : wrap64 (-((128 ^ (i + 1) : Nat) : Int)) = -((128 ^ (i + 1) : Nat) : Int) := by unfold wrap64; omega
    rw [if_pos ⟨hi, h64⟩, if_pos h64, hb, hq, hw, i64_neg _ (7 * (i + 1)) _ (pow7 (i + 1)) (by omega) (by rw [Nat.pow_succ]; omega), e0, Nat.pow_succ]
    push_cast
    rw [Int.mul_sub]
    omega
  · rw [if_neg (by omega), if_neg h64, hb, e0]
    push_cast
    rfl
theorem sStep_nine (x G : Nat) (acc : Int) (hx : x = 0 ∨ x = 127) (hG : G < 128 ^ 9) (hn : Near 9 G acc) :
    sStep 9 x acc = (G : Int) + 128 ^ 9 * (if 64 ≤ x then (x : Int) - 128 else x) := by
  have hm := i64_mask acc 63 (by omega) 9223372036854775808 (by decide)
  have e : acc % 9223372036854775808 = (G : Int) := by
    rcases hn.1 with h | h <;> rw [h] <;> omega
  have w : wrap64 (wrap64 (2 ^ (7 * 9)) - 1) = ((9223372036854775808 : Nat) : Int) - 1 := by decide +kernel
  unfold sStep
  rw [if_neg (by omega)]
  unfold sBase
  rw [w, hm, show ((9223372036854775808 : Nat) : Int) = 9223372036854775808 from rfl, e]
  rcases hx with rfl | rfl
  · rw [show wrap64 (((0 : Nat) : Int) * 2 ^ (7 * 9)) = ((0 : Nat) : Int) from by decide +kernel, i64_join G 0 63 (by omega) rfl (by omega)]
    simp
  · rw [show wrap64 (((127 : Nat) : Int) * 2 ^ (7 * 9)) = -((9223372036854775808 : Nat) : Int) from by decide +kernel, i64_neg G 63 9223372036854775808 (by decide) (by omega) (by omega)]
    simp
    omega
theorem grp_s (l : List UInt8) : ∀ (i G : Nat) (acc : Int), i ≤ 10 → G < 128 ^ i → (i ≤ 9 → Near i G acc) → grp sOk sStep l i acc =
    if szL l i = 0 then none else if szL l i = 10 ∧ ¬ ((gsOf (l.take (szL l i - i))).getD (9 - i) 0 = 0 ∨ (gsOf (l.take (szL l i - i))).getD (9 - i) 0 = 127) then none else some ((G : Int) + 128 ^ i * sval (gsOf (l.take (szL l i - i))), szL l i) := by
  induction l with
  | nil => intro i G acc _ _ _; rfl
  | cons b r ih =>
    intro i G acc hi hG hn
    have hbd := szL_bd r (i + 1)
    have hx : b.toNat % 128 < 128 := Nat.mod_lt _ (by decide)
    by_cases h10 : 10 ≤ i
    · rw [grp, if_pos h10, szL, if_pos h10, if_pos rfl]
    · have hn' := hn (by omega)
      have hstep : sOk i (b.toNat % 128) = true → sStep i (b.toNat % 128) acc = (G : Int) + 128 ^ i * (if 64 ≤ b.toNat % 128 then ((b.toNat % 128 : Nat) : Int) - 128 else ((b.toNat % 128 : Nat) : Int)) := by
        intro hok
        by_cases h9 : i < 9
        · exact sStep_eq i _ G acc h9 hx hG hn'
        · obtain rfl : i = 9 := by omega
          exact sStep_nine _ G acc (by simpa [sOk] using hok) hG hn'
      rw [grp, if_neg h10, szL, if_neg h10]
      by_cases h128 : b.toNat < 128
      · rw [if_pos h128, if_pos h128, if_neg (show ¬ i + 1 = 0 by omega), show i + 1 - i = 1 by omega]
        have eg : gsOf ((b :: r).take 1) = [b.toNat % 128] := rfl
        rw [eg]
        by_cases hok : sOk i (b.toNat % 128) = true
        · rw [if_neg (show ¬ sOk i (b.toNat % 128) = false by rw [hok]; decide), if_neg, hstep hok]
          · simp [sval]
          · rintro ⟨h1, h2⟩
            obtain rfl : i = 9 := by omega
            simp [sOk] at hok
            simp at h2
            omega
        · have hok' : sOk i (b.toNat % 128) = false := by simpa using hok
          rw [if_pos hok', if_pos]
          simp [sOk] at hok'
          obtain rfl : i = 9 := by omega
          exact ⟨rfl, by simp; omega⟩
      · rw [if_neg h128, if_neg h128]
        by_cases hok : sOk i (b.toNat % 128) = true
        · rw [if_neg (show ¬ sOk i (b.toNat % 128) = false by rw [hok]; decide)]
          by_cases h9 : i < 9
          · have hp := pow128_9 i (by omega)
            have hx2 : 128 ^ i * (b.toNat % 128) ≤ 128 ^ i * 127 := Nat.mul_le_mul_left _ (by omega)
            rw [ih (i + 1) (G + 128 ^ i * (b.toNat % 128)) _ (by omega) (by rw [Nat.pow_succ]; omega) (fun _ => by
              rw [hstep hok]
              have e0 : ((128 : Int) ^ i) = ((128 ^ i : Nat) : Int) := by push_cast; rfl
              have e1 : ((128 : Int) ^ (i + 1)) = ((128 ^ i * 128 : Nat) : Int) := by rw [Int.pow_succ, e0]; push_cast; rfl
              refine ⟨?_, fun h => by omega⟩
              rw [e0, e1]
              by_cases h64 : 64 ≤ b.toNat % 128
              · right; rw [if_pos h64, Int.mul_sub]; push_cast; omega
              · left; rw [if_neg h64]; push_cast; omega)]
            rcases hbd with h0 | ⟨h1, h2, h3⟩
            · rw [if_pos h0, if_pos h0]
            · have hne : ¬ szL r (i + 1) = 0 := by omega
              rw [if_neg hne, if_neg hne]
              obtain ⟨k, hk⟩ : ∃ k, szL r (i + 1) - (i + 1) = k + 1 := ⟨szL r (i + 1) - (i + 1) - 1, by omega⟩
              have et : szL r (i + 1) - i = (szL r (i + 1) - (i + 1)) + 1 := by omega
              have eg : gsOf ((b :: r).take (szL r (i + 1) - i)) = (b.toNat % 128) :: gsOf (r.take (szL r (i + 1) - (i + 1))) := by rw [et]; rfl
              have hnil : ∃ y ys, gsOf (r.take (szL r (i + 1) - (i + 1))) = y :: ys := by
                cases r with
                | nil => simp [szL] at h1
                | cons c r' => exact ⟨c.toNat % 128, gsOf (r'.take k), by rw [hk]; rfl⟩
              obtain ⟨y, ys, hy⟩ := hnil
              rw [eg]
              have e9 : szL r (i + 1) = 10 → ((b.toNat % 128) :: gsOf (r.take (szL r (i + 1) - (i + 1)))).getD (9 - i) 0 = (gsOf (r.take (szL r (i + 1) - (i + 1)))).getD (9 - (i + 1)) 0 := by
                intro h
                rw [show 9 - i = (9 - (i + 1)) + 1 by omega]; rfl
              by_cases hc : szL r (i + 1) = 10 ∧ ¬ ((gsOf (r.take (szL r (i + 1) - (i + 1)))).getD (9 - (i + 1)) 0 = 0 ∨ (gsOf (r.take (szL r (i + 1) - (i + 1)))).getD (9 - (i + 1)) 0 = 127)
              · rw [if_pos hc, if_pos ⟨hc.1, by rw [e9 hc.1]; exact hc.2⟩]
              · rw [if_neg hc, if_neg (fun hh => hc ⟨hh.1, by rw [← e9 hh.1]; exact hh.2⟩)]
                rw [hy]
                simp only [sval]
                rw [Int.pow_succ, Int.mul_add, ← Int.mul_assoc]
                push_cast
                rw [Int.add_assoc]
          · obtain rfl : i = 9 := by omega
            have hs0 : szL r 10 = 0 := by
              rcases hbd with h0 | ⟨h1, h2, h3⟩
              · exact h0
              · omega
            have hg0 : grp sOk sStep r 10 (sStep 9 (b.toNat % 128) acc) = none := grp_none_ten _ _ _ _ _ (by omega)
            rw [show 9 + 1 = 10 from rfl, hg0, if_pos hs0]
        · have hok' : sOk i (b.toNat % 128) = false := by simpa using hok
          rw [if_pos hok']
          simp [sOk] at hok'
          obtain rfl : i = 9 := by omega
          rcases hbd with h0 | ⟨h1, h2, h3⟩
          · rw [if_pos h0]
          · omega
theorem slebR_eq (l : List UInt8) : slebR l = svalV l := by
  have := grp_s l 0 0 0 (by omega) (by decide) (fun _ => ⟨.inl rfl, fun _ => rfl⟩)
  unfold slebR svalV
  rw [this]
  simp only [Nat.sub_zero, Int.pow_zero, Int.one_mul]
  split
  · rfl
  · split
    · rfl
    · simp
end Go.Proofs.YtkomocgodljecaaGreatDoor
/- Plain: where the reference's reckoning goes beyond, and where it does not. No program in sight. -/
namespace Go.Proofs.YtkomocgodljecaaGreatDoor
open Go.RowKit

theorem uval_snoc (xs : List Nat) (y : Nat) : uval (xs ++ [y]) = uval xs + 128 ^ xs.length * y := by
  induction xs with
  | nil => simp [uval]
  | cons x r ih => simp only [List.cons_append, uval, ih, List.length_cons, Nat.pow_succ, Nat.mul_add, Nat.mul_comm (128 ^ r.length) 128, Nat.mul_assoc, Nat.add_assoc]
theorem uval_lt (xs : List Nat) (h : ∀ x ∈ xs, x < 128) : uval xs < 128 ^ xs.length := by
  induction xs with
  | nil => simp [uval]
  | cons x r ih =>
    have h1 := h x (List.mem_cons_self ..)
    have h2 := ih (fun y hy => h y (List.mem_cons_of_mem _ hy))
    simp only [uval, List.length_cons, Nat.pow_succ]
    omega
theorem sval_snoc (xs : List Nat) (y : Nat) : sval (xs ++ [y]) = (uval xs : Int) + 128 ^ xs.length * (if 64 ≤ y then (y : Int) - 128 else y) := by
  induction xs with
  | nil => simp [uval, sval]
  | cons x r ih =>
    have e : sval (x :: r ++ [y]) = (x : Int) + 128 * sval (r ++ [y]) := by
      cases r with
      | nil => rfl
      | cons z r' => rfl
    rw [e, ih]
    simp only [uval, List.length_cons]
    rw [Int.pow_succ]
    push_cast
    rw [Int.mul_add, ← Int.add_assoc, ← Int.mul_assoc, Int.mul_comm 128 (128 ^ r.length)]
theorem gsOf_lt (l : List UInt8) : ∀ x ∈ gsOf l, x < 128 := by
  intro x hx
  obtain ⟨b, _, rfl⟩ := List.mem_map.1 hx
  exact Nat.mod_lt _ (by decide)
theorem gsOf_length (l : List UInt8) : (gsOf l).length = l.length := by simp [gsOf]
/-- Ten groups, less the first: eight, and the tenth. -/
theorem ten_drop (gs : List Nat) (h : gs.length = 10) : gs.drop 1 = (gs.drop 1).take 8 ++ [gs.getD 9 0] := by
  match gs, h with
  | [a, b, c, d, e, f, g, i, j, k], _ => rfl
/-- In a row of signed groups. -/
theorem sval_drop (gs : List Nat) (j : Nat) (h : j < gs.length) : sval (gs.drop j) = (if j + 1 = gs.length ∧ 64 ≤ gs.getD j 0 then (gs.getD j 0 : Int) - 128 else gs.getD j 0) + 128 * sval (gs.drop (j + 1)) := by
  rw [List.drop_eq_getElem_cons h]
  have e : gs.getD j 0 = gs[j] := by simp [h]
  rw [e]
  by_cases hl : j + 1 = gs.length
  · have : gs.drop (j + 1) = [] := List.drop_eq_nil_of_le (by omega)
    rw [this]
    simp only [sval, hl, true_and]
    simp
  · rw [if_neg (by omega)]
    rw [List.drop_eq_getElem_cons (show j + 1 < gs.length by omega)]
    rfl
theorem s_out (gs : List Nat) (hl : gs.length = 10) (hg : ∀ x ∈ gs, x < 128) (h : ¬ (gs.getD 9 0 = 0 ∨ gs.getD 9 0 = 127)) : sval (gs.drop 1) < -72057594037927936 ∨ 72057594037927936 ≤ sval (gs.drop 1) := by
  have hd : ∀ x ∈ gs.drop 1, x < 128 := fun x hx => hg x (List.mem_of_mem_drop hx)
  have h8 : ((gs.drop 1).take 8).length = 8 := by simp [hl]
  have hu := uval_lt ((gs.drop 1).take 8) (fun x hx => hd x (List.mem_of_mem_take hx))
  have h9 : gs.getD 9 0 < 128 := by
    have : gs.getD 9 0 ∈ gs := by rw [List.getD_eq_getElem?_getD, List.getElem?_eq_getElem (by omega)]; exact List.getElem_mem _
    exact hg _ this
  rw [ten_drop gs hl, sval_snoc]
  rw [h8] at hu ⊢
  split <;> omega
end Go.Proofs.YtkomocgodljecaaGreatDoor
/- clevisref02.Size, Uleb, Sleb, walked. -/
namespace Go.Proofs.YtkomocgodljecaaGreatDoor
open Go.RowKit
set_option maxRecDepth 100000

end Go.Proofs.YtkomocgodljecaaGreatDoor
/- Slices of byte slices. -/
namespace Go.Proofs.YtkomocgodljecaaGreatDoor
open Go.RowKit

theorem uvalV_pos (l : List UInt8) (v n : Nat) (h : uvalV l = some (v, n)) : 0 < n := by
  unfold uvalV at h
  split at h
  · cases h
  · split at h
    · cases h
    · cases h; omega
theorem svalV_pos (l : List UInt8) (v : Int) (n : Nat) (h : svalV l = some (v, n)) : 0 < n := by
  unfold svalV at h
  split at h
  · cases h
  · split at h
    · cases h
    · cases h; omega
theorem lebV_u (l : List UInt8) (k : Nat) (big : Bool) : lebV ulebR ⟨l, k, big, false⟩ = (((uvalV (l.drop k)).getD (0, 0)).1 : Int) := by
  simp only [lebV, Bool.false_eq_true, if_false, ulebR_eq]
  cases uvalV (l.drop k) <;> rfl
theorem lebV_s (l : List UInt8) (k : Nat) (big : Bool) : lebV slebR ⟨l, k, big, false⟩ = ((svalV (l.drop k)).getD (0, 0)).1 := by
  simp only [lebV, Bool.false_eq_true, if_false, slebR_eq]
  cases svalV (l.drop k) <;> rfl
theorem lebS_u (l : List UInt8) (k : Nat) (big : Bool) : lebS ulebR ⟨l, k, big, false⟩ = ⟨l, k + ((uvalV (l.drop k)).getD (0, 0)).2, big, ((uvalV (l.drop k)).getD (0, 0)).2 == 0⟩ := by
  simp only [lebS, Bool.false_eq_true, if_false, ulebR_eq]
  cases h : uvalV (l.drop k) with
  | none => simp [failS]
  | some p =>
    have := uvalV_pos _ p.1 p.2 h
    simp; omega
theorem lebS_s (l : List UInt8) (k : Nat) (big : Bool) : lebS slebR ⟨l, k, big, false⟩ = ⟨l, k + ((svalV (l.drop k)).getD (0, 0)).2, big, ((svalV (l.drop k)).getD (0, 0)).2 == 0⟩ := by
  simp only [lebS, Bool.false_eq_true, if_false, slebR_eq]
  cases h : svalV (l.drop k) with
  | none => simp [failS]
  | some p =>
    have := svalV_pos _ p.1 p.2 h
    simp; omega
end Go.Proofs.YtkomocgodljecaaGreatDoor
