/- walk.bits and the document's bits, power. -/
import Derived.Test.YtfdpicnlcnfhpaaF
import Derived.Test.YtfdpicnlcnfhpaaProg
import Derived.Test.YtfdpicnlcnfhpaaReg
namespace Go.Proofs.Ytfdpicnlcnfhpaa
open Go.RowKit
set_option maxRecDepth 100000

theorem two_pow_le {m : Nat} (hm : m ≤ 63) : 1 ≤ 2 ^ m ∧ 2 ^ m ≤ 9223372036854775808 :=
  ⟨Nat.one_le_two_pow, Nat.le_trans (Nat.pow_le_pow_right (by decide) hm) (by decide)⟩
theorem wrap_pow {m : Nat} (hm : m ≤ 63) : IntKind.u64.wrap ((2 : Int) ^ m) = ((2 ^ m : Nat) : Int) := by
  have h := two_pow_le hm
  have e : (2 : Int) ^ m = ((2 ^ m : Nat) : Int) := by rw [Int.natCast_pow]; rfl
  rw [e]
  generalize 2 ^ m = p at h ⊢
  rw [IntKind.wrap_u64]; omega
theorem bits_eq (n f m : Nat) (hn : n < 18446744073709551616) (hm : m ≤ 63) :
    bits .and .u64 ((n : Int) / 2 ^ f) (IntKind.u64.wrap (IntKind.u64.wrap ((2 : Int) ^ m) - 1)) = ((n / 2 ^ f % 2 ^ m : Nat) : Int) := by
  have h := two_pow_le hm
  rw [wrap_pow hm]
  have e : (n : Int) / 2 ^ f = ((n / 2 ^ f : Nat) : Int) := by rw [Int.natCast_ediv, Int.natCast_pow]; rfl
  have hd : n / 2 ^ f < 18446744073709551616 := Nat.lt_of_le_of_lt (Nat.div_le_self _ _) hn
  rw [e, ← Nat.and_two_pow_sub_one_eq_mod]
  generalize n / 2 ^ f = d at hd ⊢
  generalize 2 ^ m = p at h ⊢
  have e2 : IntKind.u64.wrap ((p : Int) - 1) = ((p - 1 : Nat) : Int) := by rw [IntKind.wrap_u64]; omega
  rw [e2]
  exact u64_and_nat d (p - 1) hd (by omega)
theorem bits_any (n f m : Nat) (hn : n < 18446744073709551616) (hf : f ≤ 63) (hm : m ≤ 63) (w : World) :
    Calls Try.prog 18 #[.int .u64 n, .int .i64 f, .int .i64 m] w fun e w' => e = .returned (.int .u64 ((n / 2 ^ f % 2 ^ m : Nat) : Int)) ∧ Dr w w' := by
  have HE := Lib.hid (bits_eq n f m hn hm)
  go_enter Try.func18, Try.ntmps18
  go_wp2
  go_quiet (fail)
  rw [HE.out]
  go_wp2
  go_ret
  exact ⟨rfl, (Dr.refl _).drewN _⟩
theorem power_any (m : Nat) (hm : m ≤ 63) (w : World) :
    Calls Try.prog 14 #[.int .i64 m] w fun e w' => e = .returned (.int .u64 ((2 ^ m : Nat) : Int)) ∧ w = w' := by
  have HE := Lib.hid (wrap_pow hm)
  go_enter Try.func14, Try.ntmps14
  go_wp2
  rw [HE.out]
  go_ret
  exact ⟨rfl, rfl⟩
theorem refbits_any (n f m : Nat) (hn : n < 18446744073709551616) (hf : f ≤ 63) (hm : m ≤ 63) (w : World) :
    Calls Try.prog 11 #[.int .u64 n, .int .i64 f, .int .i64 m] w fun e w' => e = .returned (.int .u64 ((n / 2 ^ f % 2 ^ m : Nat) : Int)) ∧ Dr w w' := by
  have hp := two_pow_le hf
  have hq := two_pow_le hm
  have HP := Lib.hid (fun w => power_any f hf w)
  have HQ := Lib.hid (fun w => power_any m hm w)
  generalize 2 ^ f = p at *
  generalize 2 ^ m = q at *
  have hp0 : ¬ p = 0 := by omega
  have hq0 : ¬ q = 0 := by omega
  have hd : n / p < 18446744073709551616 := Nat.lt_of_le_of_lt (Nat.div_le_self _ _) hn
  have w1 : IntKind.u64.wrap ((n : Int) / (p : Int)) = ((n / p : Nat) : Int) := by
    rw [show (n : Int) / (p : Int) = ((n / p : Nat) : Int) from by rw [Int.natCast_ediv]]
    generalize n / p = d at hd ⊢
    rw [IntKind.wrap_u64]; omega
  have w2 : ((n / p : Nat) : Int) % (q : Int) = ((n / p % q : Nat) : Int) := by rw [Int.natCast_emod]
  clear hp hq hd
  go_enter Try.func11, Try.ntmps11
  go_wp2_with fail
  refine wp_region_noPanic ?_
  refine wp_region_held_drew (S := fun _ => True) (by kernel_rfl) trivial (fun hHeld => ?_)
  refine take_read (i := 0) (v := ?_) (by simp only [List.getElem?_toArray, List.getElem?_cons_zero]; rfl) (by kernel_rfl) (by kernel_rfl) (by kernel_rfl) (fun _ _ _ h => h) hHeld ?_ ?_
  rotate_left
  · intro w hSw
    go_simp
    try with_reducible rfl
  try simp only [Act.put, List.setIfInBounds_toArray, List.set_cons_zero, List.set_cons_succ]
  refine take_read (i := 1) (v := ?_) (by simp only [List.getElem?_toArray, List.getElem?_cons_succ, List.getElem?_cons_zero]; rfl) (by kernel_rfl) (by kernel_rfl) (by kernel_rfl) (fun _ _ _ h => h) hHeld ?_ ?_
  rotate_left
  · intro w hSw
    go_simp
    try with_reducible rfl
  try simp only [Act.put, List.setIfInBounds_toArray, List.set_cons_zero, List.set_cons_succ]
  refine take_read (i := 4) (v := ?_) (by simp only [List.getElem?_toArray, List.getElem?_cons_succ, List.getElem?_cons_zero]; rfl) (by kernel_rfl) (by kernel_rfl) (by kernel_rfl) (fun _ _ _ h => h) hHeld ?_ ?_
  rotate_left
  · intro w hSw
    go_simp
    try with_reducible rfl
  try simp only [Act.put, List.setIfInBounds_toArray, List.set_cons_zero, List.set_cons_succ]
  refine wpAnyH_ready (rs := [2]) (by kernel_rfl) (by simp) ?_
  refine AllReadyH.cons rfl (fun K hK => ?_) AllReadyH.nil
  go_simp
  refine (HP.out _).mono ?_
  rintro e w1 ⟨rfl, rfl⟩
  refine hK.out _ _ trivial (fun hHeld2 => ?_)
  clear hK hHeld K
  have hHeld := hHeld2
  clear hHeld2
  try (unfold Act.put; simp only [List.setIfInBounds_toArray, List.set_cons_zero, List.set_cons_succ])
  refine take_read (i := 3) (v := ?_) (by simp only [List.getElem?_toArray, List.getElem?_cons_succ, List.getElem?_cons_zero]; rfl) (by kernel_rfl) (by kernel_rfl) (by kernel_rfl) (fun _ _ _ h => h) hHeld ?_ ?_
  rotate_left
  · intro w hSw
    go_simp
    try with_reducible rfl
  try simp only [Act.put, List.setIfInBounds_toArray, List.set_cons_zero, List.set_cons_succ]
  refine wpAnyH_ready (rs := [5]) (by kernel_rfl) (by simp) ?_
  refine AllReadyH.cons rfl (fun K hK => ?_) AllReadyH.nil
  go_simp
  refine (HQ.out _).mono ?_
  rintro e w1 ⟨rfl, rfl⟩
  refine hK.out _ _ trivial (fun hHeld2 => ?_)
  clear hK hHeld K
  have hHeld := hHeld2
  clear hHeld2
  try (unfold Act.put; simp only [List.setIfInBounds_toArray, List.set_cons_zero, List.set_cons_succ])
  refine take_read (i := 6) (v := ?_) (by simp only [List.getElem?_toArray, List.getElem?_cons_succ, List.getElem?_cons_zero]; rfl) (by kernel_rfl) (by kernel_rfl) (by kernel_rfl) (fun _ _ _ h => h) hHeld ?_ ?_
  rotate_left
  · intro w hSw
    go_simp
    try with_reducible rfl
  try simp only [Act.put, List.setIfInBounds_toArray, List.set_cons_zero, List.set_cons_succ]
  refine take_read (i := 7) (v := ?_) (by simp only [List.getElem?_toArray, List.getElem?_cons_succ, List.getElem?_cons_zero]; rfl) (by kernel_rfl) (by kernel_rfl) (by kernel_rfl) (fun _ _ _ h => h) hHeld ?_ ?_
  rotate_left
  · intro w hSw
    go_simp
    try with_reducible rfl
  try simp only [Act.put, List.setIfInBounds_toArray, List.set_cons_zero, List.set_cons_succ]
  refine wpAnyH_done (by kernel_rfl) ?_ _
  refine NoPanic.normal ?_
  go_wp2
  go_ret
  exact ⟨rfl, (Dr.refl _).drew⟩
end Go.Proofs.Ytfdpicnlcnfhpaa
