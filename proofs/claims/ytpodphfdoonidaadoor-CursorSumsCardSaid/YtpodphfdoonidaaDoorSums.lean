/- cursor.Add, Mul, Within and the document's Sum, Product, Within: each walked once. -/
import Derived.Test.YtpodphfdoonidaaDoorShelf
import Derived.Test.YtpodphfdoonidaaDoorF
import Derived.Laws.Externs
namespace Go.Proofs.YtpodphfdoonidaaDoor
open Go.RowKit
set_option maxRecDepth 100000

theorem Add64_run (x y : Nat) (w : World) : (callFunc 58 #[.int .u64 x, .int .u64 y, .int .u64 0]).run Tryd.prog w =
    .ok (.value (.tuple #[.int .u64 (((x + y) % 18446744073709551616 : Nat) : Int), .int .u64 (((x + y) / 18446744073709551616 : Nat) : Int)])) w := by
  rw [run_callFunc_extern Tryd.func58 (by kernel_rfl) (by kernel_rfl) (by kernel_rfl) (e := add64Entry) (by kernel_rfl)]
  have := run_add64 (P := Tryd.prog) x y 0 (by omega) (by omega) (by omega) (by omega) w
  rw [this]
  simp only [Result.andThen]
  congr 5 <;> omega

theorem Add_any (x y : Nat) (w : World) : Calls Tryd.prog 33 #[.int .u64 x, .int .u64 y] w fun e w' =>
    e = .returned (.tuple #[.int .u64 ((if x + y < 18446744073709551616 then x + y else 0 : Nat) : Int), .bool (decide (x + y < 18446744073709551616))]) ∧ w' = w := by
  have hr := Add64_run x y w
  obtain ⟨s, hs⟩ : ∃ s, s = (x + y) % 18446744073709551616 := ⟨_, rfl⟩
  obtain ⟨c, hc⟩ : ∃ c, c = (x + y) / 18446744073709551616 := ⟨_, rfl⟩
  rw [← hs, ← hc] at hr
  by_cases h : x + y < 18446744073709551616
  · obtain rfl : c = 0 := by omega
    obtain rfl : s = x + y := by omega
    have HR := Lib.hid hr
    rw [if_pos h, decide_eq_true h]
    clear hr hs hc h
    go_enter Tryd.func33, Tryd.ntmps33
    go_wp2_with fail
    rw [HR.out]
    rw [Oper.upon_value]
    go_wp2
    go_ret2
    exact ⟨rfl, rfl⟩
  · have hz : ((c : Int) == 0) = false := by rw [beq_eq_false_iff_ne]; omega
    have HR := Lib.hid hr
    rw [if_neg h, decide_eq_false h]
    clear hr hs hc h
    go_enter Tryd.func33, Tryd.ntmps33
    go_wp2_with fail
    rw [HR.out]
    rw [Oper.upon_value]
    go_wp2
    go_ret2
    exact ⟨rfl, rfl⟩
theorem Sum_any (x y : Nat) (hx : x < 18446744073709551616) (w : World) : Calls Tryd.prog 34 #[.int .u64 x, .int .u64 y] w fun e w' =>
    e = .returned (.tuple #[.int .u64 ((if x + y < 18446744073709551616 then x + y else 0 : Nat) : Int), .bool (decide (x + y < 18446744073709551616))]) ∧ w' = w := by
  have hsub : IntKind.u64.wrap (18446744073709551615 - (x : Int)) = 18446744073709551615 - (x : Int) := by rw [IntKind.wrap_u64]; omega
  by_cases h : x + y < 18446744073709551616
  · have hadd : IntKind.u64.wrap ((x : Int) + y) = ((x + y : Nat) : Int) := by rw [IntKind.wrap_u64]; omega
    have hd : decide (18446744073709551615 - (x : Int) < y) = false := by rw [decide_eq_false_iff_not]; omega
    rw [if_pos h, decide_eq_true h]
    clear h hx
    go_enter Tryd.func34, Tryd.ntmps34
    go_wp2
    go_ret2
    exact ⟨rfl, rfl⟩
  · have hd : decide (18446744073709551615 - (x : Int) < y) = true := by rw [decide_eq_true_iff]; omega
    rw [if_neg h, decide_eq_false h]
    clear h hx
    go_enter Tryd.func34, Tryd.ntmps34
    go_wp2
    go_ret2
    exact ⟨rfl, rfl⟩
theorem Mul_any (x y : Nat) (hx : x < 18446744073709551616) (hy : y < 18446744073709551616) (w : World) : Calls Tryd.prog 35 #[.int .u64 x, .int .u64 y] w fun e w' =>
    e = .returned (.tuple #[.int .u64 ((if x * y < 18446744073709551616 then x * y else 0 : Nat) : Int), .bool (decide (x * y < 18446744073709551616))]) ∧ w' = w := by
  have hr := Tryd.bits_Mul64 x y hx hy w
  obtain ⟨p, hp⟩ : ∃ p, p = x * y := ⟨_, rfl⟩
  obtain ⟨s, hs⟩ : ∃ s, s = p % 18446744073709551616 := ⟨_, rfl⟩
  obtain ⟨c, hc⟩ : ∃ c, c = p / 18446744073709551616 := ⟨_, rfl⟩
  rw [← hp, ← hs, ← hc] at hr
  rw [← hp]
  have HR := Lib.hid hr
  clear hr hp hx hy
  by_cases h : p < 18446744073709551616
  · obtain rfl : c = 0 := by omega
    obtain rfl : s = p := by omega
    rw [if_pos h, decide_eq_true h]
    clear hs hc h
    go_enter Tryd.func35, Tryd.ntmps35
    go_wp2_with fail
    refine HR.out.mono ?_
    rintro e w' ⟨rfl, rfl⟩
    go_wp2
    go_ret2
    exact ⟨rfl, rfl⟩
  · have hz : ((c : Int) == 0) = false := by rw [beq_eq_false_iff_ne]; omega
    rw [if_neg h, decide_eq_false h]
    clear hs hc h
    go_enter Tryd.func35, Tryd.ntmps35
    go_wp2_with fail
    refine HR.out.mono ?_
    rintro e w' ⟨rfl, rfl⟩
    go_wp2
    go_ret2
    exact ⟨rfl, rfl⟩
theorem Product_any (x y : Nat) (hx : x < 18446744073709551616) (_ : y < 18446744073709551616) (w : World) : Calls Tryd.prog 36 #[.int .u64 x, .int .u64 y] w fun e w' =>
    e = .returned (.tuple #[.int .u64 ((if x * y < 18446744073709551616 then x * y else 0 : Nat) : Int), .bool (decide (x * y < 18446744073709551616))]) ∧ w' = w := by
  have hmul : IntKind.u64.wrap ((x : Int) * y) = ((x * y % 18446744073709551616 : Nat) : Int) := by rw [IntKind.wrap_u64, ← Int.natCast_mul]; omega
  obtain ⟨p, hp⟩ : ∃ p, p = x * y := ⟨_, rfl⟩
  rw [← hp] at hmul ⊢
  rcases Nat.eq_zero_or_pos x with rfl | h0
  · obtain rfl : p = 0 := by rw [hp, Nat.zero_mul]
    rw [if_pos (by omega), decide_eq_true (by omega)]
    clear hp hx hmul
    go_enter Tryd.func36, Tryd.ntmps36
    go_wp2
    go_ret2
    exact ⟨rfl, rfl⟩
  · have hne : ((x : Int) == 0) = false := by rw [beq_eq_false_iff_ne]; omega
    have hq : (18446744073709551615 : Int).tdiv (x : Int) = ((18446744073709551615 / x : Nat) : Int) := rfl
    have hw : IntKind.u64.wrap ((18446744073709551615 / x : Nat) : Int) = ((18446744073709551615 / x : Nat) : Int) := by
      have := Nat.div_le_self 18446744073709551615 x
      rw [IntKind.wrap_u64]; generalize 18446744073709551615 / x = q at *; omega
    have hle : y ≤ 18446744073709551615 / x ↔ p < 18446744073709551616 := by
      rw [Nat.le_div_iff_mul_le h0, Nat.mul_comm, ← hp]; omega
    obtain ⟨q, hqq⟩ : ∃ q, q = 18446744073709551615 / x := ⟨_, rfl⟩
    rw [← hqq] at hq hw hle
    by_cases h : p < 18446744073709551616
    · have hd : decide (q < y) = false := by rw [decide_eq_false_iff_not]; have := hle.2 h; omega
      have hm : p % 18446744073709551616 = p := by omega
      rw [hm] at hmul
      rw [if_pos h, decide_eq_true h]
      have hne2 : ((x : Int) != 0) = true := by rw [bne_iff_ne]; omega
      clear h hx hle hqq hp hm
      go_enter Tryd.func36, Tryd.ntmps36
      go_wp2
      go_ret2
      exact ⟨rfl, rfl⟩
    · have hd : decide (q < y) = true := by rw [decide_eq_true_iff]; have := fun t => h (hle.1 t); omega
      rw [if_neg h, decide_eq_false h]
      have hne2 : ((x : Int) != 0) = true := by rw [bne_iff_ne]; omega
      clear h hx hle hqq hp hmul
      go_enter Tryd.func36, Tryd.ntmps36
      go_wp2
      go_ret2
      exact ⟨rfl, rfl⟩
theorem Within_any (x y z : Nat) (hz : z < 18446744073709551616) (w : World) : Calls Tryd.prog 37 #[.int .u64 x, .int .u64 y, .int .u64 z] w fun e w' =>
    e = .returned (.bool (decide (x + y ≤ z))) ∧ w' = w := by
  have hr := Add_any x y w
  by_cases h : x + y < 18446744073709551616
  · simp only [h, if_true, decide_true] at hr
    have HE : Hid (decide ((x : Int) + y ≤ z) = decide (x + y ≤ z)) := Lib.hid (by simp only [decide_eq_decide]; omega)
    have HR := Lib.hid hr
    clear hr h hz
    go_enter Tryd.func37, Tryd.ntmps37
    go_wp2_with fail
    refine HR.out.mono ?_
    rintro e w' ⟨rfl, rfl⟩
    go_wp2
    go_ret
    exact ⟨congrArg (fun b => Ending.returned (.bool b)) HE.out, rfl⟩
  · simp only [h, if_false, decide_false] at hr
    have HE : Hid (false = decide (x + y ≤ z)) := Lib.hid (by symm; rw [decide_eq_false_iff_not]; omega)
    have HR := Lib.hid hr
    clear hr h hz
    go_enter Tryd.func37, Tryd.ntmps37
    go_wp2_with fail
    refine HR.out.mono ?_
    rintro e w' ⟨rfl, rfl⟩
    go_wp2
    go_ret
    exact ⟨congrArg (fun b => Ending.returned (.bool b)) HE.out, rfl⟩
theorem RefWithin_any (x y z : Nat) (hz : z < 18446744073709551616) (w : World) : Calls Tryd.prog 38 #[.int .u64 x, .int .u64 y, .int .u64 z] w fun e w' =>
    e = .returned (.bool (decide (x + y ≤ z))) ∧ w' = w := by
  by_cases h : x ≤ z
  · have hsub : IntKind.u64.wrap ((z : Int) - x) = ((z - x : Nat) : Int) := by rw [IntKind.wrap_u64]; omega
    have hd : decide ((x : Int) ≤ z) = true := by rw [decide_eq_true_iff]; omega
    have HE : Hid (decide (y ≤ z - x) = decide (x + y ≤ z)) := Lib.hid (by simp only [decide_eq_decide]; omega)
    clear hz
    go_enter Tryd.func38, Tryd.ntmps38
    go_wp2
    go_ret
    exact ⟨congrArg (fun b => Ending.returned (.bool b)) HE.out, rfl⟩
  · have hd : decide ((x : Int) ≤ z) = false := by rw [decide_eq_false_iff_not]; omega
    have HE : Hid (false = decide (x + y ≤ z)) := Lib.hid (by symm; rw [decide_eq_false_iff_not]; omega)
    clear hz
    go_enter Tryd.func38, Tryd.ntmps38
    go_wp2
    go_ret
    exact ⟨congrArg (fun b => Ending.returned (.bool b)) HE.out, rfl⟩
end Go.Proofs.YtpodphfdoonidaaDoor
