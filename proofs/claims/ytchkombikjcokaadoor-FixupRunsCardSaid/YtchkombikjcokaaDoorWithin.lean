/- cursor.Add, Within and the document's Within (from XSums). -/
import Derived.Test.YtchkombikjcokaaDoorRefC
import Derived.Laws.Externs
namespace Go.Proofs.YtchkombikjcokaaDoor
open Go.RowKit
set_option maxRecDepth 100000

theorem Add64_run (x y : Nat) (w : World) : (callFunc 112 #[.int .u64 x, .int .u64 y, .int .u64 0]).run Tryd.prog w =
    .ok (.value (.tuple #[.int .u64 (((x + y) % 18446744073709551616 : Nat) : Int), .int .u64 (((x + y) / 18446744073709551616 : Nat) : Int)])) w := by
  rw [run_callFunc_extern Tryd.func112 (by kernel_rfl) (by kernel_rfl) (by kernel_rfl) (e := add64Entry) (by kernel_rfl)]
  have := run_add64 (P := Tryd.prog) x y 0 (by omega) (by omega) (by omega) (by omega) w
  rw [this]
  simp only [Result.andThen]
  congr 5 <;> omega

theorem Add_any (x y : Nat) (w : World) : Calls Tryd.prog 99 #[.int .u64 x, .int .u64 y] w fun e w' =>
    e = .returned (.tuple #[.int .u64 ((if x + y < 18446744073709551616 then x + y else 0 : Nat) : Int), .bool (decide (x + y < 18446744073709551616))]) ∧ w' = w := by
  have hr := Add64_run x y w
  obtain ⟨s, hs⟩ : ∃ s, s = (x + y) % 18446744073709551616 := ⟨_, rfl⟩
  obtain ⟨c, hc⟩ : ∃ c, c = (x + y) / 18446744073709551616 := ⟨_, rfl⟩
  rw [← hs, ← hc] at hr
  by_cases h : x + y < 18446744073709551616
  · obtain rfl : c = 0 := by omega
    obtain rfl : s = x + y := by omega
    have HR := Lib.hid hr
    rw [if_pos h, decide_eq_true h]
    clear hr hs hc h
    go_enter Tryd.func99, Tryd.ntmps99
    go_wp2_with fail
    rw [HR.out]
    rw [Oper.upon_value]
    go_wp2
    go_ret2
    exact ⟨rfl, rfl⟩
  · have hz : ((c : Int) == 0) = false := by rw [beq_eq_false_iff_ne]; omega
    have HR := Lib.hid hr
    rw [if_neg h, decide_eq_false h]
    clear hr hs hc h
    go_enter Tryd.func99, Tryd.ntmps99
    go_wp2_with fail
    rw [HR.out]
    rw [Oper.upon_value]
    go_wp2
    go_ret2
    exact ⟨rfl, rfl⟩
theorem Within_any (x y z : Nat) (hz : z < 18446744073709551616) (w : World) : Calls Tryd.prog 109 #[.int .u64 x, .int .u64 y, .int .u64 z] w fun e w' =>
    e = .returned (.bool (decide (x + y ≤ z))) ∧ w' = w := by
  have hr := Add_any x y w
  by_cases h : x + y < 18446744073709551616
  · simp only [h, if_true, decide_true] at hr
    have HE : Hid (decide ((x : Int) + y ≤ z) = decide (x + y ≤ z)) := Lib.hid (by simp only [decide_eq_decide]; omega)
    have HR := Lib.hid hr
    clear hr h hz
    go_enter Tryd.func109, Tryd.ntmps109
    go_wp2_with fail
    refine HR.out.mono ?_
    rintro e w' ⟨rfl, rfl⟩
    go_wp2
    go_ret
    exact ⟨congrArg (fun b => Ending.returned (.bool b)) HE.out, rfl⟩
  · simp only [h, if_false, decide_false] at hr
    have HE : Hid (false = decide (x + y ≤ z)) := Lib.hid (by symm; rw [decide_eq_false_iff_not]; omega)
    have HR := Lib.hid hr
    clear hr h hz
    go_enter Tryd.func109, Tryd.ntmps109
    go_wp2_with fail
    refine HR.out.mono ?_
    rintro e w' ⟨rfl, rfl⟩
    go_wp2
    go_ret
    exact ⟨congrArg (fun b => Ending.returned (.bool b)) HE.out, rfl⟩
theorem RefWithin_any (x y z : Nat) (hz : z < 18446744073709551616) (w : World) : Calls Tryd.prog 22 #[.int .u64 x, .int .u64 y, .int .u64 z] w fun e w' =>
    e = .returned (.bool (decide (x + y ≤ z))) ∧ w' = w := by
  by_cases h : x ≤ z
  · have hsub : IntKind.u64.wrap ((z : Int) - x) = ((z - x : Nat) : Int) := by rw [IntKind.wrap_u64]; omega
    have hd : decide ((x : Int) ≤ z) = true := by rw [decide_eq_true_iff]; omega
    have HE : Hid (decide (y ≤ z - x) = decide (x + y ≤ z)) := Lib.hid (by simp only [decide_eq_decide]; omega)
    clear hz
    go_enter Tryd.func22, Tryd.ntmps22
    go_wp2
    go_ret
    exact ⟨congrArg (fun b => Ending.returned (.bool b)) HE.out, rfl⟩
  · have hd : decide ((x : Int) ≤ z) = false := by rw [decide_eq_false_iff_not]; omega
    have HE : Hid (false = decide (x + y ≤ z)) := Lib.hid (by symm; rw [decide_eq_false_iff_not]; omega)
    clear hz
    go_enter Tryd.func22, Tryd.ntmps22
    go_wp2
    go_ret
    exact ⟨congrArg (fun b => Ending.returned (.bool b)) HE.out, rfl⟩
end Go.Proofs.YtchkombikjcokaaDoor
