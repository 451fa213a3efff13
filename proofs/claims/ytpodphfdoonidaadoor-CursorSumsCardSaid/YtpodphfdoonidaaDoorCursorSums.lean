/- CursorSums, walked. -/
import Derived.Test.YtpodphfdoonidaaDoorKnown1
import Derived.Test.YtpodphfdoonidaaDoorSums
import Derived.Test.YtpodphfdoonidaaDoorInt
namespace Go.Proofs.YtpodphfdoonidaaDoor
open Go.RowKit
set_option maxRecDepth 100000

set_option maxHeartbeats 1000000 in
theorem CursorSums_in (x y z : Nat) (hx : x < 18446744073709551616) (hy : y < 18446744073709551616) (hz : z < 18446744073709551616) (w : World) (hg : Env w) :
    Calls Tryd.prog 11 #[.int .u64 x, .int .u64 y, .int .u64 z] w fun e w' => e = .returned (.bool true) ∧ Chg [] w w' := by
  have HA := Lib.hid (fun w => Add_any x y w)
  have HS := Lib.hid (fun w => Sum_any x y hx w)
  have HM := Lib.hid (fun w => Mul_any x y hx hy w)
  have HP := Lib.hid (fun w => Product_any x y hx hy w)
  have HW := Lib.hid (fun w => Within_any x y z hz w)
  have HV := Lib.hid (fun w => RefWithin_any x y z hz w)
  have Hx := Lib.hid hx
  have Hy := Lib.hid hy
  have Hz := Lib.hid hz
  have Hg := Lib.hid hg
  clear hx hy hz hg
  generalize (if x + y < 18446744073709551616 then x + y else 0 : Nat) = s at HA HS
  generalize decide (x + y < 18446744073709551616) = t at HA HS
  generalize (if x * y < 18446744073709551616 then x * y else 0 : Nat) = p at HM HP
  generalize decide (x * y < 18446744073709551616) = q at HM HP
  generalize decide (x + y ≤ z) = r at HW HV
  go_enter Tryd.func11, Tryd.ntmps11
  go_wp2_with fail
  refine (HA.out _).mono ?_
  rintro e w1 ⟨rfl, rfl⟩
  go_wp2_with fail
  refine (HS.out _).mono ?_
  rintro e w1 ⟨rfl, rfl⟩
  go_wp2_with fail
  refine (HM.out _).mono ?_
  rintro e w1 ⟨rfl, rfl⟩
  go_wp2_with fail
  refine (HP.out _).mono ?_
  rintro e w1 ⟨rfl, rfl⟩
  go_wp2_with fail
  refine (HW.out _).mono ?_
  rintro e w1 ⟨rfl, rfl⟩
  go_wp2_with fail
  refine (HV.out _).mono ?_
  rintro e w1 ⟨rfl, rfl⟩
  go_wp2_with fail
  refine (known_cur _ Hg.out).mono ?_
  rintro e w1 ⟨rfl, hc⟩
  have Hc := Lib.hid hc
  clear hc
  go_wp2
  go_ret
  exact ⟨rfl, Hc.out⟩
theorem CursorSums_walk (w : World) (hg : Env w) (a : Int) (ha : (Lit.int .u64 a).wf = true) (b : Int) (hb : (Lit.int .u64 b).wf = true) (c : Int) (hc : (Lit.int .u64 c).wf = true) :
    Calls Tryd.prog 11 #[.int .u64 a, .int .u64 b, .int .u64 c] w fun e w' => e = .returned (.bool true) ∧ Chg [] w w' := by
  obtain ⟨n, rfl, hn⟩ := nat_u64 a ha
  obtain ⟨m, rfl, hm⟩ := nat_u64 b hb
  obtain ⟨k, rfl, hk⟩ := nat_u64 c hc
  exact CursorSums_in n m k hn hm hk w hg
end Go.Proofs.YtpodphfdoonidaaDoor
