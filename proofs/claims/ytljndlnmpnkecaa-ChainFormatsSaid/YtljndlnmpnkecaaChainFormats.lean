/- clevislaw15.ChainFormats, walked. -/
import Derived.Test.YtljndlnmpnkecaaKnown15
import Derived.Test.YtljndlnmpnkecaaRFmt
import Derived.Test.YtljndlnmpnkecaaEndImp
import Derived.OpenShut
namespace Go.Proofs.Ytljndlnmpnkecaa
open Go.RowKit
set_option maxRecDepth 100000

set_option maxHeartbeats 1000000 in
theorem ChainFormats_walk (w : World) (l : List Imp) (a : Option Addr) (cap : Nat) (rd : impL.Rd w (.slice a l.length cap) l) (_ok : ∀ x ∈ l, Imp.wf x) (fm : Int) (_wf : (Lit.int .i64 fm).wf = true) :
    Calls Try.prog 3 #[.slice a l.length cap, .int .i64 fm] w fun e w' => e = .returned (.bool true) ∧ Chg [] w w' := by
  obtain ⟨_, _, he, hc1, hc2⟩ := rd.shape
  cases he
  have Rd := Lib.hid rd
  clear rd
  have HK := Lib.hid (known15)
  by_cases h1 : 100 < l.length
  · have d1 : decide ((100 : Int) < (l.length : Int)) = true := by simp; omega
    go_enter Try.func3, Try.ntmps3
    go_wp2_with fail
    refine (HK.out _).mono ?_
    rintro e w1 ⟨rfl, hc⟩
    go_wp2
    go_ret
    exact ⟨rfl, hc⟩
  have d1 : decide ((100 : Int) < (l.length : Int)) = false := by simp; omega
  have HF := Lib.hid (fun W r => format_any l (.slice a l.length cap) W r)
  have HR := Lib.hid (fun W r => rformat_any l (.slice a l.length cap) W r)
  have HS := Lib.hid (stride_any fm)
  have HT := Lib.hid (rstride_any fm)
  have hcs := fmtN_cases l
  generalize fmtN l = F at *
  generalize strideF fm = S at *
  have d2 : decide ((1 : Int) ≤ F) = true := by simp; omega
  have d3 : decide (F ≤ (3 : Int)) = true := by simp; omega
  have Hcs := Lib.hid hcs
  clear hcs
  clear h1
  go_enter Try.func3, Try.ntmps3
  go_wp2_with fail
  refine (HF.out _ Rd.out).mono ?_
  rintro e W1 ⟨rfl, hc⟩
  have C1 := Lib.hid (hc)
  clear hc
  go_wp2_with fail
  refine (HS.out _).mono ?_
  rintro e W2 ⟨rfl, hc⟩
  have C2 := Lib.hid (C1.out.then hc)
  clear hc
  go_wp2_with fail
  refine (HT.out _).mono ?_
  rintro e W3 ⟨rfl, hc⟩
  have C3 := Lib.hid (C2.out.then hc)
  clear hc
  go_wp2_with fail
  refine (HR.out _ (Rd.out.frame C3.out)).mono ?_
  rintro e W4 ⟨rfl, hc⟩
  have C4 := Lib.hid (C3.out.then hc)
  clear hc
  go_wp2_with fail
  refine (HK.out _).mono ?_
  rintro e W5 ⟨rfl, hc⟩
  have C5 := Lib.hid (C4.out.then hc)
  clear hc
  go_wp2
  go_ret
  exact ⟨rfl, C5.out⟩
end Go.Proofs.Ytljndlnmpnkecaa
