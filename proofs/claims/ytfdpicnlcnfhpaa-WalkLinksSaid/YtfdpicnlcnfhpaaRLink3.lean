/- clevisref16.Link, any format. -/
import Derived.Test.YtfdpicnlcnfhpaaRLink2
namespace Go.Proofs.Ytfdpicnlcnfhpaa
open Go.RowKit
set_option maxRecDepth 100000

set_option maxHeartbeats 2000000 in
theorem rlink_any (n : Nat) (hn : n < 18446744073709551616) (fm : Int) (m : Img) (ls : List Seg) (low : Nat) (hlow : lowS ls = low) (l : List Imp) (v : Value) (w : World) (rd : segL.Rd w m.segs.v ls) (rdI : impL.Rd w v l) :
    Calls Try.prog 7 #[.int .u64 n, .int .i64 fm, imgL.val m, v] w fun e w' => e = .returned (.tuple #[fxL.val (linkF low fm n l), .int .i64 (linkN low fm n l), .int .i64 (linkE low fm n l)]) ∧ Chg [] w w' := by
  by_cases h2 : fm = 2
  · exact rlink_2 n hn m ls low hlow l v w rd rdI fm h2
  by_cases h6 : fm = 6
  · exact rlink_6 n hn m ls low hlow l v w rd rdI fm h6
  by_cases h1 : fm = 1
  · exact rlink_1 n hn m ls low hlow l v w rd rdI fm h1
  by_cases h12 : fm = 12
  · exact rlink_12 n hn m ls low hlow l v w rd rdI fm h12
  have hS : linkS low fm n = none := by simp [linkS, h2, h6, h1, h12]
  have e1 : linkF low fm n l = .zero := by simp [linkF, hS]
  have e2 : linkN low fm n l = 0 := by simp [linkN, hS]
  have e3 : linkE low fm n l = 2 := by simp [linkE, hS]
  rw [e1, e2, e3]
  have d1 : (fm == 2) = false := by simpa using h2
  have d2 : (fm == 6) = false := by simpa using h6
  have d3 : (fm == 1) = false := by simpa using h1
  have d4 : (fm == 12) = false := by simpa using h12
  clear e1 e2 e3 hS hn rdI h2 h6 h1 h12
  have HL := Lib.hid (refLow_any m ls)
  rw [hlow] at HL
  clear hlow
  have Rd := Lib.hid rd
  clear rd
  go_enter Try.func7, Try.ntmps7
  go_wp2_with ((with_reducible refine Lay.bxL (L := imgL) 32 m ?_ ?_); exact rfl; intro W1 bm ebm cbm xbm; replace ebm := Lib.hid ebm; replace cbm := Lib.hid cbm; replace xbm := Lib.hid xbm; refine Hid.out ?_)
  refine Lib.hid ?_
  go_wp2_with ((with_reducible refine Lay.alL Try.tFx ?_); intro W2 br ebr cbr xbr; replace ebr := Lib.hid ebr; replace cbr := Lib.hid cbr; replace xbr := Lib.hid xbr; refine Hid.out ?_)
  refine Lib.hid ?_
  go_wp2_with ((with_reducible refine Lay.ldL Try.tImg m ((xbm.out.frame cbr.out).in) ?_ ?_); exact rfl; refine Hid.out ?_)
  refine Lib.hid ?_
  go_wp2_with fail
  refine (HL.out _ ((Rd.out.frame cbm.out).frame cbr.out)).mono ?_
  rintro e W3 ⟨rfl, hc⟩
  have C3 := Lib.hid ((cbm.out.then cbr.out).then hc)
  have XR3 := Lib.hid (xbr.out.frame hc)
  clear hc
  go_wp2_with ((with_reducible refine Lay.alL Try.tFx ?_); intro W4 bf ebf cbf xbf; replace ebf := Lib.hid ebf; replace cbf := Lib.hid cbf; replace xbf := Lib.hid xbf; refine Hid.out ?_)
  refine Lib.hid ?_
  have C := Lib.hid (C3.out.then cbf.out)
  have XF := Lib.hid (xbf.out)
  have XR := Lib.hid (XR3.out.frame cbf.out)
  have LB : Hid (w.heap.size ≤ br) := Lib.hid (by rw [ebr.out]; exact cbm.out.size)
  have LF : Hid (w.heap.size ≤ bf) := Lib.hid (by rw [ebf.out]; exact C3.out.size)
  have NE : Hid (br ≠ bf) := Lib.hid (by have := XR3.out.lt; have := ebf.out; omega)
  clear C3 XR3 xbf xbr cbr cbf ebr ebf
  go_wp2_with ((with_reducible refine Lay.stL Try.tFx Fx.zero (XR.out) ?_ ?_ ?_); exact rfl; exact rfl; intro WZ cWZ xWZ; replace cWZ := Lib.hid cWZ; replace xWZ := Lib.hid xWZ; refine Hid.out ?_)
  refine Lib.hid ?_
  go_wp2
  refine Lay.ret3 Try.tFx Try.results7 xWZ.out rfl rfl ?_
  exact ⟨rfl, C.out.new cWZ.out LB.out⟩
end Go.Proofs.Ytfdpicnlcnfhpaa
