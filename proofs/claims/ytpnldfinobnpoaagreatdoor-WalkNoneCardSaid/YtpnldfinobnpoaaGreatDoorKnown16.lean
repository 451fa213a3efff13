/- What is known of chapter 16: clevislaw16.known. -/
import Derived.Test.YtpnldfinobnpoaaGreatDoorRLink3
import Derived.Test.YtpnldfinobnpoaaGreatDoorPlain
import Derived.OpenShut
namespace Go.Proofs.YtpnldfinobnpoaaGreatDoor
open Go.RowKit
set_option maxRecDepth 100000

theorem low_plain (low : Int) : lowS (plainSegs low) = low := by simp [lowS, plainSegs, idx, holeS]
def impsK : List Imp := [⟨0, false, sA, 0⟩, ⟨1, false, sB, 0⟩]
set_option maxHeartbeats 4000000 in
theorem known16 (w : World) : Calls Tryz.prog 8 #[] w fun e w' => e = .returned (.bool true) ∧ Chg [] w w' := by
  have hl : lowS (plainSegs 4294967296) = ((4294967296 : Nat) : Int) := low_plain _
  have HK1 : Hid (∀ (m : Img) (v : Value) (w : World), segL.Rd w m.segs.v (plainSegs 4294967296) → impL.Rd w v impsK → Calls Tryz.prog 21 #[.int .u64 9223372036854775809, .int .i64 2, imgL.val m, v] w fun e w' => e = .returned (.tuple #[fxL.val ⟨0, 2, 0, 1, sB, 0, false⟩, .int .i64 0, .int .i64 0]) ∧ Chg [] w w') := by
    refine Lib.hid ?_
    intro m v w r1 r2
    have h := link_any 9223372036854775809 (by decide) 2 m _ 4294967296 hl impsK v w r1 r2
    have e1 : linkF 4294967296 2 9223372036854775809 impsK = ⟨0, 2, 0, 1, sB, 0, false⟩ := by decide +kernel
    have e2 : linkN 4294967296 2 9223372036854775809 impsK = 0 := by decide +kernel
    have e3 : linkE 4294967296 2 9223372036854775809 impsK = 0 := by decide +kernel
    rw [e1, e2, e3] at h
    exact h
  have HK2 : Hid (∀ (m : Img) (v : Value) (w : World), segL.Rd w m.segs.v (plainSegs 4294967296) → impL.Rd w v impsK → Calls Tryz.prog 21 #[.int .u64 4503599627386880, .int .i64 6, imgL.val m, v] w fun e w' => e = .returned (.tuple #[fxL.val ⟨0, 1, 4294983680, 0, ⟨#[]⟩, 0, false⟩, .int .i64 2, .int .i64 0]) ∧ Chg [] w w') := by
    refine Lib.hid ?_
    intro m v w r1 r2
    have h := link_any 4503599627386880 (by decide) 6 m _ 4294967296 hl impsK v w r1 r2
    have e1 : linkF 4294967296 6 4503599627386880 impsK = ⟨0, 1, 4294983680, 0, ⟨#[]⟩, 0, false⟩ := by decide +kernel
    have e2 : linkN 4294967296 6 4503599627386880 impsK = 2 := by decide +kernel
    have e3 : linkE 4294967296 6 4503599627386880 impsK = 0 := by decide +kernel
    rw [e1, e2, e3] at h
    exact h
  have HPL := Lib.hid (plain_any 4294967296 1 (by decide))
  clear hl
  go_enter Tryz.func8, Tryz.ntmps8
  go_upto_region 2 with fail
  refine Lay.with_world (fun W => impL.Rd W (.slice (some ⟨w.heap.size, 0, none⟩) 2 2) impsK ∧ Chg [] w W) ⟨Lay.Rd.of_heap (heap_alloc_eq _ _) rfl rfl (by decide), (Chg.refl _ _).alloc _⟩ (fun W hW => ?_)
  obtain ⟨rl, C⟩ := hW
  have RL := Lib.hid rl
  have C0 := Lib.hid C
  clear rl C
  go_wp2_with fail
  refine (HPL.out W).mono ?_
  rintro e W1 ⟨sg, dp, rfl, hs, _, hc⟩
  have RS := Lib.hid (hs)
  have C1 := Lib.hid (C0.out.then hc)
  have RL1 := Lib.hid (RL.out.frame hc)
  clear hs hc
  go_wp2_with ((with_reducible refine Lay.alL Tryz.tImg ?_); intro W2 bm ebm cbm xbm; replace ebm := Lib.hid ebm; replace cbm := Lib.hid cbm; replace xbm := Lib.hid xbm; refine Hid.out ?_)
  refine Lib.hid ?_
  go_wp2_with ((with_reducible refine Lay.stL Tryz.tImg (plainImg sg dp) (xbm.out) ?_ ?_ ?_); exact rfl; exact rfl; intro W3 cW3 xW3; replace cW3 := Lib.hid cW3; replace xW3 := Lib.hid xW3; refine Hid.out ?_)
  refine Lib.hid ?_
  have D3 : Hid (Chg [] W1 W3) := Lib.hid (cbm.out.new cW3.out (by rw [ebm.out]; exact Nat.le_refl _))
  have RS3 : Hid (segL.Rd W3 (plainImg sg dp).segs.v (plainSegs 4294967296)) := Lib.hid (RS.out.frame D3.out)
  have RL3 := Lib.hid (RL1.out.frame D3.out)
  have C3 := Lib.hid (C1.out.then D3.out)
  clear D3 RS RL1 C1 RL C0 cbm cW3 xbm ebm
  go_wp2_with ((with_reducible refine Lay.ldL Tryz.tImg (plainImg sg dp) (xW3.out.in) ?_ ?_); exact rfl; refine Hid.out ?_)
  refine Lib.hid ?_
  go_wp2_with fail
  refine (HK1.out _ _ _ RS3.out RL3.out).mono ?_
  rintro e W4 ⟨rfl, hc⟩
  have X4 := Lib.hid (xW3.out.frame hc)
  have RS4 := Lib.hid (RS3.out.frame hc)
  have RL4 := Lib.hid (RL3.out.frame hc)
  have C4 := Lib.hid (C3.out.then hc)
  clear hc RS3 RL3 C3 xW3
  go_wp2_with ((with_reducible refine Lay.alL Tryz.tFx ?_); intro W5 bf ebf cbf xbf; replace ebf := Lib.hid ebf; replace cbf := Lib.hid cbf; replace xbf := Lib.hid xbf; refine Hid.out ?_)
  refine Lib.hid ?_
  go_wp2_with ((with_reducible refine Lay.stL Tryz.tFx (⟨0, 2, 0, 1, sB, 0, false⟩ : Fx) (xbf.out) ?_ ?_ ?_); exact rfl; exact rfl; intro W6 cW6 xW6; replace cW6 := Lib.hid cW6; replace xW6 := Lib.hid xW6; refine Hid.out ?_)
  refine Lib.hid ?_
  have D6 : Hid (Chg [] W4 W6) := Lib.hid (cbf.out.new cW6.out (by rw [ebf.out]; exact Nat.le_refl _))
  have X6 := Lib.hid (X4.out.frame D6.out)
  have RS6 := Lib.hid (RS4.out.frame D6.out)
  have RL6 := Lib.hid (RL4.out.frame D6.out)
  have C6 := Lib.hid (C4.out.then D6.out)
  clear D6 X4 RS4 RL4 C4 cbf cW6 xbf ebf
  go_wp2_with ((with_reducible refine Lay.ldL Tryz.tImg (plainImg sg dp) (X6.out.in) ?_ ?_); exact rfl; refine Hid.out ?_)
  refine Lib.hid ?_
  go_wp2_with fail
  refine (HK2.out _ _ _ RS6.out RL6.out).mono ?_
  rintro e W7 ⟨rfl, hc⟩
  have F7 := Lib.hid (xW6.out.frame hc)
  have C7 := Lib.hid (C6.out.then hc)
  clear hc RS6 RL6 C6 xW6 X6
  go_wp2_with ((with_reducible refine Lay.alL Tryz.tFx ?_); intro W8 bg ebg cbg xbg; replace ebg := Lib.hid ebg; replace cbg := Lib.hid cbg; replace xbg := Lib.hid xbg; refine Hid.out ?_)
  refine Lib.hid ?_
  go_wp2_with ((with_reducible refine Lay.stL Tryz.tFx (⟨0, 1, 4294983680, 0, ⟨#[]⟩, 0, false⟩ : Fx) (xbg.out) ?_ ?_ ?_); exact rfl; exact rfl; intro W9 cW9 xW9; replace cW9 := Lib.hid cW9; replace xW9 := Lib.hid xW9; refine Hid.out ?_)
  refine Lib.hid ?_
  have D9 : Hid (Chg [] W7 W9) := Lib.hid (cbg.out.new cW9.out (by rw [ebg.out]; exact Nat.le_refl _))
  have C9 := Lib.hid (C7.out.then D9.out)
  have f1 : W9.cell? ⟨bf, 1, none⟩ = some (.int .i64 2) := Fx.c_kind (F7.out.frame D9.out)
  have f4 : W9.cell? ⟨bf, 4, none⟩ = some (.string sB) := Fx.c_sym (F7.out.frame D9.out)
  have g1 : W9.cell? ⟨bg, 1, none⟩ = some (.int .i64 1) := Fx.c_kind xW9.out
  have g2 : W9.cell? ⟨bg, 2, none⟩ = some (.int .u64 4294983680) := Fx.c_tgt xW9.out
  unfold sB at f4
  clear D9 F7 C7 cbg cW9 xbg ebg
  go_wp2
  go_ret
  exact ⟨rfl, C9.out⟩
end Go.Proofs.YtpnldfinobnpoaaGreatDoor
