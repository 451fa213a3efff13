/- clevislaw15.ChainImports, walked. -/
import Derived.Test.YtkclmknepbbhnaaDoorRMay15b
import Derived.Test.YtkclmknepbbhnaaDoorKnown15
namespace Go.Proofs.YtkclmknepbbhnaaDoor
open Go.RowKit
set_option maxRecDepth 100000

set_option maxHeartbeats 4000000 in
theorem ChainImports_walk (w : World) (_hg : Env w) (x : Imp) (wx : x.wf) (n : Int) (wn : (Lit.int .i64 n).wf = true) :
    Calls Tryd.prog 3 #[impL.val x, .int .i64 n] w fun e w' => e = .returned (.bool true) ∧ Chg [] w w' := by
  have HK := Lib.hid (known15)
  have hb := bounds_i64 wn
  by_cases h1 : x.sym.size ≤ 300
  case neg =>
    have d1 : decide ((300 : Int) < (x.sym.size : Int)) = true := by simp; omega
    have H1 := Lib.hid h1
    clear h1
    go_enter Tryd.func3, Tryd.ntmps3
    go_wp2_with ((with_reducible refine Lay.bxL (L := impL) 23 x ?_ ?_); exact rfl; intro W1 bx ebx cbx xbx; replace ebx := Lib.hid ebx; replace cbx := Lib.hid cbx; replace xbx := Lib.hid xbx; refine Hid.out ?_)
    refine Lib.hid ?_
    have x2 := Imp.c_sym xbx.out
    go_wp2_with fail
    refine (HK.out _).mono ?_
    rintro e W2 ⟨rfl, hc⟩
    have Hc := Lib.hid hc
    clear hc
    go_wp2
    go_ret
    exact ⟨rfl, cbx.out.then Hc.out⟩
  have d1 : decide ((300 : Int) < (x.sym.size : Int)) = false := by simp; omega
  by_cases h2 : n < 0
  · have d2 : decide (n < (0 : Int)) = true := by simpa using h2
    have H1 := Lib.hid h1
    clear h1
    go_enter Tryd.func3, Tryd.ntmps3
    go_wp2_with ((with_reducible refine Lay.bxL (L := impL) 23 x ?_ ?_); exact rfl; intro W1 bx ebx cbx xbx; replace ebx := Lib.hid ebx; replace cbx := Lib.hid cbx; replace xbx := Lib.hid xbx; refine Hid.out ?_)
    refine Lib.hid ?_
    have x2 := Imp.c_sym xbx.out
    go_wp2_with fail
    refine (HK.out _).mono ?_
    rintro e W2 ⟨rfl, hc⟩
    have Hc := Lib.hid hc
    clear hc
    go_wp2
    go_ret
    exact ⟨rfl, cbx.out.then Hc.out⟩
  have d2 : decide (n < (0 : Int)) = false := by simp; omega
  by_cases h3 : 64 < n
  · have d3 : decide ((64 : Int) < n) = true := by simpa using h3
    have H1 := Lib.hid h1
    clear h1
    go_enter Tryd.func3, Tryd.ntmps3
    go_wp2_with ((with_reducible refine Lay.bxL (L := impL) 23 x ?_ ?_); exact rfl; intro W1 bx ebx cbx xbx; replace ebx := Lib.hid ebx; replace cbx := Lib.hid cbx; replace xbx := Lib.hid xbx; refine Hid.out ?_)
    refine Lib.hid ?_
    have x2 := Imp.c_sym xbx.out
    go_wp2_with fail
    refine (HK.out _).mono ?_
    rintro e W2 ⟨rfl, hc⟩
    have Hc := Lib.hid hc
    clear hc
    go_wp2
    go_ret
    exact ⟨rfl, cbx.out.then Hc.out⟩
  have d3 : decide ((64 : Int) < n) = false := by simp; omega
  obtain ⟨N, rfl⟩ : ∃ N : Nat, n = N := ⟨n.toNat, by omega⟩
  have hN : N ≤ 64 := by omega
  have HX : Hid (∀ y ∈ [x], y.sym.size ≤ 300) := Lib.hid (by intro y hy; rw [List.mem_singleton] at hy; subst hy; exact h1)
  have HW : Hid (∀ y ∈ [x], y.wf) := Lib.hid (by intro y hy; rw [List.mem_singleton] at hy; subst hy; exact wx)
  have HPL := Lib.hid (fun w => plain15_any N (by omega) w)
  have H1 := Lib.hid h1
  have H2 := Lib.hid h2
  have H3 := Lib.hid h3
  have Wx := Lib.hid wx
  have Wn := Lib.hid wn
  have Hb := Lib.hid hb
  clear h1 h2 h3 wx wn hb
  go_enter Tryd.func3, Tryd.ntmps3
  go_wp2_with ((with_reducible refine Lay.bxL (L := impL) 23 x ?_ ?_); exact rfl; intro W1 bx ebx cbx xbx; replace ebx := Lib.hid ebx; replace cbx := Lib.hid cbx; replace xbx := Lib.hid xbx; refine Hid.out ?_)
  refine Lib.hid ?_
  have x2 := Imp.c_sym xbx.out
  go_wp2_with fail
  refine (HPL.out _).mono ?_
  rintro e W2 ⟨sg, dp, rfl, hs, hd, hc⟩
  have n1 := seg_n hs
  have n2 := dep_n hd
  rw [show (plainDeps N).length = N from List.length_replicate] at n2
  have C2 : Hid (Chg [] w W2) := Lib.hid (cbx.out.then hc)
  have X2 := Lib.hid (xbx.out.frame hc)
  clear x2 hs hd hc
  obtain ⟨m, hm⟩ : ∃ m, m = plainImg sg dp := ⟨_, rfl⟩
  have m1 : m.segs.n = 3 := by rw [hm]; exact n1
  have m2 : m.deps.n = N := by rw [hm]; exact n2
  rw [← hm]
  clear hm n1 n2
  go_wp2_with ((with_reducible refine Lay.alL Tryd.tImg ?_); intro W3 bm ebm cbm xbm; replace ebm := Lib.hid ebm; replace cbm := Lib.hid cbm; replace xbm := Lib.hid xbm; refine Hid.out ?_)
  refine Lib.hid ?_
  go_wp2_with ((with_reducible refine Lay.stL Tryd.tImg m (xbm.out) ?_ ?_ ?_); exact rfl; exact rfl; intro W4 cW4 xW4; replace cW4 := Lib.hid cW4; replace xW4 := Lib.hid xW4; refine Hid.out ?_)
  refine Lib.hid ?_
  have D4 : Hid (Chg [] W2 W4) := Lib.hid (cbm.out.new cW4.out (by rw [ebm.out]; exact Nat.le_refl _))
  have X4 := Lib.hid (X2.out.frame D4.out)
  go_wp2_with ((with_reducible refine Lay.ldL Tryd.tImp x (X4.out.in) ?_ ?_); exact rfl; refine Hid.out ?_)
  refine Lib.hid ?_
  go_wp2_with ((with_reducible refine bs1 (x) (imp_built x) ?_ ?_ ?_); exact rfl; exact rfl; intro W5 v5 cv5 rv5; replace cv5 := Lib.hid cv5; replace rv5 := Lib.hid rv5; refine Hid.out ?_)
  refine Lib.hid ?_
  obtain ⟨a5, c5, rfl, hc51, hc52⟩ := rv5.out.shape
  go_wp2_with ((with_reducible refine Lay.alL Tryd.tChn ?_); intro W6 bc ebc cbc xbc; replace ebc := Lib.hid ebc; replace cbc := Lib.hid cbc; replace xbc := Lib.hid xbc; refine Hid.out ?_)
  refine Lib.hid ?_
  go_wp2_with ((with_reducible refine Lay.stL Tryd.tChn (⟨⟨none, 0, 0⟩, ⟨a5, 1, c5⟩⟩ : Chn) (xbc.out) ?_ ?_ ?_); exact rfl; exact rfl; intro W7 cW7 xW7; replace cW7 := Lib.hid cW7; replace xW7 := Lib.hid xW7; refine Hid.out ?_)
  refine Lib.hid ?_
  have D7 : Hid (Chg [] W5 W7) := Lib.hid (cbc.out.new cW7.out (by rw [ebc.out]; exact Nat.le_refl _))
  have M7 := Lib.hid ((xW4.out.frame cv5.out).frame D7.out)
  have X7 := Lib.hid ((X4.out.frame cv5.out).frame D7.out)
  have R7 : Hid (impL.Rd W7 (.slice a5 1 c5) [x]) := Lib.hid (rv5.out.frame D7.out)
  have C7 := Lib.hid (((C2.out.then D4.out).then cv5.out).then D7.out)
  have H7 := Lib.hid (xW7.out)
  clear ebm cbm xbm cW4 xW4 cv5 rv5 ebc cbc xbc cW7 xW7
  go_wp2_with fail
  go_loopw [7] (fun s7 wr => ∃ k : Nat, k ≤ 5 ∧ s7 = .int .i64 (k : Int) ∧ Chg [] W7 wr) (fun s7 _ => 5 - (intOf s7).toNat)
  case atStart => exact ⟨0, by decide, rfl, Chg.refl _ _⟩
  case round =>
    obtain ⟨k, hk, rfl, hch⟩ := hrel
    have M8 := Lib.hid (M7.out.frame hch)
    have H8 := Lib.hid (H7.out.frame hch)
    have X8 := Lib.hid (X7.out.frame hch)
    have R8 : Hid (impL.Rd wr (.slice a5 1 c5) [x]) := Lib.hid (R7.out.frame hch)
    have C8 := Lib.hid (C7.out.then hch)
    have Hch := Lib.hid hch
    clear hch
    by_cases hlt : k < 5
    · have d4 : decide ((k : Int) ≤ 4) = true := by simp; omega
      have wfk : (Lit.int .i64 (k : Int)).wf = true := by
        have hk5 : k = 0 ∨ k = 1 ∨ k = 2 ∨ k = 3 ∨ k = 4 := by omega
        rcases hk5 with rfl | rfl | rfl | rfl | rfl <;> decide
      have HMK : Hid (∀ W, impL.Rd W (.slice a5 1 c5) [x] → Calls Tryd.prog 7 #[chnL.val ⟨⟨none, 0, 0⟩, ⟨a5, 1, c5⟩⟩, imgL.val m, .int .i64 (k : Int)] W fun e w' => MkPost (okM N (k : Int) [x]) W.heap.size (mkB (k : Int) [x]) e w' ∧ Chg [] W w') := Lib.hid (fun W r => by have := cmake_any ⟨⟨none, 0, 0⟩, ⟨a5, 1, c5⟩⟩ rfl [x] HX.out m m1 (k : Int) wfk W r; rw [m2] at this; exact this)
      have HMY : Hid (∀ W, impL.Rd W (.slice a5 1 c5) [x] → Calls Tryd.prog 8 #[chnL.val ⟨⟨none, 0, 0⟩, ⟨a5, 1, c5⟩⟩, imgL.val m, .int .i64 (k : Int)] W fun e w' => e = .returned (.bool (okM N (k : Int) [x])) ∧ Chg [] W w') := Lib.hid (fun W r => by have := rmay1_any ⟨⟨none, 0, 0⟩, ⟨a5, 1, c5⟩⟩ rfl x (HX.out x (by simp)) m (k : Int) W r; rw [m2] at this; exact this)
      go_wp2_with ((with_reducible refine Lay.ldL Tryd.tChn (⟨⟨none, 0, 0⟩, ⟨a5, 1, c5⟩⟩ : Chn) (H8.out.in) ?_ ?_); exact rfl; refine Hid.out ?_)
      refine Lib.hid ?_
      go_wp2_with ((with_reducible refine Lay.ldL Tryd.tImg m (M8.out.in) ?_ ?_); exact rfl; refine Hid.out ?_)
      refine Lib.hid ?_
      go_wp2_with fail
      refine (HMK.out _ R8.out).mono ?_
      rintro e W9 ⟨hpost, hc⟩
      have M9 := Lib.hid (M8.out.frame hc)
      have H9 := Lib.hid (H8.out.frame hc)
      have X9 := Lib.hid (X8.out.frame hc)
      have R9 := Lib.hid (R8.out.frame hc)
      have C9 := Lib.hid (Hch.out.then hc)
      clear hc HMK M8 H8 X8 R8
      cases hok : okM N (k : Int) [x] with
      | false =>
        rw [hok] at HMY hpost
        replace hpost : e = .returned (.tuple #[.slice none 0 0, .int .i64 2]) := hpost
        subst hpost
        have Hok := Lib.hid hok
        clear hok
        go_wp2_with ((with_reducible refine Lay.ldL Tryd.tChn (⟨⟨none, 0, 0⟩, ⟨a5, 1, c5⟩⟩ : Chn) (H9.out.in) ?_ ?_); exact rfl; refine Hid.out ?_)
        refine Lib.hid ?_
        go_wp2_with ((with_reducible refine Lay.ldL Tryd.tImg m (M9.out.in) ?_ ?_); exact rfl; refine Hid.out ?_)
        refine Lib.hid ?_
        go_wp2_with fail
        refine (HMY.out _ R9.out).mono ?_
        rintro e WA ⟨rfl, hc⟩
        have CA := Lib.hid (C9.out.then hc)
        clear hc
        go_wp2
        go_roundw
        case rel => exact ⟨k + 1, hlt, by go_num, CA.out⟩
        case measure => simp [intOf]; omega
      | true =>
        rw [hok] at HMY hpost
        obtain ⟨v, rfl, hbb⟩ := hpost
        obtain ⟨hh, hlen⟩ := head_mk N hN (k : Int) [x] hok HW.out
        have HRD : Hid (∀ W, byteL.Rd W v (mkB (k : Int) [x]) → Calls Tryd.prog 9 #[v, imgL.val m] W fun e w' => (∃ c : Chn, e = .returned (.tuple #[chnL.val c, .int .i64 0]) ∧ c.starts = ⟨none, 0, 0⟩ ∧ impL.Rd w' c.imps.v [x]) ∧ Chg [] W w') := Lib.hid (fun W r => cread_any _ N 3 (k : Int) [x] _ _ _ hh m m2 m1 v W r)
        have B9 := Lib.hid (hbb.rd)
        have Hok := Lib.hid hok
        have Hh := Lib.hid hh
        have Hlen := Lib.hid hlen
        have Hbb := Lib.hid hbb
        clear hok hh hlen hbb
        go_wp2_with ((with_reducible refine Lay.ldL Tryd.tChn (⟨⟨none, 0, 0⟩, ⟨a5, 1, c5⟩⟩ : Chn) (H9.out.in) ?_ ?_); exact rfl; refine Hid.out ?_)
        refine Lib.hid ?_
        go_wp2_with ((with_reducible refine Lay.ldL Tryd.tImg m (M9.out.in) ?_ ?_); exact rfl; refine Hid.out ?_)
        refine Lib.hid ?_
        go_wp2_with fail
        refine (HMY.out _ R9.out).mono ?_
        rintro e WA ⟨rfl, hc⟩
        have CA := Lib.hid (C9.out.then hc)
        have MA := Lib.hid (M9.out.frame hc)
        have XA := Lib.hid (X9.out.frame hc)
        have BA := Lib.hid (B9.out.frame hc)
        clear hc HMY M9 H9 X9 R9 B9
        go_wp2_with ((with_reducible refine Lay.ldL Tryd.tImg m (MA.out.in) ?_ ?_); exact rfl; refine Hid.out ?_)
        refine Lib.hid ?_
        go_wp2_with fail
        refine (HRD.out _ BA.out).mono ?_
        rintro e WB ⟨⟨c, rfl, hst, hrd⟩, hc⟩
        obtain ⟨st, im⟩ := c
        replace hst : st = ⟨none, 0, 0⟩ := hst
        subst hst
        have CB := Lib.hid (CA.out.then hc)
        have XB := Lib.hid (XA.out.frame hc)
        obtain ⟨ai, ci, hii, hci1, hci2⟩ := hrd.shape
        obtain ⟨a', n', c'⟩ := im
        replace hii : Value.slice a' n' c' = .slice ai 1 ci := hii
        cases hii
        have RB : Hid (impL.Rd WB (.slice ai 1 ci) [x]) := Lib.hid (hrd)
        clear hc hrd
        go_wp2_with ((with_reducible refine Lay.alL Tryd.tChn ?_); intro WC bz ebz cbz xbz; replace ebz := Lib.hid ebz; replace cbz := Lib.hid cbz; replace xbz := Lib.hid xbz; refine Hid.out ?_)
        refine Lib.hid ?_
        go_wp2_with ((with_reducible refine Lay.stL Tryd.tChn (⟨⟨none, 0, 0⟩, ⟨ai, 1, ci⟩⟩ : Chn) (xbz.out) ?_ ?_ ?_); exact rfl; exact rfl; intro WD cWD xWD; replace cWD := Lib.hid cWD; replace xWD := Lib.hid xWD; refine Hid.out ?_)
        refine Lib.hid ?_
        have DD : Hid (Chg [] WB WD) := Lib.hid (cbz.out.new cWD.out (by rw [ebz.out]; exact Nat.le_refl _))
        have CD := Lib.hid (CB.out.then DD.out)
        have XD := Lib.hid (XB.out.frame DD.out)
        have RD := Lib.hid (RB.out.frame DD.out)
        have y0 := Chn.c_starts xWD.out
        have y1 := Chn.c_imps xWD.out
        obtain ⟨bi, oi, rfl, hbi, hcell⟩ := RD.out.at (by simp)
        have hcell0 : impL.In WD bi oi x := by
          have := hcell 0 (by simp)
          rwa [Nat.zero_mul, Nat.add_zero] at this
        obtain ⟨i0, i1, i2, i3⟩ := Imp.at hcell0
        clear hcell hcell0
        obtain ⟨j0, j1, j2, j3⟩ := Imp.at0B XD.out
        have hq := Imp.neq x x
        have hq2 : (!decide (x = x)) = false := by simp
        go_wp2_with fail
        go_quiet (fail)
        go_wp2
        go_roundw
        case rel => exact ⟨k + 1, hlt, by go_num, CD.out.drewN _⟩
        case measure => simp [intOf]; omega
    · obtain rfl : k = 5 := by omega
      go_wp2_with fail
      refine (HK.out _).mono ?_
      rintro e WA ⟨rfl, hc⟩
      have CA := Lib.hid (C8.out.then hc)
      clear hc
      go_wp2
      go_ret
      exact ⟨rfl, CA.out⟩
end Go.Proofs.YtkclmknepbbhnaaDoor
