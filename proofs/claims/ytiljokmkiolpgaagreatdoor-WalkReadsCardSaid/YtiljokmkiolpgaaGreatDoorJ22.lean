/- Lemmas, laid together: part 22 of 42. Conditions: none but each lemma's own. -/
import Derived.Test.YtiljokmkiolpgaaGreatDoorJ21
import Derived.Test.YtiljokmkiolpgaaGreatDoorJ1
namespace Go.Proofs.YtiljokmkiolpgaaGreatDoor
open Go.RowKit
set_option maxRecDepth 100000
theorem wrap_three (a b c : Int) : IntKind.u64.wrap (IntKind.u64.wrap (a + b) - c) = IntKind.u64.wrap (a + (b - c)) := by
 rw [IntKind.wrap_u64, IntKind.wrap_u64, IntKind.wrap_u64]
 omega
set_option maxHeartbeats 8000000 in
theorem rsections_any (m : Img) (xs : List Seg) (ps : List SegP) (hb : ImB ps) (w : World) (rd : segL.Rd w m.segs.v xs) (hxl : xs.length = ps.length) (hsr : ∀ i, i < xs.length → SegRd w (xs.getD i .zero) (ps.getD i .zero)) :
  Calls Tryz.prog 38 #[imgL.val m] w fun e w' => e = .returned (.int .i64 (secsE ps)) ∧ Chg [] w w' := by
 obtain ⟨a, cap, hv, hc1, hc2⟩ := rd.shape
 have rd' := rd
 rw [hv] at rd'
 have hlen : xs.length ≤ 9223372036854775807 := Nat.le_trans hc1 hc2
 obtain ⟨E, hEE⟩ : ∃ E, E = secsE ps := ⟨_, rfl⟩
 rw [← hEE]
 unfold secsE at hEE
 have Rd := hY rd
 have RD2 := hY rd'
 have Hc2 := hY hc2
 have Hlen := hY hlen
 have HEE := hY hEE
 have Hxl := hY hxl
 have Hsr := hY hsr
 have Hb := hY hb
 clear rd rd' hc2 hlen hEE hxl hsr hb
 clear hc1
 unfold SlV.v at hv
 go_enter Tryz.func38, Tryz.ntmps38
 go_wp2_with ((with_reducible refine Lay.bxQ (L := imgL) 32 m ?_ ?_); exact rfl)
 refine hY fun W1 bm ebm cbm xbm => ?_
 go_wp2_with fail
 go_loopw [3] (fun s3 wr => ∃ k : Nat, k ≤ xs.length ∧ s3 = .int .i64 (k : Int) ∧ Chg [] w wr ∧ (ps.drop k).all segSecB = ps.all segSecB ∧ Chg [] W1 wr) (fun s3 _ => xs.length - (intOf s3).toNat)
 case atStart => exact ⟨0, Nat.zero_le _, rfl, cbm.out, rfl, Chg.refl _ _⟩
 case round =>
  obtain ⟨k, hk, rfl, hck, hgo, hc1r⟩ := hrel
  have C1 := hY (hc1r)
  clear hc1r
  have x4 := Img.c_segs (xbm.out.frame C1.out)
  rw [hv] at x4
  by_cases hlt : k < xs.length
  ·have dlt : decide ((k : Int) < (xs.length : Int)) = true := decide_eq_true (by omega)
   obtain ⟨g, o, hao, _, hin⟩ := RD2.out.at (by omega)
   have hi := (hin k hlt).frame hck
   have hsrk := (Hsr.out k hlt).frame hck
   have hkp : k < ps.length := by rw [← Hxl.out]; exact hlt
   have hbk := Hb.out.seg k hkp
   have hbj := Hb.out.sec k hkp
   obtain ⟨s, hs⟩ : ∃ s, s = xs.getD k Seg.zero := ⟨_, rfl⟩
   obtain ⟨p, hp⟩ : ∃ p, p = ps.getD k SegP.zero := ⟨_, rfl⟩
   rw [show xs.getD k segL.d = s from hs.symm] at hi
   rw [drop_getD ps k SegP.zero hkp] at hgo
   rw [← hp] at hgo hbk hbj
   rw [← hs, ← hp] at hsrk
   rw [List.all_cons] at hgo
   rw [show segL.n = 7 from rfl] at hi
   subst hao
   obtain ⟨hbar, hrk⟩ := hsrk
   obtain ⟨_, e1, e2, e3, e4, _⟩ := seg_bare hbar
   obtain ⟨ak, ck, hvk, hck1, hck2⟩ := hrk.shape
   rw [hvk] at hrk
   have hlk : p.ks.length ≤ 9223372036854775807 := Nat.le_trans hck1 hck2
   have CK := hY (hck)
   have Hi := hY hi
   have Hin := hY hin
   have Hs := hY hs
   have Hp := hY hp
   have Hbk := hY hbk
   have Hbj := hY hbj
   have RK := hY hrk
   have Hgo := hY hgo
   have Hbar := hY hbar
   have Hck1 := hY hck1
   have Hck2 := hY hck2
   have Hlk := hY hlk
   clear hi hin hs hp hbk hbj hrk hgo hbar hck1 hck2 hlk
   clear hck
   go_wp2_with ((with_reducible refine Lay.ldQ Tryz.tSeg s (Hi.out) ?_ ?_); exact rfl)
   refine hY ?_
   go_wp2_with (with_reducible refine Lay.alQ Tryz.tSeg ?_)
   refine hY fun Wa bx ebx cbx xbx => ?_
   go_wp2_with ((with_reducible refine Lay.stQ Tryz.tSeg s (xbx.out) ?_ ?_ ?_); exact rfl; exact rfl)
   refine hY fun Wb cWb xWb => ?_
   have K1 : Hid (Chg [] wr Wb) := hY (cbx.out.new cWb.out (by rw [ebx.out]; exact Nat.le_refl _))
   have SB := hY (xWb.out)
   clear x4
   have hsp : segSecB p = p.ks.all (secB s) := by unfold segSecB; rw [← Hbar.out]; rfl
   have hsb : SegB s := by have := Hbk.out; unfold SegB at *; omega
   have E1 := hY e1
   have E2 := hY e2
   have E3 := hY e3
   have E4 := hY e4
   have Hsp := hY hsp
   have Hsb := hY hsb
   clear e1 e2 e3 e4 hsp hsb
   obtain ⟨wo, rfl⟩ : ∃ wo, wo = wr := ⟨_, rfl⟩
   have CB := hY (CK.out.then K1.out)
   go_wp2_with fail
   go_loopw [5] (fun s5 wr => ∃ j : Nat, j ≤ p.ks.length ∧ s5 = .int .i64 (j : Int) ∧ Chg [] Wb wr ∧ (p.ks.drop j).all (secB s) = p.ks.all (secB s)) (fun s5 _ => p.ks.length - (intOf s5).toNat)
   case atStart => exact ⟨0, Nat.zero_le _, rfl, Chg.refl _ _, rfl⟩
   case round =>
    obtain ⟨j, hj, rfl, hcj, hgn⟩ := hrel
    have CJ := hY (hcj)
    clear hcj
    have y6 := Seg.c_secs (SB.out.frame CJ.out)
    rw [hvk] at y6
    by_cases hjl : j < p.ks.length
    ·have dlj : decide ((j : Int) < (p.ks.length : Int)) = true := decide_eq_true (by omega)
     obtain ⟨g2, o2, ha2, _, hin2⟩ := RK.out.at (by omega)
     have hx := (hin2 j hjl).frame (K1.out.then CJ.out)
     rw [drop_getD p.ks j Sec.zero hjl] at hgn
     have hxb := Hbj.out j hjl
     obtain ⟨x, hx0⟩ : ∃ x, x = p.ks.getD j Sec.zero := ⟨_, rfl⟩
     rw [show p.ks.getD j secL.d = x from hx0.symm] at hx
     rw [← hx0] at hgn hxb
     rw [List.all_cons] at hgn
     rw [show secL.n = 6 from rfl] at hx
     subst ha2
     have HX := hY hx
     have Hin2 := hY hin2
     have Hx0 := hY hx0
     clear hx hin2 hx0
     unfold SecB at hxb
     have hsb := Hsb.out
     unfold SegB at hsb
     by_cases a1 : x.addr < s.addr
     ·have f1 : decide (x.addr < s.addr) = true := decide_eq_true a1
      have hb1 : secB s x = false := by unfold secB; rw [decide_eq_false (by omega)]; rfl
      rw [hb1, Bool.false_and] at hgn
      have HE : Hid (E = 9) := hY (bad9 HEE.out Hgo.out Hsp.out hgn)
      have Hgn := hY hgn
      have Hb1 := hY hb1
      have A1 := hY a1
      have Hxb := hY hxb
      have HSB := hY hsb
      clear hgn hb1 a1 hxb hsb
      go_wp2_with ((with_reducible refine Lay.ldQ Tryz.tSec x (HX.out) ?_ ?_); exact rfl)
      refine hY ?_
      go_wp2_with (with_reducible refine Lay.alQ Tryz.tSec ?_)
      refine hY fun Wa bx ebx cbx xbx => ?_
      go_wp2_with ((with_reducible refine Lay.stQ Tryz.tSec x (xbx.out) ?_ ?_ ?_); exact rfl; exact rfl)
      refine hY fun Wb cWb xWb => ?_
      clear y6
      have K4 : Hid (Chg [] wr Wb) := hY (cbx.out.new cWb.out (by rw [ebx.out]; exact Nat.le_refl _))
      have S4 := hY (SB.out.frame (CJ.out.then K4.out))
      have CT := hY (CB.out.then (CJ.out.then K4.out))
      have y1 := Seg.c_addr S4.out
      have y2 := Seg.c_size S4.out
      have y3 := Seg.c_off S4.out
      have y4 := Seg.c_fsize S4.out
      have z2 := Sec.c_addr xWb.out
      have z3 := Sec.c_size xWb.out
      have z4 := Sec.c_off xWb.out
      have z5 := Sec.c_kind xWb.out
      go_wp2
      go_ret
      exact ⟨congrArg (fun z => Ending.returned (.int .i64 z)) HE.out.symm, CT.out⟩
     ·have f1 : decide (x.addr < s.addr) = false := decide_eq_false a1
      have hw : IntKind.u64.wrap (x.addr - s.addr) = x.addr - s.addr := by rw [IntKind.wrap_u64]; omega
      have hA := fun w => rwithinI_any (x.addr - s.addr) x.size s.size (by omega) hxb.2.1.1 hsb.2.1.2 w
      have hB := fun w => rwithinI_any (x.addr - s.addr) x.size s.fsize (by omega) hxb.2.1.1 hsb.2.2.2.2 w
      have hsecB : secB s x = (withinI (x.addr - s.addr) x.size s.size && (decide (x.kind = 1) || (decide (x.off = IntKind.u64.wrap (s.off + (x.addr - s.addr))) && withinI (x.addr - s.addr) x.size s.fsize))) := by
       unfold secB; rw [decide_eq_true (show s.addr ≤ x.addr by omega), Bool.true_and]
      cases b1 : withinI (x.addr - s.addr) x.size s.size with
      | false =>
       rw [b1] at hA hsecB
       rw [Bool.false_and] at hsecB
       rw [hsecB, Bool.false_and] at hgn
       have HE : Hid (E = 9) := hY (bad9 HEE.out Hgo.out Hsp.out hgn)
       have Hgn := hY hgn
       have HsecB := hY hsecB
       have A1 := hY a1
       have Hxb := hY hxb
       have HSB := hY hsb
       have HA := hY hA
       have HB := hY hB
       have B1 := hY b1
       clear hgn hsecB a1 hxb hsb hA hB b1
       go_wp2_with ((with_reducible refine Lay.ldQ Tryz.tSec x (HX.out) ?_ ?_); exact rfl)
       refine hY ?_
       go_wp2_with (with_reducible refine Lay.alQ Tryz.tSec ?_)
       refine hY fun Wa bx ebx cbx xbx => ?_
       go_wp2_with ((with_reducible refine Lay.stQ Tryz.tSec x (xbx.out) ?_ ?_ ?_); exact rfl; exact rfl)
       refine hY fun Wb cWb xWb => ?_
       clear y6
       have K4 : Hid (Chg [] wr Wb) := hY (cbx.out.new cWb.out (by rw [ebx.out]; exact Nat.le_refl _))
       have S4 := hY (SB.out.frame (CJ.out.then K4.out))
       have CT := hY (CB.out.then (CJ.out.then K4.out))
       have y1 := Seg.c_addr S4.out
       have y2 := Seg.c_size S4.out
       have y3 := Seg.c_off S4.out
       have y4 := Seg.c_fsize S4.out
       have z2 := Sec.c_addr xWb.out
       have z3 := Sec.c_size xWb.out
       have z4 := Sec.c_off xWb.out
       have z5 := Sec.c_kind xWb.out
       go_wp2_with fail
       refine (HA.out _).mono ?_
       rintro e Wc ⟨rfl, hc⟩
       have CTWc := hY (CT.out.then hc)
       have KWc := hY (K4.out.then hc)
       replace y1 := hc.cell y1 (by simp)
       replace y2 := hc.cell y2 (by simp)
       replace y3 := hc.cell y3 (by simp)
       replace y4 := hc.cell y4 (by simp)
       replace z2 := hc.cell z2 (by simp)
       replace z3 := hc.cell z3 (by simp)
       replace z4 := hc.cell z4 (by simp)
       replace z5 := hc.cell z5 (by simp)
       clear hc
       go_wp2
       go_ret
       exact ⟨congrArg (fun z => Ending.returned (.int .i64 z)) HE.out.symm, CTWc.out⟩
      | true =>
       rw [b1] at hA hsecB
       rw [Bool.true_and] at hsecB
       by_cases a2 : x.kind = 1
       ·have f2 : (x.kind != 1) = false := by rw [a2]; rfl
        rw [decide_eq_true a2, Bool.true_or] at hsecB
        rw [hsecB, Bool.true_and] at hgn
        have Hgn := hY hgn
        have HsecB := hY hsecB
        have A1 := hY a1
        have A2 := hY a2
        have Hxb := hY hxb
        have HSB := hY hsb
        have HA := hY hA
        have HB := hY hB
        have B1 := hY b1
        clear hgn hsecB a1 a2 hxb hsb hA hB b1
        go_wp2_with ((with_reducible refine Lay.ldQ Tryz.tSec x (HX.out) ?_ ?_); exact rfl)
        refine hY ?_
        go_wp2_with (with_reducible refine Lay.alQ Tryz.tSec ?_)
        refine hY fun Wa bx ebx cbx xbx => ?_
        go_wp2_with ((with_reducible refine Lay.stQ Tryz.tSec x (xbx.out) ?_ ?_ ?_); exact rfl; exact rfl)
        refine hY fun Wb cWb xWb => ?_
        clear y6
        have K4 : Hid (Chg [] wr Wb) := hY (cbx.out.new cWb.out (by rw [ebx.out]; exact Nat.le_refl _))
        have S4 := hY (SB.out.frame (CJ.out.then K4.out))
        have CT := hY (CB.out.then (CJ.out.then K4.out))
        have y1 := Seg.c_addr S4.out
        have y2 := Seg.c_size S4.out
        have y3 := Seg.c_off S4.out
        have y4 := Seg.c_fsize S4.out
        have z2 := Sec.c_addr xWb.out
        have z3 := Sec.c_size xWb.out
        have z4 := Sec.c_off xWb.out
        have z5 := Sec.c_kind xWb.out
        go_wp2_with fail
        refine (HA.out _).mono ?_
        rintro e Wc ⟨rfl, hc⟩
        have CTWc := hY (CT.out.then hc)
        have KWc := hY (K4.out.then hc)
        replace y1 := hc.cell y1 (by simp)
        replace y2 := hc.cell y2 (by simp)
        replace y3 := hc.cell y3 (by simp)
        replace y4 := hc.cell y4 (by simp)
        replace z2 := hc.cell z2 (by simp)
        replace z3 := hc.cell z3 (by simp)
        replace z4 := hc.cell z4 (by simp)
        replace z5 := hc.cell z5 (by simp)
        clear hc
        have hw1 : wrap64 ((j : Int) + 1) = (j : Int) + 1 := by have := Hlk.out; unfold wrap64; omega
        go_wp2
        clear y1 y2 y3 y4 z2 z3 z4 z5
        go_roundw
        case rel => exact ⟨j + 1, hjl, by first | rfl | exact congrArg (Value.int .i64) hw1, (CJ.out.then KWc.out), Hgn.out⟩
        case measure => exact meas_w hw1 hjl
       ·have f2 : (x.kind != 1) = true := by rw [bne_iff_ne]; exact a2
        rw [decide_eq_false a2, Bool.false_or] at hsecB
        by_cases a3 : x.off = IntKind.u64.wrap (s.off + (x.addr - s.addr))
        ·have f3 : (x.off != IntKind.u64.wrap (IntKind.u64.wrap (s.off + x.addr) - s.addr)) = false := by rw [wrap_three, ← a3]; simp
         rw [decide_eq_true a3, Bool.true_and] at hsecB
         cases b2 : withinI (x.addr - s.addr) x.size s.fsize with
         | false =>
          rw [b2] at hB hsecB
          rw [hsecB, Bool.false_and] at hgn
          have HE : Hid (E = 9) := hY (bad9 HEE.out Hgo.out Hsp.out hgn)
          have Hgn := hY hgn
          have HsecB := hY hsecB
          have A1 := hY a1
          have A2 := hY a2
          have A3 := hY a3
          have Hxb := hY hxb
          have HSB := hY hsb
          have HA := hY hA
          have HB := hY hB
          have B1 := hY b1
          have B2 := hY b2
          clear hgn hsecB a1 a2 a3 hxb hsb hA hB b1 b2
          go_wp2_with ((with_reducible refine Lay.ldQ Tryz.tSec x (HX.out) ?_ ?_); exact rfl)
          refine hY ?_
          go_wp2_with (with_reducible refine Lay.alQ Tryz.tSec ?_)
          refine hY fun Wa bx ebx cbx xbx => ?_
          go_wp2_with ((with_reducible refine Lay.stQ Tryz.tSec x (xbx.out) ?_ ?_ ?_); exact rfl; exact rfl)
          refine hY fun Wb cWb xWb => ?_
          clear y6
          have K4 : Hid (Chg [] wr Wb) := hY (cbx.out.new cWb.out (by rw [ebx.out]; exact Nat.le_refl _))
          have S4 := hY (SB.out.frame (CJ.out.then K4.out))
          have CT := hY (CB.out.then (CJ.out.then K4.out))
          have y1 := Seg.c_addr S4.out
          have y2 := Seg.c_size S4.out
          have y3 := Seg.c_off S4.out
          have y4 := Seg.c_fsize S4.out
          have z2 := Sec.c_addr xWb.out
          have z3 := Sec.c_size xWb.out
          have z4 := Sec.c_off xWb.out
          have z5 := Sec.c_kind xWb.out
          go_wp2_with fail
          refine (HA.out _).mono ?_
          rintro e Wc ⟨rfl, hc⟩
          have CTWc := hY (CT.out.then hc)
          have KWc := hY (K4.out.then hc)
          replace y1 := hc.cell y1 (by simp)
          replace y2 := hc.cell y2 (by simp)
          replace y3 := hc.cell y3 (by simp)
          replace y4 := hc.cell y4 (by simp)
          replace z2 := hc.cell z2 (by simp)
          replace z3 := hc.cell z3 (by simp)
          replace z4 := hc.cell z4 (by simp)
          replace z5 := hc.cell z5 (by simp)
          clear hc
          go_wp2_with fail
          refine (HB.out _).mono ?_
          rintro e Wd ⟨rfl, hc⟩
          have CTWd := hY (CTWc.out.then hc)
          have KWd := hY (KWc.out.then hc)
          replace y1 := hc.cell y1 (by simp)
          replace y2 := hc.cell y2 (by simp)
          replace y3 := hc.cell y3 (by simp)
          replace y4 := hc.cell y4 (by simp)
          replace z2 := hc.cell z2 (by simp)
          replace z3 := hc.cell z3 (by simp)
          replace z4 := hc.cell z4 (by simp)
          replace z5 := hc.cell z5 (by simp)
          clear hc
          go_wp2
          go_ret
          exact ⟨congrArg (fun z => Ending.returned (.int .i64 z)) HE.out.symm, CTWd.out⟩
         | true =>
          rw [b2] at hB hsecB
          rw [hsecB, Bool.true_and] at hgn
          have Hgn := hY hgn
          have HsecB := hY hsecB
          have A1 := hY a1
          have A2 := hY a2
          have A3 := hY a3
          have Hxb := hY hxb
          have HSB := hY hsb
          have HA := hY hA
          have HB := hY hB
          have B1 := hY b1
          have B2 := hY b2
          clear hgn hsecB a1 a2 a3 hxb hsb hA hB b1 b2
          go_wp2_with ((with_reducible refine Lay.ldQ Tryz.tSec x (HX.out) ?_ ?_); exact rfl)
          refine hY ?_
          go_wp2_with (with_reducible refine Lay.alQ Tryz.tSec ?_)
          refine hY fun Wa bx ebx cbx xbx => ?_
          go_wp2_with ((with_reducible refine Lay.stQ Tryz.tSec x (xbx.out) ?_ ?_ ?_); exact rfl; exact rfl)
          refine hY fun Wb cWb xWb => ?_
          clear y6
          have K4 : Hid (Chg [] wr Wb) := hY (cbx.out.new cWb.out (by rw [ebx.out]; exact Nat.le_refl _))
          have S4 := hY (SB.out.frame (CJ.out.then K4.out))
          have CT := hY (CB.out.then (CJ.out.then K4.out))
          have y1 := Seg.c_addr S4.out
          have y2 := Seg.c_size S4.out
          have y3 := Seg.c_off S4.out
          have y4 := Seg.c_fsize S4.out
          have z2 := Sec.c_addr xWb.out
          have z3 := Sec.c_size xWb.out
          have z4 := Sec.c_off xWb.out
          have z5 := Sec.c_kind xWb.out
          go_wp2_with fail
          refine (HA.out _).mono ?_
          rintro e Wc ⟨rfl, hc⟩
          have CTWc := hY (CT.out.then hc)
          have KWc := hY (K4.out.then hc)
          replace y1 := hc.cell y1 (by simp)
          replace y2 := hc.cell y2 (by simp)
          replace y3 := hc.cell y3 (by simp)
          replace y4 := hc.cell y4 (by simp)
          replace z2 := hc.cell z2 (by simp)
          replace z3 := hc.cell z3 (by simp)
          replace z4 := hc.cell z4 (by simp)
          replace z5 := hc.cell z5 (by simp)
          clear hc
          go_wp2_with fail
          refine (HB.out _).mono ?_
          rintro e Wd ⟨rfl, hc⟩
          have CTWd := hY (CTWc.out.then hc)
          have KWd := hY (KWc.out.then hc)
          replace y1 := hc.cell y1 (by simp)
          replace y2 := hc.cell y2 (by simp)
          replace y3 := hc.cell y3 (by simp)
          replace y4 := hc.cell y4 (by simp)
          replace z2 := hc.cell z2 (by simp)
          replace z3 := hc.cell z3 (by simp)
          replace z4 := hc.cell z4 (by simp)
          replace z5 := hc.cell z5 (by simp)
          clear hc
          have hw1 : wrap64 ((j : Int) + 1) = (j : Int) + 1 := by have := Hlk.out; unfold wrap64; omega
          go_wp2
          clear y1 y2 y3 y4 z2 z3 z4 z5
          go_roundw
          case rel => exact ⟨j + 1, hjl, by first | rfl | exact congrArg (Value.int .i64) hw1, (CJ.out.then KWd.out), Hgn.out⟩
          case measure => exact meas_w hw1 hjl
        ·have f3 : (x.off != IntKind.u64.wrap (IntKind.u64.wrap (s.off + x.addr) - s.addr)) = true := by rw [wrap_three, bne_iff_ne]; exact a3
         rw [decide_eq_false a3, Bool.false_and] at hsecB
         rw [hsecB, Bool.false_and] at hgn
         have HE : Hid (E = 9) := hY (bad9 HEE.out Hgo.out Hsp.out hgn)
         have Hgn := hY hgn
         have HsecB := hY hsecB
         have A1 := hY a1
         have A2 := hY a2
         have A3 := hY a3
         have Hxb := hY hxb
         have HSB := hY hsb
         have HA := hY hA
         have HB := hY hB
         have B1 := hY b1
         clear hgn hsecB a1 a2 a3 hxb hsb hA hB b1
         go_wp2_with ((with_reducible refine Lay.ldQ Tryz.tSec x (HX.out) ?_ ?_); exact rfl)
         refine hY ?_
         go_wp2_with (with_reducible refine Lay.alQ Tryz.tSec ?_)
         refine hY fun Wa bx ebx cbx xbx => ?_
         go_wp2_with ((with_reducible refine Lay.stQ Tryz.tSec x (xbx.out) ?_ ?_ ?_); exact rfl; exact rfl)
         refine hY fun Wb cWb xWb => ?_
         clear y6
         have K4 : Hid (Chg [] wr Wb) := hY (cbx.out.new cWb.out (by rw [ebx.out]; exact Nat.le_refl _))
         have S4 := hY (SB.out.frame (CJ.out.then K4.out))
         have CT := hY (CB.out.then (CJ.out.then K4.out))
         have y1 := Seg.c_addr S4.out
         have y2 := Seg.c_size S4.out
         have y3 := Seg.c_off S4.out
         have y4 := Seg.c_fsize S4.out
         have z2 := Sec.c_addr xWb.out
         have z3 := Sec.c_size xWb.out
         have z4 := Sec.c_off xWb.out
         have z5 := Sec.c_kind xWb.out
         go_wp2_with fail
         refine (HA.out _).mono ?_
         rintro e Wc ⟨rfl, hc⟩
         have CTWc := hY (CT.out.then hc)
         have KWc := hY (K4.out.then hc)
         replace y1 := hc.cell y1 (by simp)
         replace y2 := hc.cell y2 (by simp)
         replace y3 := hc.cell y3 (by simp)
         replace y4 := hc.cell y4 (by simp)
         replace z2 := hc.cell z2 (by simp)
         replace z3 := hc.cell z3 (by simp)
         replace z4 := hc.cell z4 (by simp)
         replace z5 := hc.cell z5 (by simp)
         clear hc
         go_wp2
         go_ret
         exact ⟨congrArg (fun z => Ending.returned (.int .i64 z)) HE.out.symm, CTWc.out⟩
    ·obtain rfl : j = p.ks.length := by omega
     have dlj : decide ((p.ks.length : Int) < (p.ks.length : Int)) = false := decide_eq_false (by omega)
     have hgn' : segSecB p = true := by rw [Hsp.out, ← hgn, List.drop_eq_nil_of_le (Nat.le_refl _)]; rfl
     have hgo' := Hgo.out
     rw [hgn', Bool.true_and] at hgo'
     have Hgn := hY hgn
     have Hgn' := hY hgn'
     have HGO2 := hY hgo'
     clear hgn hgn' hgo'
     have hw1 : wrap64 ((k : Int) + 1) = (k : Int) + 1 := by have := Hlen.out; unfold wrap64; omega
     go_wp2
     go_roundw
     case rel => exact ⟨k + 1, hlt, by first | rfl | exact congrArg (Value.int .i64) hw1, CB.out.then CJ.out, HGO2.out, C1.out.then (K1.out.then CJ.out)⟩
     case measure => exact meas_w hw1 hlt
  ·obtain rfl : k = xs.length := by omega
   have dlt : decide ((xs.length : Int) < (xs.length : Int)) = false := decide_eq_false (by omega)
   have HE : Hid (E = 0) := by
    refine hY ?_
    rw [HEE.out, ← hgo, Hxl.out, List.drop_eq_nil_of_le (Nat.le_refl _)]
    rfl
   have CK := hY (hck)
   clear hgo hck
   go_wp2
   go_ret
   exact ⟨congrArg (fun z => Ending.returned (.int .i64 z)) HE.out.symm, CK.out⟩
set_option maxHeartbeats 4000000 in
theorem rhigh_any (m : Img) (ls : List Seg) (w : World) (rd : segL.Rd w m.segs.v ls) :
  Calls Tryz.prog 40 #[imgL.val m] w fun e w' => e = .returned (.int .u64 (highS ls)) ∧ Chg [] w w' := by
 have HH := hY (refHole_any)
 obtain ⟨a, cap, hv, hc1, hc2⟩ := rd.shape
 have rd' := rd
 rw [hv] at rd'
 have hlen : ls.length ≤ 9223372036854775807 := Nat.le_trans hc1 hc2
 have Rd := hY rd
 have RD2 := hY rd'
 have Hc2 := hY hc2
 have Hlen := hY hlen
 clear rd rd' hc2 hlen
 clear hc1
 unfold SlV.v at hv
 go_enter Tryz.func40, Tryz.ntmps40
 go_wp2_with ((with_reducible refine Lay.bxQ (L := imgL) 32 m ?_ ?_); exact rfl)
 refine hY fun W1 bm ebm cbm xbm => ?_
 go_wp2_with fail
 go_loopw [3, 4] (fun s3 s4 wr => ∃ (k : Nat) (h : Int), k ≤ ls.length ∧ s4 = .int .i64 (k : Int) ∧ s3 = .int .u64 h ∧ Chg [] w wr ∧ (ls.drop k).foldl highF h = highS ls ∧ Chg [] W1 wr) (fun _ s4 _ => ls.length - (intOf s4).toNat)
 case atStart => exact ⟨0, 0, Nat.zero_le _, rfl, rfl, cbm.out, rfl, Chg.refl _ _⟩
 case round =>
  obtain ⟨k, h, hk, rfl, rfl, hck, hgo, hc1r⟩ := hrel
  have C1 := hY (hc1r)
  clear hc1r
  have x4 := Img.c_segs (xbm.out.frame C1.out)
  rw [hv] at x4
  have CK := hY (hck)
  clear hck
  by_cases hlt : k < ls.length
  ·have dlt : decide ((k : Int) < (ls.length : Int)) = true := decide_eq_true (by omega)
   obtain ⟨g, o, hao, _, hin⟩ := RD2.out.at (by omega)
   have hi := (hin k hlt).frame CK.out
   obtain ⟨s, hs⟩ : ∃ s, s = ls.getD k Seg.zero := ⟨_, rfl⟩
   rw [show ls.getD k segL.d = s from hs.symm] at hi
   rw [drop_getD ls k Seg.zero hlt] at hgo
   rw [← hs] at hgo
   rw [List.foldl_cons] at hgo
   rw [show segL.n = 7 from rfl] at hi
   subst hao
   obtain ⟨q, hq⟩ : ∃ q, q = holeS s := ⟨_, rfl⟩
   have hHs := fun w => HH.out s w
   rw [← hq] at hHs
   have hfs : highF h s = if q = true then h else max h (IntKind.u64.wrap (s.addr + s.size)) := by unfold highF; rw [← hq]
   rw [hfs] at hgo
   have Hi := hY hi
   have Hin := hY hin
   have Hs := hY hs
   have Hq := hY hq
   have HHs := hY hHs
   have Hfs := hY hfs
   clear hi hin hs hq hHs hfs
   go_wp2_with ((with_reducible refine Lay.ldQ Tryz.tSeg s (Hi.out) ?_ ?_); exact rfl)
   refine hY ?_
   go_wp2_with (with_reducible refine Lay.alQ Tryz.tSeg ?_)
   refine hY fun Wa bx ebx cbx xbx => ?_
   go_wp2_with ((with_reducible refine Lay.stQ Tryz.tSeg s (xbx.out) ?_ ?_ ?_); exact rfl; exact rfl)
   refine hY fun Wb cWb xWb => ?_
   clear x4
   go_wp2_with ((with_reducible refine Lay.ldQ Tryz.tSeg s (xWb.out.in) ?_ ?_); exact rfl)
   refine hY ?_
   go_wp2_with fail
   refine (HHs.out Wb).mono ?_
   rintro e Wc ⟨rfl, hch⟩
   have K4 : Hid (Chg [] wr Wc) := hY ((cbx.out.new cWb.out (by rw [ebx.out]; exact Nat.le_refl _)).then hch)
   have X4 := hY (xWb.out.frame hch)
   clear hch
   have hw1 : wrap64 ((k : Int) + 1) = (k : Int) + 1 := by have := Hlen.out; unfold wrap64; omega
   cases q with
   | true =>
    rw [if_pos rfl] at hgo
    have Hgo := hY hgo
    clear hgo
    go_wp2
    go_roundw
    case rel => exact ⟨k + 1, _, hlt, by first | rfl | exact congrArg (Value.int .i64) hw1, rfl, CK.out.then K4.out, Hgo.out, C1.out.then K4.out⟩
    case measure => first | exact meas_w hw1 hlt | exact meas_v hlt
   | false =>
    rw [if_neg (by decide)] at hgo
    have y1 := Seg.c_addr X4.out
    have y2 := Seg.c_size X4.out
    by_cases hm : h < IntKind.u64.wrap (s.addr + s.size)
    ·have dm : decide (h < IntKind.u64.wrap (s.addr + s.size)) = true := decide_eq_true hm
     rw [show max h (IntKind.u64.wrap (s.addr + s.size)) = IntKind.u64.wrap (s.addr + s.size) by omega] at hgo
     have Hgo := hY hgo
     have Hm := hY hm
     clear hgo hm
     go_wp2
     clear y1 y2
     go_roundw
     case rel => exact ⟨k + 1, _, hlt, by first | rfl | exact congrArg (Value.int .i64) hw1, rfl, CK.out.then K4.out, Hgo.out, C1.out.then K4.out⟩
     case measure => first | exact meas_w hw1 hlt | exact meas_v hlt
    ·have dm : decide (h < IntKind.u64.wrap (s.addr + s.size)) = false := decide_eq_false hm
     rw [show max h (IntKind.u64.wrap (s.addr + s.size)) = h by omega] at hgo
     have Hgo := hY hgo
     have Hm := hY hm
     clear hgo hm
     go_wp2
     clear y1 y2
     go_roundw
     case rel => exact ⟨k + 1, _, hlt, by first | rfl | exact congrArg (Value.int .i64) hw1, rfl, CK.out.then K4.out, Hgo.out, C1.out.then K4.out⟩
     case measure => first | exact meas_w hw1 hlt | exact meas_v hlt
  ·obtain rfl : k = ls.length := by omega
   have dlt : decide ((ls.length : Int) < (ls.length : Int)) = false := decide_eq_false (by omega)
   rw [List.drop_eq_nil_of_le (Nat.le_refl _)] at hgo
   have HE : Hid (h = highS ls) := hY (hgo)
   clear hgo
   go_wp2
   go_ret
   exact ⟨congrArg (fun z => Ending.returned (.int .u64 z)) HE.out, CK.out⟩
end Go.Proofs.YtiljokmkiolpgaaGreatDoor
