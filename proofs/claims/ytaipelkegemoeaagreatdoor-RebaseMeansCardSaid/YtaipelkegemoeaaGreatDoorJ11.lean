/- Lemmas, laid together: part 11 of 46. Conditions: none but each lemma's own. -/
import Derived.Test.YtaipelkegemoeaaGreatDoorJ10
/- The document's sections (of layer 6). -/
namespace Go.Proofs.YtaipelkegemoeaaGreatDoor
open Go.RowKit
set_option maxRecDepth 100000

theorem wrap_three (a b c : Int) : IntKind.u64.wrap (IntKind.u64.wrap (a + b) - c) = IntKind.u64.wrap (a + (b - c)) := by
  rw [IntKind.wrap_u64, IntKind.wrap_u64, IntKind.wrap_u64]
  omega
set_option maxHeartbeats 8000000 in
theorem rsections_any (m : Img) (xs : List Seg) (ps : List SegP) (hb : ImB ps) (w : World) (rd : segL.Rd w m.segs.v xs) (hxl : xs.length = ps.length) (hsr : ∀ i, i < xs.length → SegRd w (xs.getD i .zero) (ps.getD i .zero)) :
    Calls Tryz.prog 32 #[imgL.val m] w fun e w' => e = .returned (.int .i64 (secsE ps)) ∧ Chg [] w w' := by
  obtain ⟨a, cap, hv, hc1, hc2⟩ := rd.shape
  have rd' := rd
  rw [hv] at rd'
  have hlen : xs.length ≤ 9223372036854775807 := Nat.le_trans hc1 hc2
  obtain ⟨E, hEE⟩ : ∃ E, E = secsE ps := ⟨_, rfl⟩
  rw [← hEE]
  unfold secsE at hEE
  have Rd := Lib.hid rd
  have RD2 := Lib.hid rd'
  have Hc2 := Lib.hid hc2
  have Hlen := Lib.hid hlen
  have HEE := Lib.hid hEE
  have Hxl := Lib.hid hxl
  have Hsr := Lib.hid hsr
  have Hb := Lib.hid hb
  clear rd rd' hc2 hlen hEE hxl hsr hb
  clear hc1
  unfold SlV.v at hv
  go_enter Tryz.func32, Tryz.ntmps32
  go_wp2_with ((with_reducible refine Lay.bxL (L := imgL) 32 m ?_ ?_); exact rfl; intro W1 bm ebm cbm xbm; replace ebm := Lib.hid ebm; replace cbm := Lib.hid cbm; replace xbm := Lib.hid xbm; refine Hid.out ?_)
  refine Lib.hid ?_
  go_wp2_with fail
  go_loopw [3] (fun s3 wr => ∃ k : Nat, k ≤ xs.length ∧ s3 = .int .i64 (k : Int) ∧ Chg [] w wr ∧ (ps.drop k).all segSecB = ps.all segSecB ∧ Chg [] W1 wr) (fun s3 _ => xs.length - (intOf s3).toNat)
  case atStart => exact ⟨0, Nat.zero_le _, rfl, cbm.out, rfl, Chg.refl _ _⟩
  case round =>
    obtain ⟨k, hk, rfl, hck, hgo, hc1r⟩ := hrel
    have C1 := Lib.hid (hc1r)
    clear hc1r
    have x4 := Img.c_segs (xbm.out.frame C1.out)
    rw [hv] at x4
    by_cases hlt : k < xs.length
    · have dlt : decide ((k : Int) < (xs.length : Int)) = true := decide_eq_true (by omega)
      obtain ⟨g, o, hao, _, hin⟩ := RD2.out.at (by omega)
      have hi := (hin k hlt).frame hck
      have hsrk := (Hsr.out k hlt).frame hck
      have hkp : k < ps.length := by rw [← Hxl.out]; exact hlt
      have hbk := Hb.out.seg k hkp
      have hbj := Hb.out.sec k hkp
      obtain ⟨s, hs⟩ : ∃ s, s = xs.getD k Seg.zero := ⟨_, rfl⟩
      obtain ⟨p, hp⟩ : ∃ p, p = ps.getD k SegP.zero := ⟨_, rfl⟩
      rw [show xs.getD k segL.d = s from hs.symm] at hi
      rw [drop_getD ps k SegP.zero hkp] at hgo
      rw [← hp] at hgo hbk hbj
      rw [← hs, ← hp] at hsrk
      rw [List.all_cons] at hgo
      rw [show segL.n = 7 from rfl] at hi
      subst hao
      obtain ⟨hbar, hrk⟩ := hsrk
      obtain ⟨_, e1, e2, e3, e4, _⟩ := seg_bare hbar
      obtain ⟨ak, ck, hvk, hck1, hck2⟩ := hrk.shape
      rw [hvk] at hrk
      have hlk : p.ks.length ≤ 9223372036854775807 := Nat.le_trans hck1 hck2
      have CK := Lib.hid (hck)
      have Hi := Lib.hid hi
      have Hin := Lib.hid hin
      have Hs := Lib.hid hs
      have Hp := Lib.hid hp
      have Hbk := Lib.hid hbk
      have Hbj := Lib.hid hbj
      have RK := Lib.hid hrk
      have Hgo := Lib.hid hgo
      have Hbar := Lib.hid hbar
      have Hck1 := Lib.hid hck1
      have Hck2 := Lib.hid hck2
      have Hlk := Lib.hid hlk
      clear hi hin hs hp hbk hbj hrk hgo hbar hck1 hck2 hlk
      clear hck
      go_wp2_with ((with_reducible refine Lay.ldL Tryz.tSeg s (Hi.out) ?_ ?_); exact rfl; refine Hid.out ?_)
      refine Lib.hid ?_
      go_wp2_with ((with_reducible refine Lay.alL Tryz.tSeg ?_); intro Wa bx ebx cbx xbx; replace ebx := Lib.hid ebx; replace cbx := Lib.hid cbx; replace xbx := Lib.hid xbx; refine Hid.out ?_)
      refine Lib.hid ?_
      go_wp2_with ((with_reducible refine Lay.stL Tryz.tSeg s (xbx.out) ?_ ?_ ?_); exact rfl; exact rfl; intro Wb cWb xWb; replace cWb := Lib.hid cWb; replace xWb := Lib.hid xWb; refine Hid.out ?_)
      refine Lib.hid ?_
      have K1 : Hid (Chg [] wr Wb) := Lib.hid (cbx.out.new cWb.out (by rw [ebx.out]; exact Nat.le_refl _))
      have SB := Lib.hid (xWb.out)
      clear x4
      have hsp : segSecB p = p.ks.all (secB s) := by unfold segSecB; rw [← Hbar.out]; rfl
      have hsb : SegB s := by have := Hbk.out; unfold SegB at *; omega
      have E1 := Lib.hid e1
      have E2 := Lib.hid e2
      have E3 := Lib.hid e3
      have E4 := Lib.hid e4
      have Hsp := Lib.hid hsp
      have Hsb := Lib.hid hsb
      clear e1 e2 e3 e4 hsp hsb
      obtain ⟨wo, rfl⟩ : ∃ wo, wo = wr := ⟨_, rfl⟩
      have CB := Lib.hid (CK.out.then K1.out)
      go_wp2_with fail
      go_loopw [5] (fun s5 wr => ∃ j : Nat, j ≤ p.ks.length ∧ s5 = .int .i64 (j : Int) ∧ Chg [] Wb wr ∧ (p.ks.drop j).all (secB s) = p.ks.all (secB s)) (fun s5 _ => p.ks.length - (intOf s5).toNat)
      case atStart => exact ⟨0, Nat.zero_le _, rfl, Chg.refl _ _, rfl⟩
      case round =>
        obtain ⟨j, hj, rfl, hcj, hgn⟩ := hrel
        have CJ := Lib.hid (hcj)
        clear hcj
        have y6 := Seg.c_secs (SB.out.frame CJ.out)
        rw [hvk] at y6
        by_cases hjl : j < p.ks.length
        · have dlj : decide ((j : Int) < (p.ks.length : Int)) = true := decide_eq_true (by omega)
          obtain ⟨g2, o2, ha2, _, hin2⟩ := RK.out.at (by omega)
          have hx := (hin2 j hjl).frame (K1.out.then CJ.out)
          rw [drop_getD p.ks j Sec.zero hjl] at hgn
          have hxb := Hbj.out j hjl
          obtain ⟨x, hx0⟩ : ∃ x, x = p.ks.getD j Sec.zero := ⟨_, rfl⟩
          rw [show p.ks.getD j secL.d = x from hx0.symm] at hx
          rw [← hx0] at hgn hxb
          rw [List.all_cons] at hgn
          rw [show secL.n = 6 from rfl] at hx
          subst ha2
          have HX := Lib.hid hx
          have Hin2 := Lib.hid hin2
          have Hx0 := Lib.hid hx0
          clear hx hin2 hx0
          unfold SecB at hxb
          have hsb := Hsb.out
          unfold SegB at hsb
          by_cases a1 : x.addr < s.addr
          · have f1 : decide (x.addr < s.addr) = true := decide_eq_true a1
            have hb1 : secB s x = false := by unfold secB; rw [decide_eq_false (by omega)]; rfl
            rw [hb1, Bool.false_and] at hgn
            have HE : Hid (E = 9) := Lib.hid (bad9 HEE.out Hgo.out Hsp.out hgn)
            have Hgn := Lib.hid hgn
            have Hb1 := Lib.hid hb1
            have A1 := Lib.hid a1
            have Hxb := Lib.hid hxb
            have HSB := Lib.hid hsb
            clear hgn hb1 a1 hxb hsb
            go_wp2_with ((with_reducible refine Lay.ldL Tryz.tSec x (HX.out) ?_ ?_); exact rfl; refine Hid.out ?_)
            refine Lib.hid ?_
            go_wp2_with ((with_reducible refine Lay.alL Tryz.tSec ?_); intro Wa bx ebx cbx xbx; replace ebx := Lib.hid ebx; replace cbx := Lib.hid cbx; replace xbx := Lib.hid xbx; refine Hid.out ?_)
            refine Lib.hid ?_
            go_wp2_with ((with_reducible refine Lay.stL Tryz.tSec x (xbx.out) ?_ ?_ ?_); exact rfl; exact rfl; intro Wb cWb xWb; replace cWb := Lib.hid cWb; replace xWb := Lib.hid xWb; refine Hid.out ?_)
            refine Lib.hid ?_
            clear y6
            have K4 : Hid (Chg [] wr Wb) := Lib.hid (cbx.out.new cWb.out (by rw [ebx.out]; exact Nat.le_refl _))
            have S4 := Lib.hid (SB.out.frame (CJ.out.then K4.out))
            have CT := Lib.hid (CB.out.then (CJ.out.then K4.out))
            have y1 := Seg.c_addr S4.out
            have y2 := Seg.c_size S4.out
            have y3 := Seg.c_off S4.out
            have y4 := Seg.c_fsize S4.out
            have z2 := Sec.c_addr xWb.out
            have z3 := Sec.c_size xWb.out
            have z4 := Sec.c_off xWb.out
            have z5 := Sec.c_kind xWb.out
            go_wp2
            go_ret
            exact ⟨congrArg (fun z => Ending.returned (.int .i64 z)) HE.out.symm, CT.out⟩
          · have f1 : decide (x.addr < s.addr) = false := decide_eq_false a1
            have hw : IntKind.u64.wrap (x.addr - s.addr) = x.addr - s.addr := by rw [IntKind.wrap_u64]; omega
            have hA := fun w => rwithinI_any (x.addr - s.addr) x.size s.size (by omega) hxb.2.1.1 hsb.2.1.2 w
            have hB := fun w => rwithinI_any (x.addr - s.addr) x.size s.fsize (by omega) hxb.2.1.1 hsb.2.2.2.2 w
            have hsecB : secB s x = (withinI (x.addr - s.addr) x.size s.size && (decide (x.kind = 1) || (decide (x.off = IntKind.u64.wrap (s.off + (x.addr - s.addr))) && withinI (x.addr - s.addr) x.size s.fsize))) := by
              unfold secB; rw [decide_eq_true (show s.addr ≤ x.addr by omega), Bool.true_and]
            cases b1 : withinI (x.addr - s.addr) x.size s.size with
            | false =>
              rw [b1] at hA hsecB
              rw [Bool.false_and] at hsecB
              rw [hsecB, Bool.false_and] at hgn
              have HE : Hid (E = 9) := Lib.hid (bad9 HEE.out Hgo.out Hsp.out hgn)
              have Hgn := Lib.hid hgn
              have HsecB := Lib.hid hsecB
              have A1 := Lib.hid a1
              have Hxb := Lib.hid hxb
              have HSB := Lib.hid hsb
              have HA := Lib.hid hA
              have HB := Lib.hid hB
              have B1 := Lib.hid b1
              clear hgn hsecB a1 hxb hsb hA hB b1
              go_wp2_with ((with_reducible refine Lay.ldL Tryz.tSec x (HX.out) ?_ ?_); exact rfl; refine Hid.out ?_)
              refine Lib.hid ?_
              go_wp2_with ((with_reducible refine Lay.alL Tryz.tSec ?_); intro Wa bx ebx cbx xbx; replace ebx := Lib.hid ebx; replace cbx := Lib.hid cbx; replace xbx := Lib.hid xbx; refine Hid.out ?_)
              refine Lib.hid ?_
              go_wp2_with ((with_reducible refine Lay.stL Tryz.tSec x (xbx.out) ?_ ?_ ?_); exact rfl; exact rfl; intro Wb cWb xWb; replace cWb := Lib.hid cWb; replace xWb := Lib.hid xWb; refine Hid.out ?_)
              refine Lib.hid ?_
              clear y6
              have K4 : Hid (Chg [] wr Wb) := Lib.hid (cbx.out.new cWb.out (by rw [ebx.out]; exact Nat.le_refl _))
              have S4 := Lib.hid (SB.out.frame (CJ.out.then K4.out))
              have CT := Lib.hid (CB.out.then (CJ.out.then K4.out))
              have y1 := Seg.c_addr S4.out
              have y2 := Seg.c_size S4.out
              have y3 := Seg.c_off S4.out
              have y4 := Seg.c_fsize S4.out
              have z2 := Sec.c_addr xWb.out
              have z3 := Sec.c_size xWb.out
              have z4 := Sec.c_off xWb.out
              have z5 := Sec.c_kind xWb.out
              go_wp2_with fail
              refine (HA.out _).mono ?_
              rintro e Wc ⟨rfl, hc⟩
              have CTWc := Lib.hid (CT.out.then hc)
              have KWc := Lib.hid (K4.out.then hc)
              replace y1 := hc.cell y1 (by simp)
              replace y2 := hc.cell y2 (by simp)
              replace y3 := hc.cell y3 (by simp)
              replace y4 := hc.cell y4 (by simp)
              replace z2 := hc.cell z2 (by simp)
              replace z3 := hc.cell z3 (by simp)
              replace z4 := hc.cell z4 (by simp)
              replace z5 := hc.cell z5 (by simp)
              clear hc
              go_wp2
              go_ret
              exact ⟨congrArg (fun z => Ending.returned (.int .i64 z)) HE.out.symm, CTWc.out⟩
            | true =>
              rw [b1] at hA hsecB
              rw [Bool.true_and] at hsecB
              by_cases a2 : x.kind = 1
              · have f2 : (x.kind != 1) = false := by rw [a2]; rfl
                rw [decide_eq_true a2, Bool.true_or] at hsecB
                rw [hsecB, Bool.true_and] at hgn
                have Hgn := Lib.hid hgn
                have HsecB := Lib.hid hsecB
                have A1 := Lib.hid a1
                have A2 := Lib.hid a2
                have Hxb := Lib.hid hxb
                have HSB := Lib.hid hsb
                have HA := Lib.hid hA
                have HB := Lib.hid hB
                have B1 := Lib.hid b1
                clear hgn hsecB a1 a2 hxb hsb hA hB b1
                go_wp2_with ((with_reducible refine Lay.ldL Tryz.tSec x (HX.out) ?_ ?_); exact rfl; refine Hid.out ?_)
                refine Lib.hid ?_
                go_wp2_with ((with_reducible refine Lay.alL Tryz.tSec ?_); intro Wa bx ebx cbx xbx; replace ebx := Lib.hid ebx; replace cbx := Lib.hid cbx; replace xbx := Lib.hid xbx; refine Hid.out ?_)
                refine Lib.hid ?_
                go_wp2_with ((with_reducible refine Lay.stL Tryz.tSec x (xbx.out) ?_ ?_ ?_); exact rfl; exact rfl; intro Wb cWb xWb; replace cWb := Lib.hid cWb; replace xWb := Lib.hid xWb; refine Hid.out ?_)
                refine Lib.hid ?_
                clear y6
                have K4 : Hid (Chg [] wr Wb) := Lib.hid (cbx.out.new cWb.out (by rw [ebx.out]; exact Nat.le_refl _))
                have S4 := Lib.hid (SB.out.frame (CJ.out.then K4.out))
                have CT := Lib.hid (CB.out.then (CJ.out.then K4.out))
                have y1 := Seg.c_addr S4.out
                have y2 := Seg.c_size S4.out
                have y3 := Seg.c_off S4.out
                have y4 := Seg.c_fsize S4.out
                have z2 := Sec.c_addr xWb.out
                have z3 := Sec.c_size xWb.out
                have z4 := Sec.c_off xWb.out
                have z5 := Sec.c_kind xWb.out
                go_wp2_with fail
                refine (HA.out _).mono ?_
                rintro e Wc ⟨rfl, hc⟩
                have CTWc := Lib.hid (CT.out.then hc)
                have KWc := Lib.hid (K4.out.then hc)
                replace y1 := hc.cell y1 (by simp)
                replace y2 := hc.cell y2 (by simp)
                replace y3 := hc.cell y3 (by simp)
                replace y4 := hc.cell y4 (by simp)
                replace z2 := hc.cell z2 (by simp)
                replace z3 := hc.cell z3 (by simp)
                replace z4 := hc.cell z4 (by simp)
                replace z5 := hc.cell z5 (by simp)
                clear hc
                have hw1 : wrap64 ((j : Int) + 1) = (j : Int) + 1 := by have := Hlk.out; unfold wrap64; omega
                go_wp2
                clear y1 y2 y3 y4 z2 z3 z4 z5
                go_roundw
                case rel => exact ⟨j + 1, hjl, by first | rfl | exact congrArg (Value.int .i64) hw1, (CJ.out.then KWc.out), Hgn.out⟩
                case measure => exact meas_w hw1 hjl
              · have f2 : (x.kind != 1) = true := by rw [bne_iff_ne]; exact a2
                rw [decide_eq_false a2, Bool.false_or] at hsecB
                by_cases a3 : x.off = IntKind.u64.wrap (s.off + (x.addr - s.addr))
                · have f3 : (x.off != IntKind.u64.wrap (IntKind.u64.wrap (s.off + x.addr) - s.addr)) = false := by rw [wrap_three, ← a3]; simp
                  rw [decide_eq_true a3, Bool.true_and] at hsecB
                  cases b2 : withinI (x.addr - s.addr) x.size s.fsize with
                  | false =>
                    rw [b2] at hB hsecB
                    rw [hsecB, Bool.false_and] at hgn
                    have HE : Hid (E = 9) := Lib.hid (bad9 HEE.out Hgo.out Hsp.out hgn)
                    have Hgn := Lib.hid hgn
                    have HsecB := Lib.hid hsecB
                    have A1 := Lib.hid a1
                    have A2 := Lib.hid a2
                    have A3 := Lib.hid a3
                    have Hxb := Lib.hid hxb
                    have HSB := Lib.hid hsb
                    have HA := Lib.hid hA
                    have HB := Lib.hid hB
                    have B1 := Lib.hid b1
                    have B2 := Lib.hid b2
                    clear hgn hsecB a1 a2 a3 hxb hsb hA hB b1 b2
                    go_wp2_with ((with_reducible refine Lay.ldL Tryz.tSec x (HX.out) ?_ ?_); exact rfl; refine Hid.out ?_)
                    refine Lib.hid ?_
                    go_wp2_with ((with_reducible refine Lay.alL Tryz.tSec ?_); intro Wa bx ebx cbx xbx; replace ebx := Lib.hid ebx; replace cbx := Lib.hid cbx; replace xbx := Lib.hid xbx; refine Hid.out ?_)
                    refine Lib.hid ?_
                    go_wp2_with ((with_reducible refine Lay.stL Tryz.tSec x (xbx.out) ?_ ?_ ?_); exact rfl; exact rfl; intro Wb cWb xWb; replace cWb := Lib.hid cWb; replace xWb := Lib.hid xWb; refine Hid.out ?_)
                    refine Lib.hid ?_
                    clear y6
                    have K4 : Hid (Chg [] wr Wb) := Lib.hid (cbx.out.new cWb.out (by rw [ebx.out]; exact Nat.le_refl _))
                    have S4 := Lib.hid (SB.out.frame (CJ.out.then K4.out))
                    have CT := Lib.hid (CB.out.then (CJ.out.then K4.out))
                    have y1 := Seg.c_addr S4.out
                    have y2 := Seg.c_size S4.out
                    have y3 := Seg.c_off S4.out
                    have y4 := Seg.c_fsize S4.out
                    have z2 := Sec.c_addr xWb.out
                    have z3 := Sec.c_size xWb.out
                    have z4 := Sec.c_off xWb.out
                    have z5 := Sec.c_kind xWb.out
                    go_wp2_with fail
                    refine (HA.out _).mono ?_
                    rintro e Wc ⟨rfl, hc⟩
                    have CTWc := Lib.hid (CT.out.then hc)
                    have KWc := Lib.hid (K4.out.then hc)
                    replace y1 := hc.cell y1 (by simp)
                    replace y2 := hc.cell y2 (by simp)
                    replace y3 := hc.cell y3 (by simp)
                    replace y4 := hc.cell y4 (by simp)
                    replace z2 := hc.cell z2 (by simp)
                    replace z3 := hc.cell z3 (by simp)
                    replace z4 := hc.cell z4 (by simp)
                    replace z5 := hc.cell z5 (by simp)
                    clear hc
                    go_wp2_with fail
                    refine (HB.out _).mono ?_
                    rintro e Wd ⟨rfl, hc⟩
                    have CTWd := Lib.hid (CTWc.out.then hc)
                    have KWd := Lib.hid (KWc.out.then hc)
                    replace y1 := hc.cell y1 (by simp)
                    replace y2 := hc.cell y2 (by simp)
                    replace y3 := hc.cell y3 (by simp)
                    replace y4 := hc.cell y4 (by simp)
                    replace z2 := hc.cell z2 (by simp)
                    replace z3 := hc.cell z3 (by simp)
                    replace z4 := hc.cell z4 (by simp)
                    replace z5 := hc.cell z5 (by simp)
                    clear hc
                    go_wp2
                    go_ret
                    exact ⟨congrArg (fun z => Ending.returned (.int .i64 z)) HE.out.symm, CTWd.out⟩
                  | true =>
                    rw [b2] at hB hsecB
                    rw [hsecB, Bool.true_and] at hgn
                    have Hgn := Lib.hid hgn
                    have HsecB := Lib.hid hsecB
                    have A1 := Lib.hid a1
                    have A2 := Lib.hid a2
                    have A3 := Lib.hid a3
                    have Hxb := Lib.hid hxb
                    have HSB := Lib.hid hsb
                    have HA := Lib.hid hA
                    have HB := Lib.hid hB
                    have B1 := Lib.hid b1
                    have B2 := Lib.hid b2
                    clear hgn hsecB a1 a2 a3 hxb hsb hA hB b1 b2
                    go_wp2_with ((with_reducible refine Lay.ldL Tryz.tSec x (HX.out) ?_ ?_); exact rfl; refine Hid.out ?_)
                    refine Lib.hid ?_
                    go_wp2_with ((with_reducible refine Lay.alL Tryz.tSec ?_); intro Wa bx ebx cbx xbx; replace ebx := Lib.hid ebx; replace cbx := Lib.hid cbx; replace xbx := Lib.hid xbx; refine Hid.out ?_)
                    refine Lib.hid ?_
                    go_wp2_with ((with_reducible refine Lay.stL Tryz.tSec x (xbx.out) ?_ ?_ ?_); exact rfl; exact rfl; intro Wb cWb xWb; replace cWb := Lib.hid cWb; replace xWb := Lib.hid xWb; refine Hid.out ?_)
                    refine Lib.hid ?_
                    clear y6
                    have K4 : Hid (Chg [] wr Wb) := Lib.hid (cbx.out.new cWb.out (by rw [ebx.out]; exact Nat.le_refl _))
                    have S4 := Lib.hid (SB.out.frame (CJ.out.then K4.out))
                    have CT := Lib.hid (CB.out.then (CJ.out.then K4.out))
                    have y1 := Seg.c_addr S4.out
                    have y2 := Seg.c_size S4.out
                    have y3 := Seg.c_off S4.out
                    have y4 := Seg.c_fsize S4.out
                    have z2 := Sec.c_addr xWb.out
                    have z3 := Sec.c_size xWb.out
                    have z4 := Sec.c_off xWb.out
                    have z5 := Sec.c_kind xWb.out
                    go_wp2_with fail
                    refine (HA.out _).mono ?_
                    rintro e Wc ⟨rfl, hc⟩
                    have CTWc := Lib.hid (CT.out.then hc)
                    have KWc := Lib.hid (K4.out.then hc)
                    replace y1 := hc.cell y1 (by simp)
                    replace y2 := hc.cell y2 (by simp)
                    replace y3 := hc.cell y3 (by simp)
                    replace y4 := hc.cell y4 (by simp)
                    replace z2 := hc.cell z2 (by simp)
                    replace z3 := hc.cell z3 (by simp)
                    replace z4 := hc.cell z4 (by simp)
                    replace z5 := hc.cell z5 (by simp)
                    clear hc
                    go_wp2_with fail
                    refine (HB.out _).mono ?_
                    rintro e Wd ⟨rfl, hc⟩
                    have CTWd := Lib.hid (CTWc.out.then hc)
                    have KWd := Lib.hid (KWc.out.then hc)
                    replace y1 := hc.cell y1 (by simp)
                    replace y2 := hc.cell y2 (by simp)
                    replace y3 := hc.cell y3 (by simp)
                    replace y4 := hc.cell y4 (by simp)
                    replace z2 := hc.cell z2 (by simp)
                    replace z3 := hc.cell z3 (by simp)
                    replace z4 := hc.cell z4 (by simp)
                    replace z5 := hc.cell z5 (by simp)
                    clear hc
                    have hw1 : wrap64 ((j : Int) + 1) = (j : Int) + 1 := by have := Hlk.out; unfold wrap64; omega
                    go_wp2
                    clear y1 y2 y3 y4 z2 z3 z4 z5
                    go_roundw
                    case rel => exact ⟨j + 1, hjl, by first | rfl | exact congrArg (Value.int .i64) hw1, (CJ.out.then KWd.out), Hgn.out⟩
                    case measure => exact meas_w hw1 hjl
                · have f3 : (x.off != IntKind.u64.wrap (IntKind.u64.wrap (s.off + x.addr) - s.addr)) = true := by rw [wrap_three, bne_iff_ne]; exact a3
                  rw [decide_eq_false a3, Bool.false_and] at hsecB
                  rw [hsecB, Bool.false_and] at hgn
                  have HE : Hid (E = 9) := Lib.hid (bad9 HEE.out Hgo.out Hsp.out hgn)
                  have Hgn := Lib.hid hgn
                  have HsecB := Lib.hid hsecB
                  have A1 := Lib.hid a1
                  have A2 := Lib.hid a2
                  have A3 := Lib.hid a3
                  have Hxb := Lib.hid hxb
                  have HSB := Lib.hid hsb
                  have HA := Lib.hid hA
                  have HB := Lib.hid hB
                  have B1 := Lib.hid b1
                  clear hgn hsecB a1 a2 a3 hxb hsb hA hB b1
                  go_wp2_with ((with_reducible refine Lay.ldL Tryz.tSec x (HX.out) ?_ ?_); exact rfl; refine Hid.out ?_)
                  refine Lib.hid ?_
                  go_wp2_with ((with_reducible refine Lay.alL Tryz.tSec ?_); intro Wa bx ebx cbx xbx; replace ebx := Lib.hid ebx; replace cbx := Lib.hid cbx; replace xbx := Lib.hid xbx; refine Hid.out ?_)
                  refine Lib.hid ?_
                  go_wp2_with ((with_reducible refine Lay.stL Tryz.tSec x (xbx.out) ?_ ?_ ?_); exact rfl; exact rfl; intro Wb cWb xWb; replace cWb := Lib.hid cWb; replace xWb := Lib.hid xWb; refine Hid.out ?_)
                  refine Lib.hid ?_
                  clear y6
                  have K4 : Hid (Chg [] wr Wb) := Lib.hid (cbx.out.new cWb.out (by rw [ebx.out]; exact Nat.le_refl _))
                  have S4 := Lib.hid (SB.out.frame (CJ.out.then K4.out))
                  have CT := Lib.hid (CB.out.then (CJ.out.then K4.out))
                  have y1 := Seg.c_addr S4.out
                  have y2 := Seg.c_size S4.out
                  have y3 := Seg.c_off S4.out
                  have y4 := Seg.c_fsize S4.out
                  have z2 := Sec.c_addr xWb.out
                  have z3 := Sec.c_size xWb.out
                  have z4 := Sec.c_off xWb.out
                  have z5 := Sec.c_kind xWb.out
                  go_wp2_with fail
                  refine (HA.out _).mono ?_
                  rintro e Wc ⟨rfl, hc⟩
                  have CTWc := Lib.hid (CT.out.then hc)
                  have KWc := Lib.hid (K4.out.then hc)
                  replace y1 := hc.cell y1 (by simp)
                  replace y2 := hc.cell y2 (by simp)
                  replace y3 := hc.cell y3 (by simp)
                  replace y4 := hc.cell y4 (by simp)
                  replace z2 := hc.cell z2 (by simp)
                  replace z3 := hc.cell z3 (by simp)
                  replace z4 := hc.cell z4 (by simp)
                  replace z5 := hc.cell z5 (by simp)
                  clear hc
                  go_wp2
                  go_ret
                  exact ⟨congrArg (fun z => Ending.returned (.int .i64 z)) HE.out.symm, CTWc.out⟩
        · obtain rfl : j = p.ks.length := by omega
          have dlj : decide ((p.ks.length : Int) < (p.ks.length : Int)) = false := decide_eq_false (by omega)
          have hgn' : segSecB p = true := by rw [Hsp.out, ← hgn, List.drop_eq_nil_of_le (Nat.le_refl _)]; rfl
          have hgo' := Hgo.out
          rw [hgn', Bool.true_and] at hgo'
          have Hgn := Lib.hid hgn
          have Hgn' := Lib.hid hgn'
          have HGO2 := Lib.hid hgo'
          clear hgn hgn' hgo'
          have hw1 : wrap64 ((k : Int) + 1) = (k : Int) + 1 := by have := Hlen.out; unfold wrap64; omega
          go_wp2
          go_roundw
          case rel => exact ⟨k + 1, hlt, by first | rfl | exact congrArg (Value.int .i64) hw1, CB.out.then CJ.out, HGO2.out, C1.out.then (K1.out.then CJ.out)⟩
          case measure => exact meas_w hw1 hlt
    · obtain rfl : k = xs.length := by omega
      have dlt : decide ((xs.length : Int) < (xs.length : Int)) = false := decide_eq_false (by omega)
      have HE : Hid (E = 0) := by
        refine Lib.hid ?_
        rw [HEE.out, ← hgo, Hxl.out, List.drop_eq_nil_of_le (Nat.le_refl _)]
        rfl
      have CK := Lib.hid (hck)
      clear hgo hck
      go_wp2
      go_ret
      exact ⟨congrArg (fun z => Ending.returned (.int .i64 z)) HE.out.symm, CK.out⟩
end Go.Proofs.YtaipelkegemoeaaGreatDoor
/- The document's High, and its May (of layer 6). -/
namespace Go.Proofs.YtaipelkegemoeaaGreatDoor
open Go.RowKit
set_option maxRecDepth 100000

set_option maxHeartbeats 4000000 in
theorem rhigh_any (m : Img) (ls : List Seg) (w : World) (rd : segL.Rd w m.segs.v ls) :
    Calls Tryz.prog 34 #[imgL.val m] w fun e w' => e = .returned (.int .u64 (highS ls)) ∧ Chg [] w w' := by
  have HH := Lib.hid (refHole_any)
  obtain ⟨a, cap, hv, hc1, hc2⟩ := rd.shape
  have rd' := rd
  rw [hv] at rd'
  have hlen : ls.length ≤ 9223372036854775807 := Nat.le_trans hc1 hc2
  have Rd := Lib.hid rd
  have RD2 := Lib.hid rd'
  have Hc2 := Lib.hid hc2
  have Hlen := Lib.hid hlen
  clear rd rd' hc2 hlen
  clear hc1
  unfold SlV.v at hv
  go_enter Tryz.func34, Tryz.ntmps34
  go_wp2_with ((with_reducible refine Lay.bxL (L := imgL) 32 m ?_ ?_); exact rfl; intro W1 bm ebm cbm xbm; replace ebm := Lib.hid ebm; replace cbm := Lib.hid cbm; replace xbm := Lib.hid xbm; refine Hid.out ?_)
  refine Lib.hid ?_
  go_wp2_with fail
  go_loopw [3, 4] (fun s3 s4 wr => ∃ (k : Nat) (h : Int), k ≤ ls.length ∧ s4 = .int .i64 (k : Int) ∧ s3 = .int .u64 h ∧ Chg [] w wr ∧ (ls.drop k).foldl highF h = highS ls ∧ Chg [] W1 wr) (fun _ s4 _ => ls.length - (intOf s4).toNat)
  case atStart => exact ⟨0, 0, Nat.zero_le _, rfl, rfl, cbm.out, rfl, Chg.refl _ _⟩
  case round =>
    obtain ⟨k, h, hk, rfl, rfl, hck, hgo, hc1r⟩ := hrel
    have C1 := Lib.hid (hc1r)
    clear hc1r
    have x4 := Img.c_segs (xbm.out.frame C1.out)
    rw [hv] at x4
    have CK := Lib.hid (hck)
    clear hck
    by_cases hlt : k < ls.length
    · have dlt : decide ((k : Int) < (ls.length : Int)) = true := decide_eq_true (by omega)
      obtain ⟨g, o, hao, _, hin⟩ := RD2.out.at (by omega)
      have hi := (hin k hlt).frame CK.out
      obtain ⟨s, hs⟩ : ∃ s, s = ls.getD k Seg.zero := ⟨_, rfl⟩
      rw [show ls.getD k segL.d = s from hs.symm] at hi
      rw [drop_getD ls k Seg.zero hlt] at hgo
      rw [← hs] at hgo
      rw [List.foldl_cons] at hgo
      rw [show segL.n = 7 from rfl] at hi
      subst hao
      obtain ⟨q, hq⟩ : ∃ q, q = holeS s := ⟨_, rfl⟩
      have hHs := fun w => HH.out s w
      rw [← hq] at hHs
      have hfs : highF h s = if q = true then h else max h (IntKind.u64.wrap (s.addr + s.size)) := by unfold highF; rw [← hq]
      rw [hfs] at hgo
      have Hi := Lib.hid hi
      have Hin := Lib.hid hin
      have Hs := Lib.hid hs
      have Hq := Lib.hid hq
      have HHs := Lib.hid hHs
      have Hfs := Lib.hid hfs
      clear hi hin hs hq hHs hfs
      go_wp2_with ((with_reducible refine Lay.ldL Tryz.tSeg s (Hi.out) ?_ ?_); exact rfl; refine Hid.out ?_)
      refine Lib.hid ?_
      go_wp2_with ((with_reducible refine Lay.alL Tryz.tSeg ?_); intro Wa bx ebx cbx xbx; replace ebx := Lib.hid ebx; replace cbx := Lib.hid cbx; replace xbx := Lib.hid xbx; refine Hid.out ?_)
      refine Lib.hid ?_
      go_wp2_with ((with_reducible refine Lay.stL Tryz.tSeg s (xbx.out) ?_ ?_ ?_); exact rfl; exact rfl; intro Wb cWb xWb; replace cWb := Lib.hid cWb; replace xWb := Lib.hid xWb; refine Hid.out ?_)
      refine Lib.hid ?_
      clear x4
      go_wp2_with ((with_reducible refine Lay.ldL Tryz.tSeg s (xWb.out.in) ?_ ?_); exact rfl; refine Hid.out ?_)
      refine Lib.hid ?_
      go_wp2_with fail
      refine (HHs.out Wb).mono ?_
      rintro e Wc ⟨rfl, hch⟩
      have K4 : Hid (Chg [] wr Wc) := Lib.hid ((cbx.out.new cWb.out (by rw [ebx.out]; exact Nat.le_refl _)).then hch)
      have X4 := Lib.hid (xWb.out.frame hch)
      clear hch
      have hw1 : wrap64 ((k : Int) + 1) = (k : Int) + 1 := by have := Hlen.out; unfold wrap64; omega
      cases q with
      | true =>
        rw [if_pos rfl] at hgo
        have Hgo := Lib.hid hgo
        clear hgo
        go_wp2
        go_roundw
        case rel => exact ⟨k + 1, _, hlt, by first | rfl | exact congrArg (Value.int .i64) hw1, rfl, CK.out.then K4.out, Hgo.out, C1.out.then K4.out⟩
        case measure => first | exact meas_w hw1 hlt | exact meas_v hlt
      | false =>
        rw [if_neg (by decide)] at hgo
        have y1 := Seg.c_addr X4.out
        have y2 := Seg.c_size X4.out
        by_cases hm : h < IntKind.u64.wrap (s.addr + s.size)
        · have dm : decide (h < IntKind.u64.wrap (s.addr + s.size)) = true := decide_eq_true hm
          rw [show max h (IntKind.u64.wrap (s.addr + s.size)) = IntKind.u64.wrap (s.addr + s.size) by omega] at hgo
          have Hgo := Lib.hid hgo
          have Hm := Lib.hid hm
          clear hgo hm
          go_wp2
          clear y1 y2
          go_roundw
          case rel => exact ⟨k + 1, _, hlt, by first | rfl | exact congrArg (Value.int .i64) hw1, rfl, CK.out.then K4.out, Hgo.out, C1.out.then K4.out⟩
          case measure => first | exact meas_w hw1 hlt | exact meas_v hlt
        · have dm : decide (h < IntKind.u64.wrap (s.addr + s.size)) = false := decide_eq_false hm
          rw [show max h (IntKind.u64.wrap (s.addr + s.size)) = h by omega] at hgo
          have Hgo := Lib.hid hgo
          have Hm := Lib.hid hm
          clear hgo hm
          go_wp2
          clear y1 y2
          go_roundw
          case rel => exact ⟨k + 1, _, hlt, by first | rfl | exact congrArg (Value.int .i64) hw1, rfl, CK.out.then K4.out, Hgo.out, C1.out.then K4.out⟩
          case measure => first | exact meas_w hw1 hlt | exact meas_v hlt
    · obtain rfl : k = ls.length := by omega
      have dlt : decide ((ls.length : Int) < (ls.length : Int)) = false := decide_eq_false (by omega)
      rw [List.drop_eq_nil_of_le (Nat.le_refl _)] at hgo
      have HE : Hid (h = highS ls) := Lib.hid (hgo)
      clear hgo
      go_wp2
      go_ret
      exact ⟨congrArg (fun z => Ending.returned (.int .u64 z)) HE.out, CK.out⟩
end Go.Proofs.YtaipelkegemoeaaGreatDoor
