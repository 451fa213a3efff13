/- Lemmas, laid together: part 30 of 40. Conditions: none but each lemma's own. -/
import Derived.Test.YtkomocgodljecaaGreatDoorJ22
/- The document's At. -/
namespace Go.Proofs.YtkomocgodljecaaGreatDoor
open Go.RowKit
set_option maxRecDepth 100000

set_option maxHeartbeats 8000000 in
theorem rAt_any (m : Img) (ls : List Seg) (hls : SegsB ls) (addr : Int) (ha : addr < 18446744073709551616) (w : World) (rd : segL.Rd w m.segs.v ls) :
    Calls Tryz.prog 22 #[imgL.val m, .int .u64 addr] w fun e w' => e = .returned (.int .i64 (idxI (atS ls addr))) ∧ Chg [] w w' := by
  have HH := Lib.hid (refHole_any)
  obtain ⟨a, cap, hv, hc1, hc2⟩ := rd.shape
  have rd' := rd
  rw [hv] at rd'
  have hlen : ls.length ≤ 9223372036854775807 := Nat.le_trans hc1 hc2
  obtain ⟨E, hE⟩ : ∃ E, E = idxI (atS ls addr) := ⟨_, rfl⟩
  rw [← hE]
  have Rd := Lib.hid rd
  have RD2 := Lib.hid rd'
  have Hc2 := Lib.hid hc2
  have Hlen := Lib.hid hlen
  have Hls := Lib.hid hls
  have Ha := Lib.hid ha
  have HE := Lib.hid hE
  clear rd rd' hc2 hlen hls ha hE
  clear hc1
  unfold SlV.v at hv
  go_enter Tryz.func22, Tryz.ntmps22
  go_wp2_with ((with_reducible refine Lay.bxL (L := imgL) 30 m ?_ ?_); exact rfl; intro W1 bm ebm cbm xbm; replace ebm := Lib.hid ebm; replace cbm := Lib.hid cbm; replace xbm := Lib.hid xbm; refine Hid.out ?_)
  refine Lib.hid ?_
  go_wp2_with fail
  go_loopw [5] (fun s5 wr => ∃ k : Nat, k ≤ ls.length ∧ s5 = .int .i64 (k : Int) ∧ (∀ j, j < k → inS addr (ls.getD j .zero) = false) ∧ Chg [] w wr ∧ Chg [] W1 wr) (fun s5 _ => ls.length - (intOf s5).toNat)
  case atStart => exact ⟨0, Nat.zero_le _, rfl, fun _ h => absurd h (Nat.not_lt_zero _), cbm.out, Chg.refl _ _⟩
  case round =>
    obtain ⟨k, hk, rfl, hno, hck, hc1r⟩ := hrel
    have CK := Lib.hid (hck)
    have C1 := Lib.hid (hc1r)
    have HNO := Lib.hid (hno)
    clear hck hc1r hno
    have x4 := Img.c_segs (xbm.out.frame C1.out)
    rw [hv] at x4
    by_cases hlt : k < ls.length
    · have dlt : decide ((k : Int) < (ls.length : Int)) = true := decide_eq_true (by omega)
      obtain ⟨g, o, hao, _, hin⟩ := RD2.out.at (by omega)
      have hi := (hin k hlt).frame CK.out
      have hsb := Hls.out k hlt
      obtain ⟨s, hs⟩ : ∃ s, s = ls.getD k Seg.zero := ⟨_, rfl⟩
      rw [show ls.getD k segL.d = s from hs.symm] at hi
      rw [← hs] at hsb
      rw [show segL.n = 7 from rfl] at hi
      subst hao
      obtain ⟨q, hq⟩ : ∃ q, q = holeS s := ⟨_, rfl⟩
      have hHs := fun w => HH.out s w
      rw [← hq] at hHs
      have hw1 : wrap64 ((k : Int) + 1) = (k : Int) + 1 := by have := Hlen.out; unfold wrap64; omega
      have hins : inS addr s = (!q && (decide (s.addr ≤ addr) && decide (addr - s.addr < s.size))) := by unfold inS; rw [← hq]
      have h0 := hsb.1.1
      have ha' := Ha.out
      have Hi := Lib.hid hi
      have Hin := Lib.hid hin
      have Hs := Lib.hid hs
      have Hq := Lib.hid hq
      have HHs := Lib.hid hHs
      have Hsb := Lib.hid hsb
      clear hi hin hs hq hHs hsb
      cases q with
      | true =>
        have HIN : Hid (inS addr s = false) := Lib.hid (by rw [hins]; rfl)
        have Hins := Lib.hid hins
        have H0 := Lib.hid h0
        have Ha' := Lib.hid ha'
        clear hins h0 ha'
        go_wp2_with ((with_reducible refine Lay.ldL Tryz.tSeg s (Hi.out) ?_ ?_); exact rfl; refine Hid.out ?_)
        refine Lib.hid ?_
        go_wp2_with ((with_reducible refine Lay.alL Tryz.tSeg ?_); intro Wa bx ebx cbx xbx; replace ebx := Lib.hid ebx; replace cbx := Lib.hid cbx; replace xbx := Lib.hid xbx; refine Hid.out ?_)
        refine Lib.hid ?_
        go_wp2_with ((with_reducible refine Lay.stL Tryz.tSeg s (xbx.out) ?_ ?_ ?_); exact rfl; exact rfl; intro Wb cWb xWb; replace cWb := Lib.hid cWb; replace xWb := Lib.hid xWb; refine Hid.out ?_)
        refine Lib.hid ?_
        clear x4
        go_wp2_with ((with_reducible refine Lay.ldL Tryz.tSeg s (xWb.out.in) ?_ ?_); exact rfl; refine Hid.out ?_)
        refine Lib.hid ?_
        go_wp2_with fail
        refine (HHs.out Wb).mono ?_
        rintro e Wc ⟨rfl, hch⟩
        have K4 : Hid (Chg [] wr Wc) := Lib.hid ((cbx.out.new cWb.out (by rw [ebx.out]; exact Nat.le_refl _)).then hch)
        have X4 := Lib.hid (xWb.out.frame hch)
        clear hch
        have y1 := Seg.c_addr X4.out
        have y2 := Seg.c_size X4.out
        go_wp2
        clear y1 y2
        go_roundw
        case rel =>
          refine ⟨k + 1, hlt, by first | rfl | exact congrArg (Value.int .i64) hw1, fun j hj => ?_, CK.out.then K4.out, C1.out.then K4.out⟩
          by_cases e : j = k
          · subst e; rw [← Hs.out]; exact HIN.out
          · exact HNO.out j (by omega)
        case measure =>
          first
          | exact (show ls.length - ((k : Int) + 1).toNat < ls.length - (k : Int).toNat by omega)
          | (rw [hw1]; exact (show ls.length - ((k : Int) + 1).toNat < ls.length - (k : Int).toNat by omega))
      | false =>
        by_cases c1 : s.addr ≤ addr
        · have d1 : decide (s.addr ≤ addr) = true := decide_eq_true c1
          have hw : IntKind.u64.wrap (addr - s.addr) = addr - s.addr := by rw [IntKind.wrap_u64]; omega
          by_cases c2 : addr - s.addr < s.size
          · have d2 : decide (addr - s.addr < s.size) = true := decide_eq_true c2
            have HIN : Hid (inS addr s = true) := Lib.hid (by rw [hins, d1, d2]; rfl)
            have HEE : Hid (E = (k : Int)) := by
              refine Lib.hid ?_
              rw [HE.out]
              unfold atS
              rw [idx_some (d := Seg.zero) hlt (by rw [← Hs.out]; exact HIN.out) HNO.out]
              rfl
            have Hins := Lib.hid hins
            have H0 := Lib.hid h0
            have Ha' := Lib.hid ha'
            have KC1 := Lib.hid c1
            have KC2 := Lib.hid c2
            clear hins h0 ha' c1 c2
            go_wp2_with ((with_reducible refine Lay.ldL Tryz.tSeg s (Hi.out) ?_ ?_); exact rfl; refine Hid.out ?_)
            refine Lib.hid ?_
            go_wp2_with ((with_reducible refine Lay.alL Tryz.tSeg ?_); intro Wa bx ebx cbx xbx; replace ebx := Lib.hid ebx; replace cbx := Lib.hid cbx; replace xbx := Lib.hid xbx; refine Hid.out ?_)
            refine Lib.hid ?_
            go_wp2_with ((with_reducible refine Lay.stL Tryz.tSeg s (xbx.out) ?_ ?_ ?_); exact rfl; exact rfl; intro Wb cWb xWb; replace cWb := Lib.hid cWb; replace xWb := Lib.hid xWb; refine Hid.out ?_)
            refine Lib.hid ?_
            clear x4
            go_wp2_with ((with_reducible refine Lay.ldL Tryz.tSeg s (xWb.out.in) ?_ ?_); exact rfl; refine Hid.out ?_)
            refine Lib.hid ?_
            go_wp2_with fail
            refine (HHs.out Wb).mono ?_
            rintro e Wc ⟨rfl, hch⟩
            have K4 : Hid (Chg [] wr Wc) := Lib.hid ((cbx.out.new cWb.out (by rw [ebx.out]; exact Nat.le_refl _)).then hch)
            have X4 := Lib.hid (xWb.out.frame hch)
            clear hch
            have y1 := Seg.c_addr X4.out
            have y2 := Seg.c_size X4.out
            go_wp2
            go_ret
            exact ⟨congrArg (fun z => Ending.returned (.int .i64 z)) HEE.out.symm, CK.out.then K4.out⟩
          · have d2 : decide (addr - s.addr < s.size) = false := decide_eq_false c2
            have HIN : Hid (inS addr s = false) := Lib.hid (by rw [hins, d1, d2]; rfl)
            have Hins := Lib.hid hins
            have H0 := Lib.hid h0
            have Ha' := Lib.hid ha'
            have KC1 := Lib.hid c1
            have KC2 := Lib.hid c2
            clear hins h0 ha' c1 c2
            go_wp2_with ((with_reducible refine Lay.ldL Tryz.tSeg s (Hi.out) ?_ ?_); exact rfl; refine Hid.out ?_)
            refine Lib.hid ?_
            go_wp2_with ((with_reducible refine Lay.alL Tryz.tSeg ?_); intro Wa bx ebx cbx xbx; replace ebx := Lib.hid ebx; replace cbx := Lib.hid cbx; replace xbx := Lib.hid xbx; refine Hid.out ?_)
            refine Lib.hid ?_
            go_wp2_with ((with_reducible refine Lay.stL Tryz.tSeg s (xbx.out) ?_ ?_ ?_); exact rfl; exact rfl; intro Wb cWb xWb; replace cWb := Lib.hid cWb; replace xWb := Lib.hid xWb; refine Hid.out ?_)
            refine Lib.hid ?_
            clear x4
            go_wp2_with ((with_reducible refine Lay.ldL Tryz.tSeg s (xWb.out.in) ?_ ?_); exact rfl; refine Hid.out ?_)
            refine Lib.hid ?_
            go_wp2_with fail
            refine (HHs.out Wb).mono ?_
            rintro e Wc ⟨rfl, hch⟩
            have K4 : Hid (Chg [] wr Wc) := Lib.hid ((cbx.out.new cWb.out (by rw [ebx.out]; exact Nat.le_refl _)).then hch)
            have X4 := Lib.hid (xWb.out.frame hch)
            clear hch
            have y1 := Seg.c_addr X4.out
            have y2 := Seg.c_size X4.out
            go_wp2
            clear y1 y2
            go_roundw
            case rel =>
              refine ⟨k + 1, hlt, by first | rfl | exact congrArg (Value.int .i64) hw1, fun j hj => ?_, CK.out.then K4.out, C1.out.then K4.out⟩
              by_cases e : j = k
              · subst e; rw [← Hs.out]; exact HIN.out
              · exact HNO.out j (by omega)
            case measure =>
              first
              | exact (show ls.length - ((k : Int) + 1).toNat < ls.length - (k : Int).toNat by omega)
              | (rw [hw1]; exact (show ls.length - ((k : Int) + 1).toNat < ls.length - (k : Int).toNat by omega))
        · have d1 : decide (s.addr ≤ addr) = false := decide_eq_false c1
          have HIN : Hid (inS addr s = false) := Lib.hid (by rw [hins, d1]; rfl)
          have Hins := Lib.hid hins
          have H0 := Lib.hid h0
          have Ha' := Lib.hid ha'
          have KC1 := Lib.hid c1
          clear hins h0 ha' c1
          go_wp2_with ((with_reducible refine Lay.ldL Tryz.tSeg s (Hi.out) ?_ ?_); exact rfl; refine Hid.out ?_)
          refine Lib.hid ?_
          go_wp2_with ((with_reducible refine Lay.alL Tryz.tSeg ?_); intro Wa bx ebx cbx xbx; replace ebx := Lib.hid ebx; replace cbx := Lib.hid cbx; replace xbx := Lib.hid xbx; refine Hid.out ?_)
          refine Lib.hid ?_
          go_wp2_with ((with_reducible refine Lay.stL Tryz.tSeg s (xbx.out) ?_ ?_ ?_); exact rfl; exact rfl; intro Wb cWb xWb; replace cWb := Lib.hid cWb; replace xWb := Lib.hid xWb; refine Hid.out ?_)
          refine Lib.hid ?_
          clear x4
          go_wp2_with ((with_reducible refine Lay.ldL Tryz.tSeg s (xWb.out.in) ?_ ?_); exact rfl; refine Hid.out ?_)
          refine Lib.hid ?_
          go_wp2_with fail
          refine (HHs.out Wb).mono ?_
          rintro e Wc ⟨rfl, hch⟩
          have K4 : Hid (Chg [] wr Wc) := Lib.hid ((cbx.out.new cWb.out (by rw [ebx.out]; exact Nat.le_refl _)).then hch)
          have X4 := Lib.hid (xWb.out.frame hch)
          clear hch
          have y1 := Seg.c_addr X4.out
          have y2 := Seg.c_size X4.out
          go_wp2
          clear y1 y2
          go_roundw
          case rel =>
            refine ⟨k + 1, hlt, by first | rfl | exact congrArg (Value.int .i64) hw1, fun j hj => ?_, CK.out.then K4.out, C1.out.then K4.out⟩
            by_cases e : j = k
            · subst e; rw [← Hs.out]; exact HIN.out
            · exact HNO.out j (by omega)
          case measure =>
            first
            | exact (show ls.length - ((k : Int) + 1).toNat < ls.length - (k : Int).toNat by omega)
            | (rw [hw1]; exact (show ls.length - ((k : Int) + 1).toNat < ls.length - (k : Int).toNat by omega))
    · obtain rfl : k = ls.length := by omega
      have dlt : decide ((ls.length : Int) < (ls.length : Int)) = false := decide_eq_false (by omega)
      have HEE : Hid (E = -1) := by
        refine Lib.hid ?_
        rw [HE.out]
        unfold atS
        rw [idx_none (d := Seg.zero) HNO.out]
        rfl
      go_wp2
      go_ret
      exact ⟨congrArg (fun z => Ending.returned (.int .i64 z)) HEE.out.symm, CK.out⟩
end Go.Proofs.YtkomocgodljecaaGreatDoor
