/- Lemmas, laid together: part 33 of 42. Conditions: none but each lemma's own. -/
import Derived.Test.YtiljokmkiolpgaaGreatDoorJ11
import Derived.Test.YtiljokmkiolpgaaGreatDoorJ19
import Derived.Test.YtiljokmkiolpgaaGreatDoorJ1
namespace Go.Proofs.YtiljokmkiolpgaaGreatDoor
open Go.RowKit
set_option maxRecDepth 100000
set_option maxHeartbeats 8000000 in
theorem rAt_any (m : Img) (ls : List Seg) (hls : SegsB ls) (addr : Int) (ha : addr < 18446744073709551616) (w : World) (rd : segL.Rd w m.segs.v ls) :
  Calls Tryz.prog 60 #[imgL.val m, .int .u64 addr] w fun e w' => e = .returned (.int .i64 (idxI (atS ls addr))) ∧ Chg [] w w' := by
 have HH := hY (refHole_any)
 obtain ⟨a, cap, hv, hc1, hc2⟩ := rd.shape
 have rd' := rd
 rw [hv] at rd'
 have hlen : ls.length ≤ 9223372036854775807 := Nat.le_trans hc1 hc2
 obtain ⟨E, hE⟩ : ∃ E, E = idxI (atS ls addr) := ⟨_, rfl⟩
 rw [← hE]
 have Rd := hY rd
 have RD2 := hY rd'
 have Hc2 := hY hc2
 have Hlen := hY hlen
 have Hls := hY hls
 have Ha := hY ha
 have HE := hY hE
 clear rd rd' hc2 hlen hls ha hE
 clear hc1
 unfold SlV.v at hv
 go_enter Tryz.func60, Tryz.ntmps60
 go_wp2_with ((with_reducible refine Lay.bxQ (L := imgL) 32 m ?_ ?_); exact rfl)
 refine hY fun W1 bm ebm cbm xbm => ?_
 go_wp2_with fail
 go_loopw [5] (fun s5 wr => ∃ k : Nat, k ≤ ls.length ∧ s5 = .int .i64 (k : Int) ∧ (∀ j, j < k → inS addr (ls.getD j .zero) = false) ∧ Chg [] w wr ∧ Chg [] W1 wr) (fun s5 _ => ls.length - (intOf s5).toNat)
 case atStart => exact ⟨0, Nat.zero_le _, rfl, fun _ h => absurd h (Nat.not_lt_zero _), cbm.out, Chg.refl _ _⟩
 case round =>
  obtain ⟨k, hk, rfl, hno, hck, hc1r⟩ := hrel
  have CK := hY (hck)
  have C1 := hY (hc1r)
  have HNO := hY (hno)
  clear hck hc1r hno
  have x4 := Img.c_segs (xbm.out.frame C1.out)
  rw [hv] at x4
  by_cases hlt : k < ls.length
  ·have dlt : decide ((k : Int) < (ls.length : Int)) = true := decide_eq_true (by omega)
   obtain ⟨g, o, hao, _, hin⟩ := RD2.out.at (by omega)
   have hi := (hin k hlt).frame CK.out
   have hsb := Hls.out k hlt
   obtain ⟨s, hs⟩ : ∃ s, s = ls.getD k Seg.zero := ⟨_, rfl⟩
   rw [show ls.getD k segL.d = s from hs.symm] at hi
   rw [← hs] at hsb
   rw [show segL.n = 7 from rfl] at hi
   subst hao
   obtain ⟨q, hq⟩ : ∃ q, q = holeS s := ⟨_, rfl⟩
   have hHs := fun w => HH.out s w
   rw [← hq] at hHs
   have hw1 : wrap64 ((k : Int) + 1) = (k : Int) + 1 := by have := Hlen.out; unfold wrap64; omega
   have hins : inS addr s = (!q && (decide (s.addr ≤ addr) && decide (addr - s.addr < s.size))) := by unfold inS; rw [← hq]
   have h0 := hsb.1.1
   have ha' := Ha.out
   have Hi := hY hi
   have Hin := hY hin
   have Hs := hY hs
   have Hq := hY hq
   have HHs := hY hHs
   have Hsb := hY hsb
   clear hi hin hs hq hHs hsb
   cases q with
   | true =>
    have HIN : Hid (inS addr s = false) := hY (by rw [hins]; rfl)
    have Hins := hY hins
    have H0 := hY h0
    have Ha' := hY ha'
    clear hins h0 ha'
    go_wp2_with ((with_reducible refine Lay.ldQ Tryz.tSeg s (Hi.out) ?_ ?_); exact rfl)
    refine hY ?_
    go_wp2_with (with_reducible refine Lay.alQ Tryz.tSeg ?_)
    refine hY fun Wa bx ebx cbx xbx => ?_
    go_wp2_with ((with_reducible refine Lay.stQ Tryz.tSeg s (xbx.out) ?_ ?_ ?_); exact rfl; exact rfl)
    refine hY fun Wb cWb xWb => ?_
    clear x4
    go_wp2_with ((with_reducible refine Lay.ldQ Tryz.tSeg s (xWb.out.in) ?_ ?_); exact rfl)
    refine hY ?_
    go_wp2_with fail
    refine (HHs.out Wb).mono ?_
    rintro e Wc ⟨rfl, hch⟩
    have K4 : Hid (Chg [] wr Wc) := hY ((cbx.out.new cWb.out (by rw [ebx.out]; exact Nat.le_refl _)).then hch)
    have X4 := hY (xWb.out.frame hch)
    clear hch
    have y1 := Seg.c_addr X4.out
    have y2 := Seg.c_size X4.out
    go_wp2
    clear y1 y2
    go_roundw
    case rel =>
     refine ⟨k + 1, hlt, by first | rfl | exact congrArg (Value.int .i64) hw1, fun j hj => ?_, CK.out.then K4.out, C1.out.then K4.out⟩
     by_cases e : j = k
     ·subst e; rw [← Hs.out]; exact HIN.out
     ·exact HNO.out j (by omega)
    case measure =>
     first
     | exact (show ls.length - ((k : Int) + 1).toNat < ls.length - (k : Int).toNat by omega)
     | (rw [hw1]; exact (show ls.length - ((k : Int) + 1).toNat < ls.length - (k : Int).toNat by omega))
   | false =>
    by_cases c1 : s.addr ≤ addr
    ·have d1 : decide (s.addr ≤ addr) = true := decide_eq_true c1
     have hw : IntKind.u64.wrap (addr - s.addr) = addr - s.addr := by rw [IntKind.wrap_u64]; omega
     by_cases c2 : addr - s.addr < s.size
     ·have d2 : decide (addr - s.addr < s.size) = true := decide_eq_true c2
      have HIN : Hid (inS addr s = true) := hY (by rw [hins, d1, d2]; rfl)
      have HEE : Hid (E = (k : Int)) := by
       refine hY ?_
       rw [HE.out]
       unfold atS
       rw [idx_some (d := Seg.zero) hlt (by rw [← Hs.out]; exact HIN.out) HNO.out]
       rfl
      have Hins := hY hins
      have H0 := hY h0
      have Ha' := hY ha'
      have KC1 := hY c1
      have KC2 := hY c2
      clear hins h0 ha' c1 c2
      go_wp2_with ((with_reducible refine Lay.ldQ Tryz.tSeg s (Hi.out) ?_ ?_); exact rfl)
      refine hY ?_
      go_wp2_with (with_reducible refine Lay.alQ Tryz.tSeg ?_)
      refine hY fun Wa bx ebx cbx xbx => ?_
      go_wp2_with ((with_reducible refine Lay.stQ Tryz.tSeg s (xbx.out) ?_ ?_ ?_); exact rfl; exact rfl)
      refine hY fun Wb cWb xWb => ?_
      clear x4
      go_wp2_with ((with_reducible refine Lay.ldQ Tryz.tSeg s (xWb.out.in) ?_ ?_); exact rfl)
      refine hY ?_
      go_wp2_with fail
      refine (HHs.out Wb).mono ?_
      rintro e Wc ⟨rfl, hch⟩
      have K4 : Hid (Chg [] wr Wc) := hY ((cbx.out.new cWb.out (by rw [ebx.out]; exact Nat.le_refl _)).then hch)
      have X4 := hY (xWb.out.frame hch)
      clear hch
      have y1 := Seg.c_addr X4.out
      have y2 := Seg.c_size X4.out
      go_wp2
      go_ret
      exact ⟨congrArg (fun z => Ending.returned (.int .i64 z)) HEE.out.symm, CK.out.then K4.out⟩
     ·have d2 : decide (addr - s.addr < s.size) = false := decide_eq_false c2
      have HIN : Hid (inS addr s = false) := hY (by rw [hins, d1, d2]; rfl)
      have Hins := hY hins
      have H0 := hY h0
      have Ha' := hY ha'
      have KC1 := hY c1
      have KC2 := hY c2
      clear hins h0 ha' c1 c2
      go_wp2_with ((with_reducible refine Lay.ldQ Tryz.tSeg s (Hi.out) ?_ ?_); exact rfl)
      refine hY ?_
      go_wp2_with (with_reducible refine Lay.alQ Tryz.tSeg ?_)
      refine hY fun Wa bx ebx cbx xbx => ?_
      go_wp2_with ((with_reducible refine Lay.stQ Tryz.tSeg s (xbx.out) ?_ ?_ ?_); exact rfl; exact rfl)
      refine hY fun Wb cWb xWb => ?_
      clear x4
      go_wp2_with ((with_reducible refine Lay.ldQ Tryz.tSeg s (xWb.out.in) ?_ ?_); exact rfl)
      refine hY ?_
      go_wp2_with fail
      refine (HHs.out Wb).mono ?_
      rintro e Wc ⟨rfl, hch⟩
      have K4 : Hid (Chg [] wr Wc) := hY ((cbx.out.new cWb.out (by rw [ebx.out]; exact Nat.le_refl _)).then hch)
      have X4 := hY (xWb.out.frame hch)
      clear hch
      have y1 := Seg.c_addr X4.out
      have y2 := Seg.c_size X4.out
      go_wp2
      clear y1 y2
      go_roundw
      case rel =>
       refine ⟨k + 1, hlt, by first | rfl | exact congrArg (Value.int .i64) hw1, fun j hj => ?_, CK.out.then K4.out, C1.out.then K4.out⟩
       by_cases e : j = k
       ·subst e; rw [← Hs.out]; exact HIN.out
       ·exact HNO.out j (by omega)
      case measure =>
       first
       | exact (show ls.length - ((k : Int) + 1).toNat < ls.length - (k : Int).toNat by omega)
       | (rw [hw1]; exact (show ls.length - ((k : Int) + 1).toNat < ls.length - (k : Int).toNat by omega))
    ·have d1 : decide (s.addr ≤ addr) = false := decide_eq_false c1
     have HIN : Hid (inS addr s = false) := hY (by rw [hins, d1]; rfl)
     have Hins := hY hins
     have H0 := hY h0
     have Ha' := hY ha'
     have KC1 := hY c1
     clear hins h0 ha' c1
     go_wp2_with ((with_reducible refine Lay.ldQ Tryz.tSeg s (Hi.out) ?_ ?_); exact rfl)
     refine hY ?_
     go_wp2_with (with_reducible refine Lay.alQ Tryz.tSeg ?_)
     refine hY fun Wa bx ebx cbx xbx => ?_
     go_wp2_with ((with_reducible refine Lay.stQ Tryz.tSeg s (xbx.out) ?_ ?_ ?_); exact rfl; exact rfl)
     refine hY fun Wb cWb xWb => ?_
     clear x4
     go_wp2_with ((with_reducible refine Lay.ldQ Tryz.tSeg s (xWb.out.in) ?_ ?_); exact rfl)
     refine hY ?_
     go_wp2_with fail
     refine (HHs.out Wb).mono ?_
     rintro e Wc ⟨rfl, hch⟩
     have K4 : Hid (Chg [] wr Wc) := hY ((cbx.out.new cWb.out (by rw [ebx.out]; exact Nat.le_refl _)).then hch)
     have X4 := hY (xWb.out.frame hch)
     clear hch
     have y1 := Seg.c_addr X4.out
     have y2 := Seg.c_size X4.out
     go_wp2
     clear y1 y2
     go_roundw
     case rel =>
      refine ⟨k + 1, hlt, by first | rfl | exact congrArg (Value.int .i64) hw1, fun j hj => ?_, CK.out.then K4.out, C1.out.then K4.out⟩
      by_cases e : j = k
      ·subst e; rw [← Hs.out]; exact HIN.out
      ·exact HNO.out j (by omega)
     case measure =>
      first
      | exact (show ls.length - ((k : Int) + 1).toNat < ls.length - (k : Int).toNat by omega)
      | (rw [hw1]; exact (show ls.length - ((k : Int) + 1).toNat < ls.length - (k : Int).toNat by omega))
  ·obtain rfl : k = ls.length := by omega
   have dlt : decide ((ls.length : Int) < (ls.length : Int)) = false := decide_eq_false (by omega)
   have HEE : Hid (E = -1) := by
    refine hY ?_
    rw [HE.out]
    unfold atS
    rw [idx_none (d := Seg.zero) HNO.out]
    rfl
   go_wp2
   go_ret
   exact ⟨congrArg (fun z => Ending.returned (.int .i64 z)) HEE.out.symm, CK.out⟩
theorem leNum_drop8 (l : List UInt8) (m : Nat) (h : m < l.length) : leNum (l.drop m) = (l.getD m 0).toNat + 256 * leNum (l.drop (m + 1)) := by
 rw [List.drop_eq_getElem_cons h]
 show l[m].toNat + 256 * leNum (l.drop (m + 1)) = _
 simp [List.getD_eq_getElem?_getD, h]
theorem byte_cell8 {w : World} {b off n cap : Nat} {l : List UInt8} (h : byteL.Rd w (.slice (some ⟨b, off, none⟩) n cap) l) (j : Nat) (hj : j < l.length) : w.cell? ⟨b, off + j, none⟩ = some (.int .u8 (l.getD j 0).toNat) := by
 obtain ⟨_, _, _, e, _, _, _, hx⟩ := h
 cases e
 obtain ⟨b', o', e, _, hc⟩ := hx (by rintro rfl; simp at hj)
 cases e
 have := hc j hj 0 (by decide)
 rw [show byteL.n = 1 from rfl, Nat.mul_one, Nat.add_zero] at this
 rw [this]
 rfl
def byteS (l : List UInt8) (s : Seg) (o : Nat) : UInt8 := (partS l s.off.toNat s.fsize.toNat).getD o 0
set_option maxHeartbeats 4000000 in
theorem rByte_any (l : List UInt8) (v : Value) (s : Seg) (hs : SegB s) (addr : Int) (o : Nat) (hao : addr = s.addr + o) (ha : addr < 18446744073709551616) (w : World) (rd : byteL.Rd w v l) :
  Calls Tryz.prog 61 #[v, segL.val s, .int .u64 addr] w fun e w' => e = .returned (.int .u8 ((byteS l s o).toNat : Nat)) ∧ Chg [] w w' := by
 obtain ⟨a, cap, rfl, hc1, hc2⟩ := rd.shape
 have hlen : l.length ≤ 9223372036854775807 := Nat.le_trans hc1 hc2
 obtain ⟨⟨q1, q2⟩, ⟨q3, q4⟩, ⟨q5, q6⟩, q7, q8⟩ := hs
 have hw : IntKind.u64.wrap (addr - s.addr) = (o : Int) := by rw [IntKind.wrap_u64]; omega
 have hwl : IntKind.u64.wrap (l.length : Int) = (l.length : Int) := by rw [IntKind.wrap_u64]; omega
 obtain ⟨B, hB⟩ : ∃ B, B = byteS l s o := ⟨_, rfl⟩
 rw [← hB]
 have hA := fun w => rwithinI_any s.off s.fsize l.length q5 q7 (by omega) w
 by_cases c1 : s.fsize ≤ (o : Int)
 ·have d1 : decide (s.fsize ≤ (o : Int)) = true := decide_eq_true c1
  have hB0 : B = 0 := by
   rw [hB]
   unfold byteS partS
   split
   ·rfl
   ·split
    ·rw [List.getD_eq_getElem?_getD, List.getElem?_eq_none (by simp; omega)]; rfl
    ·rfl
  have HB := hY hB
  have HA := hY hA
  have Q1 := hY q1
  have Q2 := hY q2
  have Q3 := hY q3
  have Q4 := hY q4
  have Q5 := hY q5
  have Q6 := hY q6
  have Q7 := hY q7
  have Q8 := hY q8
  have C1 := hY c1
  have Ha := hY ha
  have Hao := hY hao
  have Hlen := hY hlen
  have Rd := hY rd
  have Hc2 := hY hc2
  have Hwl := hY hwl
  have Hc1 := hY hc1
  clear hB hA q1 q2 q3 q4 q5 q6 q7 q8 c1 ha hao hlen rd hc2 hwl hc1
  subst hB0
  go_enter Tryz.func61, Tryz.ntmps61
  go_wp2_with ((with_reducible refine Lay.bxQ (L := segL) 73 s ?_ ?_); exact rfl)
  refine hY fun W1 bs ebs cbs xbs => ?_
  have y1 := Seg.c_addr xbs.out
  have y3 := Seg.c_off xbs.out
  have y4 := Seg.c_fsize xbs.out
  go_wp2
  go_ret
  exact ⟨rfl, cbs.out⟩
 ·have d1 : decide (s.fsize ≤ (o : Int)) = false := decide_eq_false c1
  cases b1 : withinI s.off s.fsize l.length with
  | false =>
   rw [b1] at hA
   have hB0 : B = 0 := by
    rw [hB]
    unfold byteS partS
    have hws : withinS s.off.toNat s.fsize.toNat l.length = false := by
     unfold withinI at b1
     unfold withinS
     rw [Bool.and_eq_false_iff, decide_eq_false_iff_not, decide_eq_false_iff_not] at b1 ⊢
     omega
    rw [hws, if_neg (by omega)]
    rfl
   have HB := hY hB
   have HA := hY hA
   have Q1 := hY q1
   have Q2 := hY q2
   have Q3 := hY q3
   have Q4 := hY q4
   have Q5 := hY q5
   have Q6 := hY q6
   have Q7 := hY q7
   have Q8 := hY q8
   have C1 := hY c1
   have Ha := hY ha
   have Hao := hY hao
   have Hlen := hY hlen
   have Rd := hY rd
   have Hc2 := hY hc2
   have B1 := hY b1
   have Hc1 := hY hc1
   clear hB hA q1 q2 q3 q4 q5 q6 q7 q8 c1 ha hao hlen rd hc2 b1 hc1
   subst hB0
   go_enter Tryz.func61, Tryz.ntmps61
   go_wp2_with ((with_reducible refine Lay.bxQ (L := segL) 73 s ?_ ?_); exact rfl)
   refine hY fun W1 bs ebs cbs xbs => ?_
   have y1 := Seg.c_addr xbs.out
   have y3 := Seg.c_off xbs.out
   have y4 := Seg.c_fsize xbs.out
   go_wp2_with fail
   refine (HA.out _).mono ?_
   rintro e W2 ⟨rfl, hc⟩
   have C2 := hY (cbs.out.then hc)
   clear hc y1 y3 y4
   go_wp2
   go_ret
   exact ⟨rfl, C2.out⟩
  | true =>
   rw [b1] at hA
   have hin : s.off ≤ (l.length : Int) ∧ s.fsize ≤ (l.length : Int) - s.off := by
    unfold withinI at b1
    simpa only [Bool.and_eq_true, decide_eq_true_eq] using b1
   have hlt : s.off.toNat + o < l.length := by omega
   have hwi : IntKind.u64.wrap (s.off + (o : Int)) = ((s.off.toNat + o : Nat) : Int) := by rw [IntKind.wrap_u64]; omega
   have hBv : B = l.getD (s.off.toNat + o) 0 := by
    rw [hB]
    unfold byteS partS
    have hws : withinS s.off.toNat s.fsize.toNat l.length = true := by
     unfold withinS
     rw [decide_eq_true (by omega), decide_eq_true (by omega)]
     rfl
    rw [hws, if_neg (by omega), if_pos rfl]
    rw [List.getD_eq_getElem?_getD, List.getD_eq_getElem?_getD, List.getElem?_take_of_lt (by omega), List.getElem?_drop]
   obtain ⟨b, off, rfl, _, _⟩ := rd.at (show l.length ≠ 0 by omega)
   have yc := byte_cell8 rd _ hlt
   rw [← hBv] at yc
   obtain ⟨J, hJ⟩ : ∃ J, J = s.off.toNat + o := ⟨_, rfl⟩
   rw [← hJ] at yc hwi hlt
   have HB := hY hB
   have HBv := hY hBv
   have HA := hY hA
   have Q1 := hY q1
   have Q2 := hY q2
   have Q3 := hY q3
   have Q4 := hY q4
   have Q5 := hY q5
   have Q6 := hY q6
   have Q7 := hY q7
   have Q8 := hY q8
   have C1 := hY c1
   have Ha := hY ha
   have Hao := hY hao
   have Hlen := hY hlen
   have Rd := hY rd
   have Hc2 := hY hc2
   have B1 := hY b1
   have Hin := hY hin
   have HJ := hY hJ
   have Hc1 := hY hc1
   clear hB hBv hA q1 q2 q3 q4 q5 q6 q7 q8 c1 ha hao hlen rd hc2 b1 hin hJ hc1
   go_enter Tryz.func61, Tryz.ntmps61
   go_wp2_with ((with_reducible refine Lay.bxQ (L := segL) 73 s ?_ ?_); exact rfl)
   refine hY fun W1 bs ebs cbs xbs => ?_
   have y1 := Seg.c_addr xbs.out
   have y3 := Seg.c_off xbs.out
   have y4 := Seg.c_fsize xbs.out
   replace yc := cbs.out.cell yc (by simp)
   go_wp2_with fail
   refine (HA.out _).mono ?_
   rintro e W2 ⟨rfl, hc⟩
   have C2 := hY (cbs.out.then hc)
   replace yc := hc.cell yc (by simp)
   replace y3 := hc.cell y3 (by simp)
   clear hc y1 y4
   go_wp2
   go_ret
   exact ⟨rfl, C2.out⟩
theorem leNum8_lt (l : List UInt8) (h : l.length ≤ 8) : leNum l < 18446744073709551616 := by
 have h1 := leNum_lt l
 have h2 : 256 ^ l.length ≤ 256 ^ 8 := Nat.pow_le_pow_right (by decide) h
 exact Nat.lt_of_lt_of_le h1 (Nat.le_trans h2 (by decide))
set_option maxHeartbeats 8000000 in
theorem rWord_any (l : List UInt8) (v : Value) (m : Img) (ls : List Seg) (hls : SegsB ls) (hend : ∀ k, k < ls.length → (ls.getD k .zero).addr + (ls.getD k .zero).size ≤ 140737488355328) (addr : Int) (ha : addr < 18446744073709551616) (w : World) (rl : byteL.Rd w v l) (rd : segL.Rd w m.segs.v ls) :
  Calls Tryz.prog 22 #[v, imgL.val m, .int .u64 addr] w fun e w' => e = .returned (.tuple #[.int .u64 (wordS ls l addr).1, .int .i64 (wordS ls l addr).2]) ∧ Chg [] w w' := by
 have HAT := hY (fun w rd => rAt_any m ls hls addr ha w rd)
 obtain ⟨a, cap, hv, hc1, hc2⟩ := rd.shape
 have rd' := rd
 rw [hv] at rd'
 obtain ⟨P, hP⟩ : ∃ P, P = wordS ls l addr := ⟨_, rfl⟩
 rw [← hP]
 have hPe : wordS ls l addr = wordS ls l addr := rfl
 conv at hPe => rhs; unfold wordS
 rw [← hP] at hPe
 have RL := hY rl
 have RS := hY rd
 have RD2 := hY rd'
 have HP := hY hP
 have Hc2 := hY hc2
 have Hend := hY hend
 clear rl rd rd' hP hc2 hend
 clear hc1
 unfold SlV.v at hv
 cases hat : atS ls addr with
 | none =>
  rw [hat] at HAT hPe
  obtain rfl : P = (0, 4) := hPe
  unfold idxI at HAT
  have Hat := hY hat
  have Hls := hY hls
  have Ha := hY ha
  clear hat hls ha
  go_enter Tryz.func22, Tryz.ntmps22
  go_wp2_with ((with_reducible refine Lay.bxQ (L := imgL) 32 m ?_ ?_); exact rfl)
  refine hY fun W1 bm ebm cbm xbm => ?_
  go_wp2_with ((with_reducible refine Lay.ldQ Tryz.tImg m (xbm.out.in) ?_ ?_); exact rfl)
  refine hY ?_
  go_wp2_with fail
  refine (HAT.out _ (RS.out.frame cbm.out)).mono ?_
  rintro e W2 ⟨rfl, hc⟩
  have C2 := hY (cbm.out.then hc)
  have X2 := hY (xbm.out.frame hc)
  clear hc
  go_wp2
  go_ret2
  exact ⟨rfl, C2.out⟩
 | some i =>
  have hil := idx_lt hat
  have hin := idx_true Seg.zero hat
  have hsb := hls i hil
  have q5 := Hend.out i hil
  rw [hat] at HAT hPe
  unfold idxI at HAT
  have di : ¬ (i : Int) < 0 := by omega
  obtain ⟨g, o, hao, _, hcell⟩ := RD2.out.at (by omega)
  have hi := (hcell i hil)
  obtain ⟨s, hs⟩ : ∃ s, s = ls.getD i Seg.zero := ⟨_, rfl⟩
  rw [show ls.getD i segL.d = s from hs.symm] at hi
  replace hPe : P = if s.size - (addr - s.addr) < 8 then (0, 4) else (padI (partS l s.off.toNat s.fsize.toNat) (addr - s.addr).toNat, 0) := by rw [hPe, hs]
  rw [← hs] at hin hsb q5
  rw [show segL.n = 7 from rfl] at hi
  subst hao
  have hi1 : s.addr ≤ addr ∧ addr - s.addr < s.size := by
   unfold inS at hin
   simp only [Bool.and_eq_true, decide_eq_true_eq] at hin
   exact hin.2
  have hsb' := hsb
  obtain ⟨⟨q1, q2⟩, ⟨q3, q4⟩, _⟩ := hsb'
  have hw1 : IntKind.u64.wrap (addr - s.addr) = addr - s.addr := by rw [IntKind.wrap_u64]; omega
  have hw2 : IntKind.u64.wrap (s.size - (addr - s.addr)) = s.size - (addr - s.addr) := by rw [IntKind.wrap_u64]; omega
  by_cases c8 : s.size - (addr - s.addr) < 8
  ·have d8 : decide (s.size - (addr - s.addr) < 8) = true := decide_eq_true c8
   rw [if_pos c8] at hPe
   subst hPe
   have Hi := hY hi
   have Hs := hY hs
   have Hin := hY hin
   have Hsb := hY hsb
   have Hi1 := hY hi1
   have Q1 := hY q1
   have Q2 := hY q2
   have Q3 := hY q3
   have Q4 := hY q4
   have Q5 := hY q5
   have C8 := hY c8
   have Hat := hY hat
   have Hls := hY hls
   have Ha := hY ha
   have Hil := hY hil
   have Hcell := hY hcell
   clear hi hs hin hsb hi1 q1 q2 q3 q4 q5 c8 hat hls ha hil hcell
   go_enter Tryz.func22, Tryz.ntmps22
   go_wp2_with ((with_reducible refine Lay.bxQ (L := imgL) 32 m ?_ ?_); exact rfl)
   refine hY fun W1 bm ebm cbm xbm => ?_
   go_wp2_with ((with_reducible refine Lay.ldQ Tryz.tImg m (xbm.out.in) ?_ ?_); exact rfl)
   refine hY ?_
   go_wp2_with fail
   refine (HAT.out _ (RS.out.frame cbm.out)).mono ?_
   rintro e W2 ⟨rfl, hc⟩
   have C2 := hY (cbm.out.then hc)
   have X2 := hY (xbm.out.frame hc)
   clear hc
   have x4 := Img.c_segs X2.out
   rw [hv] at x4
   go_wp2_with ((with_reducible refine Lay.ldQ Tryz.tSeg s ((Hi.out.frame C2.out)) ?_ ?_); exact rfl)
   refine hY ?_
   go_wp2_with (with_reducible refine Lay.alQ Tryz.tSeg ?_)
   refine hY fun Wa bx ebx cbx xbx => ?_
   go_wp2_with ((with_reducible refine Lay.stQ Tryz.tSeg s (xbx.out) ?_ ?_ ?_); exact rfl; exact rfl)
   refine hY fun Wb cWb xWb => ?_
   have CB : Hid (Chg [] w Wb) := hY (C2.out.then (cbx.out.new cWb.out (by rw [ebx.out]; exact Nat.le_refl _)))
   have y1 := Seg.c_addr xWb.out
   have y2 := Seg.c_size xWb.out
   clear x4
   go_wp2
   go_ret2
   exact ⟨rfl, CB.out⟩
  ·have d8 : decide (s.size - (addr - s.addr) < 8) = false := decide_eq_false c8
   rw [if_neg c8] at hPe
   obtain ⟨O, hO⟩ : ∃ O : Nat, O = (addr - s.addr).toNat := ⟨_, rfl⟩
   obtain ⟨B, hB⟩ : ∃ B, B = pad8 (partS l s.off.toNat s.fsize.toNat) O := ⟨_, rfl⟩
   have hP2 : P = (((leNum B : Nat) : Int), 0) := by rw [hPe, hB, hO]; rfl
   have hBl : B.length = 8 := by rw [hB]; exact pad8_len _ _
   have hBg : ∀ j, j < 8 → B.getD j 0 = byteS l s (O + j) := fun j hj => by
    rw [hB, List.getD_eq_getElem?_getD, pad8_get _ _ _ hj]
    rfl
   have HBY := hY (fun (j : Nat) (hj : j < 8) w rd => rByte_any l v s hsb (addr + j) (O + j) (by omega) (by omega) w rd)
   subst hP2
   clear hPe
   have hwa : ∀ j : Nat, j < 8 → IntKind.u64.wrap (addr + (j : Int)) = addr + (j : Int) := fun j hj => by rw [IntKind.wrap_u64]; omega
   have Hi := hY hi
   have Hs := hY hs
   have Hin := hY hin
   have Hsb := hY hsb
   have Hi1 := hY hi1
   have HO := hY hO
   have HB := hY hB
   have HBL := hY hBl
   have HBG := hY hBg
   have Hat := hY hat
   have Hls := hY hls
   have Hil := hY hil
   have Hcell := hY hcell
   clear hi hs hin hsb hi1 hO hB hBl hBg hat hls hil hcell
   have Hwa := hY hwa
   have Q1 := hY q1
   have Q2 := hY q2
   have Q3 := hY q3
   have Q4 := hY q4
   have Q5 := hY q5
   have KC8 := hY c8
   have Ha := hY ha
   clear hwa q1 q2 q3 q4 q5 c8 ha
   go_enter Tryz.func22, Tryz.ntmps22
   go_wp2_with ((with_reducible refine Lay.bxQ (L := imgL) 32 m ?_ ?_); exact rfl)
   refine hY fun W1 bm ebm cbm xbm => ?_
   go_wp2_with ((with_reducible refine Lay.ldQ Tryz.tImg m (xbm.out.in) ?_ ?_); exact rfl)
   refine hY ?_
   go_wp2_with fail
   refine (HAT.out _ (RS.out.frame cbm.out)).mono ?_
   rintro e W2 ⟨rfl, hc⟩
   have C2 := hY (cbm.out.then hc)
   have X2 := hY (xbm.out.frame hc)
   clear hc
   have x4 := Img.c_segs X2.out
   rw [hv] at x4
   go_wp2_with ((with_reducible refine Lay.ldQ Tryz.tSeg s ((Hi.out.frame C2.out)) ?_ ?_); exact rfl)
   refine hY ?_
   go_wp2_with (with_reducible refine Lay.alQ Tryz.tSeg ?_)
   refine hY fun Wa bx ebx cbx xbx => ?_
   go_wp2_with ((with_reducible refine Lay.stQ Tryz.tSeg s (xbx.out) ?_ ?_ ?_); exact rfl; exact rfl)
   refine hY fun Wb cWb xWb => ?_
   have CB : Hid (Chg [] w Wb) := hY (C2.out.then (cbx.out.new cWb.out (by rw [ebx.out]; exact Nat.le_refl _)))
   have XB := hY (xWb.out)
   have y1 := Seg.c_addr XB.out
   have y2 := Seg.c_size XB.out
   clear x4
   go_wp2_with fail
   clear y1 y2
   go_loopw [10, 11] (fun s10 s11 wr => ((∃ j : Nat, j < 8 ∧ s11 = .int .i64 (j : Int) ∧ s10 = .int .u64 ((leNum (B.drop (j + 1)) : Nat) : Int)) ∨ (s11 = .int .i64 (-1) ∧ s10 = .int .u64 ((leNum B : Nat) : Int))) ∧ Chg [] Wb wr) (fun _ s11 _ => (intOf s11 + 1).toNat)
   case atStart => exact ⟨.inl ⟨7, by decide, rfl, by rw [List.drop_eq_nil_of_le (by rw [HBL.out]; exact Nat.le_refl _)]; rfl⟩, Chg.refl _ _⟩
   case round =>
    obtain ⟨⟨j, hj, rfl, rfl⟩ | ⟨rfl, rfl⟩, hc⟩ := hrel
    ·have CW := hY (hc)
     clear hc
     have dj : decide ((0 : Int) ≤ (j : Int)) = true := decide_eq_true (by omega)
     have hld := leNum_drop8 B j (by rw [HBL.out]; exact hj)
     rw [HBG.out j hj] at hld
     obtain ⟨N, hN⟩ : ∃ N, N = leNum (B.drop (j + 1)) := ⟨_, rfl⟩
     rw [← hN] at hld ⊢
     obtain ⟨b, hb⟩ : ∃ b : Nat, b = (byteS l s (O + j)).toNat := ⟨_, rfl⟩
     rw [← hb] at hld
     have hlt := leNum8_lt (B.drop j) (by rw [List.length_drop, HBL.out]; omega)
     have hwj : IntKind.u64.wrap (j : Int) = (j : Int) := by rw [IntKind.wrap_u64]; omega
     have hwp := Hwa.out j hj
     have hwm : IntKind.u64.wrap ((N : Int) * 256) = ((N * 256 : Nat) : Int) := by rw [IntKind.wrap_u64]; omega
     have hwb : IntKind.u64.wrap (b : Int) = (b : Int) := by rw [IntKind.wrap_u64]; omega
     have hws : IntKind.u64.wrap (((N * 256 : Nat) : Int) + (b : Int)) = ((leNum (B.drop j) : Nat) : Int) := by rw [IntKind.wrap_u64]; omega
     have hby := fun w rd => HBY.out j hj w rd
     rw [← hb] at hby
     have Hld := hY hld
     have HN := hY hN
     have Hb := hY hb
     have Hlt := hY hlt
     have Hby := hY hby
     have HWS := hY hws
     clear hld hN hb hlt hby hws
     go_wp2_with ((with_reducible refine Lay.ldQ Tryz.tSeg s ((XB.out.frame CW.out).in) ?_ ?_); exact rfl)
     refine hY ?_
     go_wp2_with fail
     refine (Hby.out _ (RL.out.frame (CB.out.then CW.out))).mono ?_
     rintro e Wq ⟨rfl, hc⟩
     have CQ := hY (CW.out.then hc)
     clear hc
     have hws := HWS.out
     by_cases j0 : j = 0
     ·subst j0
      have hwd : wrap64 (((0 : Nat) : Int) - 1) = -1 := by decide +kernel
      go_wp2
      go_roundw
      case rel => exact ⟨.inr ⟨by first | rfl | exact congrArg (Value.int .i64) hwd, by first | exact congrArg (Value.int .u64) hws | rfl⟩, CQ.out⟩
      case measure => first | decide | (rw [hwd]; decide) | simp [intOf]
     ·obtain ⟨k, rfl⟩ : ∃ k, j = k + 1 := ⟨j - 1, by omega⟩
      have hwd : wrap64 (((k + 1 : Nat) : Int) - 1) = (k : Int) := by unfold wrap64; omega
      go_wp2
      go_roundw
      case rel => exact ⟨.inl ⟨k, by omega, by first | rfl | exact congrArg (Value.int .i64) hwd, by first | exact congrArg (Value.int .u64) hws | rfl⟩, CQ.out⟩
      case measure =>
       first
       | (rw [hwd]; exact (show ((k : Int) + 1).toNat < (((k + 1 : Nat) : Int) + 1).toNat by omega))
       | exact (show ((k : Int) + 1).toNat < (((k + 1 : Nat) : Int) + 1).toNat by omega)
    ·have CW := hY (hc)
     clear hc
     go_wp2
     go_ret2
     exact ⟨rfl, CB.out.then CW.out⟩
end Go.Proofs.YtiljokmkiolpgaaGreatDoor
