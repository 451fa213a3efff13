/- Lemmas, laid together: part 31 of 40. Conditions: none but each lemma's own. -/
import Derived.Test.YtkomocgodljecaaGreatDoorJ30
import Derived.Test.YtkomocgodljecaaGreatDoorJ17
import Derived.Test.YtkomocgodljecaaGreatDoorJ8
/- clevisref06.Writable. -/
namespace Go.Proofs.YtkomocgodljecaaGreatDoor
open Go.RowKit
set_option maxRecDepth 100000

theorem protS_eq (p : Int) : protS p = (p == 2 || (p == 3 || (p == 6 || p == 7))) := by
  unfold protS
  by_cases h : 0 ≤ p ∧ p ≤ 7
  · have : p = 0 ∨ p = 1 ∨ p = 2 ∨ p = 3 ∨ p = 4 ∨ p = 5 ∨ p = 6 ∨ p = 7 := by omega
    rcases this with rfl | rfl | rfl | rfl | rfl | rfl | rfl | rfl <;> decide
  · have h1 : (decide (0 ≤ p) && (decide (p ≤ 7) && (bits BinOp.and IntKind.i64 p 2 != 0))) = false := by
      by_cases h0 : 0 ≤ p
      · rw [decide_eq_false (show ¬ p ≤ 7 from fun h7 => h ⟨h0, h7⟩), Bool.false_and, Bool.and_false]
      · rw [decide_eq_false h0, Bool.false_and]
    rw [h1]
    symm
    simp only [Bool.or_eq_false_iff, beq_eq_false_iff_ne]
    omega
set_option maxHeartbeats 2000000 in
theorem rWritable_any (m : Img) (ls : List Seg) (hls : SegsB ls) (addr size : Int) (ha : addr < 18446744073709551616) (w : World) (rd : segL.Rd w m.segs.v ls) :
    Calls Tryz.prog 45 #[imgL.val m, .int .u64 addr, .int .u64 size] w fun e w' => e = .returned (.bool (writS ls addr size)) ∧ Chg [] w w' := by
  have HAT := Lib.hid (rAt_any m ls hls addr ha)
  obtain ⟨a, cap, hv, hc1, hc2⟩ := rd.shape
  have rd' := rd
  rw [hv] at rd'
  have RD := Lib.hid (rd)
  have RD2 := Lib.hid rd'
  have Hc2 := Lib.hid hc2
  clear rd' hc2
  clear hc1
  cases hat : atS ls addr with
  | none =>
    rw [show writS ls addr size = false by unfold writS; rw [hat]]
    rw [hat] at HAT
    unfold idxI at HAT
    clear hat hls ha rd hv
    go_enter Tryz.func45, Tryz.ntmps45
    go_wp2_with ((with_reducible refine Lay.bxL (L := imgL) 30 m ?_ ?_); exact rfl; intro W1 bm ebm cbm xbm; replace ebm := Lib.hid ebm; replace cbm := Lib.hid cbm; replace xbm := Lib.hid xbm; refine Hid.out ?_)
    refine Lib.hid ?_
    go_wp2_with ((with_reducible refine Lay.ldL Tryz.tImg m (xbm.out.in) ?_ ?_); exact rfl; refine Hid.out ?_)
    refine Lib.hid ?_
    go_wp2_with fail
    refine (HAT.out _ (RD.out.frame cbm.out)).mono ?_
    rintro e W2 ⟨rfl, hc⟩
    have C2 := Lib.hid (cbm.out.then hc)
    have X2 := Lib.hid (xbm.out.frame hc)
    clear hc
    go_wp2
    go_ret
    exact ⟨rfl, C2.out⟩
  | some k =>
    have hk := idx_lt hat
    have hin := idx_true Seg.zero hat
    have hb := hls k hk
    rw [hat] at HAT
    unfold idxI at HAT
    have hwr : writS ls addr size = (!(size == 0) && (protS (ls.getD k .zero).prot && decide (size ≤ (ls.getD k .zero).size - (addr - (ls.getD k .zero).addr)))) := by unfold writS; rw [hat]
    obtain ⟨b, off, rfl, _, hcell⟩ := RD2.out.at (by omega)
    have hI : segL.In w b (off + k * 7) (ls.getD k .zero) := hcell k hk
    generalize ls.getD k .zero = s at *
    unfold SlV.v at hv
    have dk : ¬ (k : Int) < 0 := by omega
    have hi1 : s.addr ≤ addr ∧ addr - s.addr < s.size := by
      unfold inS at hin
      simp only [Bool.and_eq_true, decide_eq_true_eq] at hin
      exact hin.2
    have hw1 : IntKind.u64.wrap (addr - s.addr) = addr - s.addr := by rw [IntKind.wrap_u64]; unfold SegB at hb; omega
    have hw2 : IntKind.u64.wrap (s.size - (addr - s.addr)) = s.size - (addr - s.addr) := by rw [IntKind.wrap_u64]; unfold SegB at hb; omega
    clear hcell hin hat hb hls ha hi1 rd
    have HI := Lib.hid hI
    clear hI
    rw [hwr, protS_eq]
    clear hwr
    cases z : (size == 0) with
    | true =>
      rw [Bool.not_true, Bool.false_and]
      go_enter Tryz.func45, Tryz.ntmps45
      go_wp2_with ((with_reducible refine Lay.bxL (L := imgL) 30 m ?_ ?_); exact rfl; intro W1 bm ebm cbm xbm; replace ebm := Lib.hid ebm; replace cbm := Lib.hid cbm; replace xbm := Lib.hid xbm; refine Hid.out ?_)
      refine Lib.hid ?_
      go_wp2_with ((with_reducible refine Lay.ldL Tryz.tImg m (xbm.out.in) ?_ ?_); exact rfl; refine Hid.out ?_)
      refine Lib.hid ?_
      go_wp2_with fail
      refine (HAT.out _ (RD.out.frame cbm.out)).mono ?_
      rintro e W2 ⟨rfl, hc⟩
      have C2 := Lib.hid (cbm.out.then hc)
      have X2 := Lib.hid (xbm.out.frame hc)
      clear hc
      go_wp2
      go_ret
      exact ⟨rfl, C2.out⟩
    | false =>
      rw [Bool.not_false, Bool.true_and]
      cases p2 : (s.prot == 2) with
      | true =>
        rw [Bool.true_or, Bool.true_and]
        go_enter Tryz.func45, Tryz.ntmps45
        go_wp2_with ((with_reducible refine Lay.bxL (L := imgL) 30 m ?_ ?_); exact rfl; intro W1 bm ebm cbm xbm; replace ebm := Lib.hid ebm; replace cbm := Lib.hid cbm; replace xbm := Lib.hid xbm; refine Hid.out ?_)
        refine Lib.hid ?_
        go_wp2_with ((with_reducible refine Lay.ldL Tryz.tImg m (xbm.out.in) ?_ ?_); exact rfl; refine Hid.out ?_)
        refine Lib.hid ?_
        go_wp2_with fail
        refine (HAT.out _ (RD.out.frame cbm.out)).mono ?_
        rintro e W2 ⟨rfl, hc⟩
        have C2 := Lib.hid (cbm.out.then hc)
        have X2 := Lib.hid (xbm.out.frame hc)
        clear hc
        have x4 := Img.c_segs X2.out
        rw [hv] at x4
        go_wp2_with ((with_reducible refine Lay.ldL Tryz.tSeg s ((HI.out.frame C2.out)) ?_ ?_); exact rfl; refine Hid.out ?_)
        refine Lib.hid ?_
        go_wp2_with ((with_reducible refine Lay.alL Tryz.tSeg ?_); intro W3 bs ebs cbs xbs; replace ebs := Lib.hid ebs; replace cbs := Lib.hid cbs; replace xbs := Lib.hid xbs; refine Hid.out ?_)
        refine Lib.hid ?_
        go_wp2_with ((with_reducible refine Lay.stL Tryz.tSeg s (xbs.out) ?_ ?_ ?_); exact rfl; exact rfl; intro W4 cW4 xW4; replace cW4 := Lib.hid cW4; replace xW4 := Lib.hid xW4; refine Hid.out ?_)
        refine Lib.hid ?_
        have C4 : Hid (Chg [] w W4) := Lib.hid (C2.out.then (cbs.out.new cW4.out (by rw [ebs.out]; exact Nat.le_refl _)))
        have x1 := Seg.c_addr xW4.out
        have x2 := Seg.c_size xW4.out
        have x5 := Seg.c_prot xW4.out
        clear x4
        go_wp2
        go_ret
        exact ⟨rfl, C4.out⟩
      | false =>
      cases p3 : (s.prot == 3) with
      | true =>
        rw [Bool.true_or, Bool.or_true, Bool.true_and]
        go_enter Tryz.func45, Tryz.ntmps45
        go_wp2_with ((with_reducible refine Lay.bxL (L := imgL) 30 m ?_ ?_); exact rfl; intro W1 bm ebm cbm xbm; replace ebm := Lib.hid ebm; replace cbm := Lib.hid cbm; replace xbm := Lib.hid xbm; refine Hid.out ?_)
        refine Lib.hid ?_
        go_wp2_with ((with_reducible refine Lay.ldL Tryz.tImg m (xbm.out.in) ?_ ?_); exact rfl; refine Hid.out ?_)
        refine Lib.hid ?_
        go_wp2_with fail
        refine (HAT.out _ (RD.out.frame cbm.out)).mono ?_
        rintro e W2 ⟨rfl, hc⟩
        have C2 := Lib.hid (cbm.out.then hc)
        have X2 := Lib.hid (xbm.out.frame hc)
        clear hc
        have x4 := Img.c_segs X2.out
        rw [hv] at x4
        go_wp2_with ((with_reducible refine Lay.ldL Tryz.tSeg s ((HI.out.frame C2.out)) ?_ ?_); exact rfl; refine Hid.out ?_)
        refine Lib.hid ?_
        go_wp2_with ((with_reducible refine Lay.alL Tryz.tSeg ?_); intro W3 bs ebs cbs xbs; replace ebs := Lib.hid ebs; replace cbs := Lib.hid cbs; replace xbs := Lib.hid xbs; refine Hid.out ?_)
        refine Lib.hid ?_
        go_wp2_with ((with_reducible refine Lay.stL Tryz.tSeg s (xbs.out) ?_ ?_ ?_); exact rfl; exact rfl; intro W4 cW4 xW4; replace cW4 := Lib.hid cW4; replace xW4 := Lib.hid xW4; refine Hid.out ?_)
        refine Lib.hid ?_
        have C4 : Hid (Chg [] w W4) := Lib.hid (C2.out.then (cbs.out.new cW4.out (by rw [ebs.out]; exact Nat.le_refl _)))
        have x1 := Seg.c_addr xW4.out
        have x2 := Seg.c_size xW4.out
        have x5 := Seg.c_prot xW4.out
        clear x4
        go_wp2
        go_ret
        exact ⟨rfl, C4.out⟩
      | false =>
      cases p6 : (s.prot == 6) with
      | true =>
        rw [Bool.true_or, Bool.or_true, Bool.or_true, Bool.true_and]
        go_enter Tryz.func45, Tryz.ntmps45
        go_wp2_with ((with_reducible refine Lay.bxL (L := imgL) 30 m ?_ ?_); exact rfl; intro W1 bm ebm cbm xbm; replace ebm := Lib.hid ebm; replace cbm := Lib.hid cbm; replace xbm := Lib.hid xbm; refine Hid.out ?_)
        refine Lib.hid ?_
        go_wp2_with ((with_reducible refine Lay.ldL Tryz.tImg m (xbm.out.in) ?_ ?_); exact rfl; refine Hid.out ?_)
        refine Lib.hid ?_
        go_wp2_with fail
        refine (HAT.out _ (RD.out.frame cbm.out)).mono ?_
        rintro e W2 ⟨rfl, hc⟩
        have C2 := Lib.hid (cbm.out.then hc)
        have X2 := Lib.hid (xbm.out.frame hc)
        clear hc
        have x4 := Img.c_segs X2.out
        rw [hv] at x4
        go_wp2_with ((with_reducible refine Lay.ldL Tryz.tSeg s ((HI.out.frame C2.out)) ?_ ?_); exact rfl; refine Hid.out ?_)
        refine Lib.hid ?_
        go_wp2_with ((with_reducible refine Lay.alL Tryz.tSeg ?_); intro W3 bs ebs cbs xbs; replace ebs := Lib.hid ebs; replace cbs := Lib.hid cbs; replace xbs := Lib.hid xbs; refine Hid.out ?_)
        refine Lib.hid ?_
        go_wp2_with ((with_reducible refine Lay.stL Tryz.tSeg s (xbs.out) ?_ ?_ ?_); exact rfl; exact rfl; intro W4 cW4 xW4; replace cW4 := Lib.hid cW4; replace xW4 := Lib.hid xW4; refine Hid.out ?_)
        refine Lib.hid ?_
        have C4 : Hid (Chg [] w W4) := Lib.hid (C2.out.then (cbs.out.new cW4.out (by rw [ebs.out]; exact Nat.le_refl _)))
        have x1 := Seg.c_addr xW4.out
        have x2 := Seg.c_size xW4.out
        have x5 := Seg.c_prot xW4.out
        clear x4
        go_wp2
        go_ret
        exact ⟨rfl, C4.out⟩
      | false =>
      cases p7 : (s.prot == 7) with
      | true =>
        rw [Bool.or_true, Bool.or_true, Bool.or_true, Bool.true_and]
        go_enter Tryz.func45, Tryz.ntmps45
        go_wp2_with ((with_reducible refine Lay.bxL (L := imgL) 30 m ?_ ?_); exact rfl; intro W1 bm ebm cbm xbm; replace ebm := Lib.hid ebm; replace cbm := Lib.hid cbm; replace xbm := Lib.hid xbm; refine Hid.out ?_)
        refine Lib.hid ?_
        go_wp2_with ((with_reducible refine Lay.ldL Tryz.tImg m (xbm.out.in) ?_ ?_); exact rfl; refine Hid.out ?_)
        refine Lib.hid ?_
        go_wp2_with fail
        refine (HAT.out _ (RD.out.frame cbm.out)).mono ?_
        rintro e W2 ⟨rfl, hc⟩
        have C2 := Lib.hid (cbm.out.then hc)
        have X2 := Lib.hid (xbm.out.frame hc)
        clear hc
        have x4 := Img.c_segs X2.out
        rw [hv] at x4
        go_wp2_with ((with_reducible refine Lay.ldL Tryz.tSeg s ((HI.out.frame C2.out)) ?_ ?_); exact rfl; refine Hid.out ?_)
        refine Lib.hid ?_
        go_wp2_with ((with_reducible refine Lay.alL Tryz.tSeg ?_); intro W3 bs ebs cbs xbs; replace ebs := Lib.hid ebs; replace cbs := Lib.hid cbs; replace xbs := Lib.hid xbs; refine Hid.out ?_)
        refine Lib.hid ?_
        go_wp2_with ((with_reducible refine Lay.stL Tryz.tSeg s (xbs.out) ?_ ?_ ?_); exact rfl; exact rfl; intro W4 cW4 xW4; replace cW4 := Lib.hid cW4; replace xW4 := Lib.hid xW4; refine Hid.out ?_)
        refine Lib.hid ?_
        have C4 : Hid (Chg [] w W4) := Lib.hid (C2.out.then (cbs.out.new cW4.out (by rw [ebs.out]; exact Nat.le_refl _)))
        have x1 := Seg.c_addr xW4.out
        have x2 := Seg.c_size xW4.out
        have x5 := Seg.c_prot xW4.out
        clear x4
        go_wp2
        go_ret
        exact ⟨rfl, C4.out⟩
      | false =>
        rw [Bool.or_false, Bool.or_false, Bool.or_false, Bool.false_and]
        go_enter Tryz.func45, Tryz.ntmps45
        go_wp2_with ((with_reducible refine Lay.bxL (L := imgL) 30 m ?_ ?_); exact rfl; intro W1 bm ebm cbm xbm; replace ebm := Lib.hid ebm; replace cbm := Lib.hid cbm; replace xbm := Lib.hid xbm; refine Hid.out ?_)
        refine Lib.hid ?_
        go_wp2_with ((with_reducible refine Lay.ldL Tryz.tImg m (xbm.out.in) ?_ ?_); exact rfl; refine Hid.out ?_)
        refine Lib.hid ?_
        go_wp2_with fail
        refine (HAT.out _ (RD.out.frame cbm.out)).mono ?_
        rintro e W2 ⟨rfl, hc⟩
        have C2 := Lib.hid (cbm.out.then hc)
        have X2 := Lib.hid (xbm.out.frame hc)
        clear hc
        have x4 := Img.c_segs X2.out
        rw [hv] at x4
        go_wp2_with ((with_reducible refine Lay.ldL Tryz.tSeg s ((HI.out.frame C2.out)) ?_ ?_); exact rfl; refine Hid.out ?_)
        refine Lib.hid ?_
        go_wp2_with ((with_reducible refine Lay.alL Tryz.tSeg ?_); intro W3 bs ebs cbs xbs; replace ebs := Lib.hid ebs; replace cbs := Lib.hid cbs; replace xbs := Lib.hid xbs; refine Hid.out ?_)
        refine Lib.hid ?_
        go_wp2_with ((with_reducible refine Lay.stL Tryz.tSeg s (xbs.out) ?_ ?_ ?_); exact rfl; exact rfl; intro W4 cW4 xW4; replace cW4 := Lib.hid cW4; replace xW4 := Lib.hid xW4; refine Hid.out ?_)
        refine Lib.hid ?_
        have C4 : Hid (Chg [] w W4) := Lib.hid (C2.out.then (cbs.out.new cW4.out (by rw [ebs.out]; exact Nat.le_refl _)))
        have x1 := Seg.c_addr xW4.out
        have x2 := Seg.c_size xW4.out
        have x5 := Seg.c_prot xW4.out
        clear x4
        go_wp2
        go_ret
        exact ⟨rfl, C4.out⟩
end Go.Proofs.YtkomocgodljecaaGreatDoor
/- clevisref12.Meet. -/
namespace Go.Proofs.YtkomocgodljecaaGreatDoor
open Go.RowKit
set_option maxRecDepth 100000

def pairM (a b : Fx) : Bool := decide (a ≠ b) && apart8 a b
theorem apart8_comm (a b : Fx) : apart8 a b = apart8 b a := by
  unfold apart8
  by_cases h : a.at_ < b.at_
  · rw [if_pos h, if_neg (by omega)]
  · by_cases h2 : b.at_ < a.at_
    · rw [if_neg h, if_pos h2]
    · rw [if_neg h, if_neg h2]
      have : a.at_ = b.at_ := by omega
      rw [this]
theorem pairM_comm (a b : Fx) : pairM a b = pairM b a := by
  unfold pairM
  rw [apart8_comm a b]
  congr 1
  exact decide_eq_decide.2 ⟨Ne.symm, Ne.symm⟩
theorem pairM_self (a : Fx) : pairM a a = false := by simp [pairM]
theorem meet_at (ls : List Fx) : meetF ls = true ↔ ∃ i k, k < i ∧ i < ls.length ∧ pairM (ls.getD i .zero) (ls.getD k .zero) = true := by
  have g : ∀ i, i < ls.length → ls.getD i .zero ∈ ls := fun i hi => by
    rw [List.getD_eq_getElem?_getD, List.getElem?_eq_getElem hi]; exact List.getElem_mem hi
  unfold meetF
  rw [List.any_eq_true]
  constructor
  · rintro ⟨a, ha, h⟩
    rw [List.any_eq_true] at h
    obtain ⟨b, hb, h⟩ := h
    obtain ⟨i, hi, rfl⟩ := List.getElem_of_mem ha
    obtain ⟨k, hk, rfl⟩ := List.getElem_of_mem hb
    have h2 : pairM (ls.getD i .zero) (ls.getD k .zero) = true := by
      simpa [List.getD_eq_getElem?_getD, hi, hk, pairM] using h
    rcases Nat.lt_trichotomy i k with e | e | e
    · exact ⟨k, i, e, hk, by rw [pairM_comm]; exact h2⟩
    · subst e; rw [pairM_self] at h2; cases h2
    · exact ⟨i, k, e, hi, h2⟩
  · rintro ⟨i, k, hki, hi, h⟩
    refine ⟨_, g i hi, ?_⟩
    rw [List.any_eq_true]
    exact ⟨_, g k (by omega), h⟩
set_option maxHeartbeats 8000000 in
theorem RMeet_any (ls : List Fx) (v : Value) (w : World) (rd : FxRd w v ls) (hr : ∀ f ∈ ls, 0 ≤ f.at_ ∧ f.at_ < 18446744073709551616) :
    Calls Tryz.prog 43 #[v] w fun e w' => e = .returned (.bool (meetF ls)) ∧ Chg [] w w' := by
  have HRG : Hid (∀ j, j < ls.length → 0 ≤ (ls.getD j .zero).at_ ∧ (ls.getD j .zero).at_ < 18446744073709551616) := by
    refine Lib.hid ?_
    intro j hj
    refine hr _ ?_
    rw [List.getD_eq_getElem?_getD, List.getElem?_eq_getElem hj]
    exact List.getElem_mem hj
  obtain ⟨a, n, cap, rfl, rfl, hc1, hc2, hx⟩ := rd
  unfold maxLen at hc2
  have Hx := Lib.hid hx
  clear hx
  clear hr
  go_enter Tryz.func43, Tryz.ntmps43
  go_wp2_with fail
  go_loopw [3] (fun s3 wr => ∃ i : Nat, i ≤ ls.length ∧ s3 = .int .i64 (i : Int) ∧ (∀ i', i' < i → ∀ k, k < i' → pairM (ls.getD i' .zero) (ls.getD k .zero) = false) ∧ Chg [] w wr) (fun s3 _ => ls.length - (intOf s3).toNat)
  case atStart => exact ⟨0, Nat.zero_le _, rfl, fun _ h => absurd h (Nat.not_lt_zero _), Chg.refl _ _⟩
  case round =>
    obtain ⟨i, hi, rfl, hno, hch⟩ := hrel
    obtain ⟨wo, rfl⟩ : ∃ q, q = wr := ⟨_, rfl⟩
    have Hno := Lib.hid hno
    have Hch := Lib.hid hch
    clear hno hch
    by_cases hlt : i < ls.length
    · obtain ⟨b, off, rfl, _, hcell⟩ := Hx.out (by rintro rfl; simp at hlt)
      have Hcell := Lib.hid hcell
      clear hcell
      go_wp2_with fail
      go_loopw [4] (fun s4 wr => ∃ k : Nat, k ≤ i ∧ s4 = .int .i64 (k : Int) ∧ (∀ j, j < k → pairM (ls.getD i .zero) (ls.getD j .zero) = false) ∧ Chg [] wo wr) (fun s4 _ => i - (intOf s4).toNat)
      case atStart => exact ⟨0, Nat.zero_le _, rfl, fun _ h => absurd h (Nat.not_lt_zero _), Chg.refl _ _⟩
      case round =>
        obtain ⟨k, hk, rfl, hnk, hcq⟩ := hrel
        have Hnk := Lib.hid hnk
        have Hcq := Lib.hid hcq
        clear hnk hcq
        by_cases hki : k < i
        · obtain ⟨x0, x1, x2, x3, x4, x5, x6⟩ := FxRd.at (Hcell.out i hlt)
          obtain ⟨y0, y1, y2, y3, y4, y5, y6⟩ := FxRd.at (Hcell.out k (by omega))
          obtain ⟨f, hf⟩ : ∃ f, f = ls.getD i .zero := ⟨_, rfl⟩
          obtain ⟨h, hg⟩ : ∃ g, g = ls.getD k .zero := ⟨_, rfl⟩
          have r1 := HRG.out i hlt
          have r2 := HRG.out k (by omega)
          rw [← hf] at x0 x1 x2 x3 x4 x5 x6 r1
          rw [← hg] at y0 y1 y2 y3 y4 y5 y6 r2
          have cq := Hch.out.then Hcq.out
          replace x0 := cq.cell x0 (by simp)
          replace x1 := cq.cell x1 (by simp)
          replace x2 := cq.cell x2 (by simp)
          replace x3 := cq.cell x3 (by simp)
          replace x4 := cq.cell x4 (by simp)
          replace x5 := cq.cell x5 (by simp)
          replace x6 := cq.cell x6 (by simp)
          replace y0 := cq.cell y0 (by simp)
          replace y1 := cq.cell y1 (by simp)
          replace y2 := cq.cell y2 (by simp)
          replace y3 := cq.cell y3 (by simp)
          replace y4 := cq.cell y4 (by simp)
          replace y5 := cq.cell y5 (by simp)
          replace y6 := cq.cell y6 (by simp)
          clear cq
          have Hf := Lib.hid hf
          have Hg := Lib.hid hg
          clear hf hg
          have q := fx_neq f h
          by_cases hgt : h.at_ < f.at_
          · have dg : decide (h.at_ < f.at_) = true := by simpa using hgt
            have hw : IntKind.u64.wrap (f.at_ - h.at_) = f.at_ - h.at_ := by rw [IntKind.wrap_u64]; omega
            go_wp2_with fail
            go_quiet (fail)
            go_wp2
            cases hq : decide (f = h) with
            | true =>
              rw [hq] at q
              have HP : Hid (pairM f h = false) := Lib.hid (by unfold pairM; rw [decide_eq_true_eq] at hq; simp [hq])
              clear hq
              go_quiet (fail)
              go_wp2
              go_roundw
              case rel =>
                refine ⟨k + 1, by omega, by go_num, fun j hj => ?_, Hcq.out.drewN _⟩
                by_cases e : j = k
                · subst e; rw [← Hf.out, ← Hg.out]; exact HP.out
                · exact Hnk.out j (by omega)
              case measure => simp [intOf]; omega
            | false =>
              rw [hq] at q
              cases h8 : decide (f.at_ - h.at_ < 8) with
              | true =>
                have HP : Hid (meetF ls = true) := by
                  refine Lib.hid ?_
                  refine (meet_at ls).2 ⟨i, k, hki, hlt, ?_⟩
                  rw [← Hf.out, ← Hg.out]
                  unfold pairM
                  rw [decide_eq_true_eq] at h8
                  rw [decide_eq_false_iff_not] at hq
                  rw [Bool.and_eq_true]
                  exact ⟨by simpa using hq, by unfold apart8; rw [decide_eq_true_eq]; split <;> omega⟩
                clear hq
                go_quiet (fail)
                go_wp2
                go_ret
                exact ⟨by rw [HP.out]; rfl, Hch.out.then ((Hcq.out.drewN _).drewN _)⟩
              | false =>
                have HP : Hid (pairM f h = false) := by
                  refine Lib.hid ?_
                  unfold pairM
                  rw [decide_eq_false_iff_not] at h8
                  rw [Bool.and_eq_false_iff]
                  refine .inr ?_
                  unfold apart8; rw [decide_eq_false_iff_not]; split <;> omega
                clear hq
                go_quiet (fail)
                go_wp2
                go_roundw
                case rel =>
                  refine ⟨k + 1, by omega, by go_num, fun j hj => ?_, Hcq.out.drewN _⟩
                  by_cases e : j = k
                  · subst e; rw [← Hf.out, ← Hg.out]; exact HP.out
                  · exact Hnk.out j (by omega)
                case measure => simp [intOf]; omega
          · have dg : decide (h.at_ < f.at_) = false := by simpa using hgt
            have hw : IntKind.u64.wrap (h.at_ - f.at_) = h.at_ - f.at_ := by rw [IntKind.wrap_u64]; omega
            go_wp2_with fail
            go_quiet (fail)
            go_wp2
            cases hq : decide (f = h) with
            | true =>
              rw [hq] at q
              have HP : Hid (pairM f h = false) := Lib.hid (by unfold pairM; rw [decide_eq_true_eq] at hq; simp [hq])
              clear hq
              go_quiet (fail)
              go_wp2
              go_roundw
              case rel =>
                refine ⟨k + 1, by omega, by go_num, fun j hj => ?_, Hcq.out.drewN _⟩
                by_cases e : j = k
                · subst e; rw [← Hf.out, ← Hg.out]; exact HP.out
                · exact Hnk.out j (by omega)
              case measure => simp [intOf]; omega
            | false =>
              rw [hq] at q
              cases h8 : decide (h.at_ - f.at_ < 8) with
              | true =>
                have HP : Hid (meetF ls = true) := by
                  refine Lib.hid ?_
                  refine (meet_at ls).2 ⟨i, k, hki, hlt, ?_⟩
                  rw [← Hf.out, ← Hg.out]
                  unfold pairM
                  rw [decide_eq_true_eq] at h8
                  rw [decide_eq_false_iff_not] at hq
                  rw [Bool.and_eq_true]
                  exact ⟨by simpa using hq, by unfold apart8; rw [decide_eq_true_eq]; split <;> omega⟩
                clear hq
                go_quiet (fail)
                go_wp2
                go_ret
                exact ⟨by rw [HP.out]; rfl, Hch.out.then ((Hcq.out.drewN _).drewN _)⟩
              | false =>
                have HP : Hid (pairM f h = false) := by
                  refine Lib.hid ?_
                  unfold pairM
                  rw [decide_eq_false_iff_not] at h8
                  rw [Bool.and_eq_false_iff]
                  refine .inr ?_
                  unfold apart8; rw [decide_eq_false_iff_not]; split <;> omega
                clear hq
                go_quiet (fail)
                go_wp2
                go_roundw
                case rel =>
                  refine ⟨k + 1, by omega, by go_num, fun j hj => ?_, Hcq.out.drewN _⟩
                  by_cases e : j = k
                  · subst e; rw [← Hf.out, ← Hg.out]; exact HP.out
                  · exact Hnk.out j (by omega)
                case measure => simp [intOf]; omega
        · obtain rfl : k = i := by omega
          go_wp2_with fail
          go_roundw
          case rel =>
            refine ⟨k + 1, hlt, by go_num, fun j hj => ?_, Hch.out.then Hcq.out⟩
            by_cases e : j = k
            · subst e; exact Hnk.out
            · exact Hno.out j (by omega)
          case measure => simp [intOf]; omega
    · have HF : Hid (meetF ls = false) := by
        refine Lib.hid ?_
        cases e : meetF ls with
        | false => rfl
        | true =>
          obtain ⟨j, k, h1, h2, h3⟩ := (meet_at ls).1 e
          rw [Hno.out j (by omega) k h1] at h3
          cases h3
      go_wp2
      go_ret
      exact ⟨by rw [HF.out]; rfl, Hch.out⟩
end Go.Proofs.YtkomocgodljecaaGreatDoor
