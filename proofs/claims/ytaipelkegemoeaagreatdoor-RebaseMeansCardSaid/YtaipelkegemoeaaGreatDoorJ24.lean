/- Lemmas, laid together: part 24 of 46. Conditions: none but each lemma's own. -/
import Derived.Test.YtaipelkegemoeaaGreatDoorJ4
import Derived.Test.YtaipelkegemoeaaGreatDoorJ8
import Derived.Lib.Strings
import Derived.Laws.CopyRow
/- image.Place and image.Writable. -/
namespace Go.Proofs.YtaipelkegemoeaaGreatDoor
open Go.RowKit
set_option maxRecDepth 100000

/-- The address of a place, or why there is none. -/
def placeS (ls : List Seg) (k o : Int) : Int × Int :=
  if k < ls.length then
    if holeS (ls.getD k.toNat .zero) then (0, 8) else if (ls.getD k.toNat .zero).size ≤ o then (0, 4) else (IntKind.u64.wrap ((ls.getD k.toNat .zero).addr + o), 0)
  else (0, 8)
set_option maxHeartbeats 1000000 in
theorem Place_any (m : Img) (ls : List Seg) (k : Int) (hk : 0 ≤ k) (o : Int) (w : World) (rd : segL.Rd w m.segs.v ls) :
    Calls Tryz.prog 49 #[imgL.val m, .int .u64 k, .int .u64 o] w fun e w' => e = .returned (.tuple #[.int .u64 (placeS ls k o).1, .int .i64 (placeS ls k o).2]) ∧ Chg [] w w' := by
  obtain ⟨a, cap, hv, hc1, hc2⟩ := rd.shape
  have hwl : IntKind.u64.wrap (ls.length : Int) = (ls.length : Int) := by rw [IntKind.wrap_u64]; omega
  have rd' := rd
  rw [hv] at rd'
  unfold SlV.v at hv
  have RD := Lib.hid rd'
  have Hc2 := Lib.hid hc2
  clear rd' hc2
  clear rd hc1
  by_cases h1 : k < ls.length
  · obtain ⟨K, rfl⟩ : ∃ K : Nat, k = K := ⟨k.toNat, by omega⟩
    have hK : K < ls.length := by omega
    have d1 : decide (ls.length ≤ K) = false := by simp; omega
    obtain ⟨b, off, rfl, _, hcell⟩ := RD.out.at (by omega)
    have hI : segL.In w b (off + K * 7) (ls.getD K .zero) := hcell K hK
    have HH := Lib.hid (hole_any (ls.getD K .zero))
    have hp : placeS ls K o = if holeS (ls.getD K .zero) then (0, 8) else if (ls.getD K .zero).size ≤ o then (0, 4) else (IntKind.u64.wrap ((ls.getD K .zero).addr + o), 0) := by
      unfold placeS
      rw [if_pos h1, Int.toNat_natCast]
    generalize ls.getD K .zero = s at *
    clear hcell
    have HI := Lib.hid hI
    clear hI
    cases hh : holeS s with
    | true =>
      rw [hh] at HH hp
      rw [show placeS ls K o = (0, 8) by rw [hp]; rfl]
      clear hp hh
      go_enter Tryz.func49, Tryz.ntmps49
      go_wp2_with ((with_reducible refine Lay.bxL (L := imgL) 32 m ?_ ?_); exact rfl; intro W1 bm ebm cbm xbm; replace ebm := Lib.hid ebm; replace cbm := Lib.hid cbm; replace xbm := Lib.hid xbm; refine Hid.out ?_)
      refine Lib.hid ?_
      have x4 := Img.c_segs xbm.out
      rw [hv] at x4
      go_wp2_with ((with_reducible refine Lay.ldG2 Tryz.tSeg s ((HI.out.frame cbm.out)) ?_ ?_ ?_); exact rfl; exact rfl; refine Hid.out ?_)
      refine Lib.hid ?_
      go_wp2_with fail
      refine (HH.out _).mono ?_
      rintro e w' ⟨rfl, hc⟩
      have Hc := Lib.hid hc
      clear hc
      go_wp2
      go_ret2
      exact ⟨rfl, cbm.out.then Hc.out⟩
    | false =>
      rw [hh, if_neg (by simp)] at hp
      rw [hh] at HH
      by_cases h2 : s.size ≤ o
      · have d2 : decide (s.size ≤ o) = true := by simpa using h2
        rw [if_pos h2] at hp
        rw [hp]
        clear hp hh h2
        go_enter Tryz.func49, Tryz.ntmps49
        go_wp2_with ((with_reducible refine Lay.bxL (L := imgL) 32 m ?_ ?_); exact rfl; intro W1 bm ebm cbm xbm; replace ebm := Lib.hid ebm; replace cbm := Lib.hid cbm; replace xbm := Lib.hid xbm; refine Hid.out ?_)
        refine Lib.hid ?_
        have x4 := Img.c_segs xbm.out
        rw [hv] at x4
        go_wp2_with ((with_reducible refine Lay.ldG2 Tryz.tSeg s ((HI.out.frame cbm.out)) ?_ ?_ ?_); exact rfl; exact rfl; refine Hid.out ?_)
        refine Lib.hid ?_
        go_wp2_with fail
        refine (HH.out _).mono ?_
        rintro e W2 ⟨rfl, hc⟩
        have C2 := Lib.hid (cbm.out.then hc)
        have X2 := Lib.hid (xbm.out.frame hc)
        clear hc x4
        have x4 := Img.c_segs X2.out
        rw [hv] at x4
        go_wp2_with ((with_reducible refine Lay.ldL Tryz.tSeg s ((HI.out.frame C2.out)) ?_ ?_); exact rfl; refine Hid.out ?_)
        refine Lib.hid ?_
        go_wp2_with ((with_reducible refine Lay.alL Tryz.tSeg ?_); intro W3 bs ebs cbs xbs; replace ebs := Lib.hid ebs; replace cbs := Lib.hid cbs; replace xbs := Lib.hid xbs; refine Hid.out ?_)
        refine Lib.hid ?_
        go_wp2_with ((with_reducible refine Lay.stL Tryz.tSeg s (xbs.out) ?_ ?_ ?_); exact rfl; exact rfl; intro W4 cW4 xW4; replace cW4 := Lib.hid cW4; replace xW4 := Lib.hid xW4; refine Hid.out ?_)
        refine Lib.hid ?_
        have C4 : Hid (Chg [] w W4) := Lib.hid (C2.out.then (cbs.out.new cW4.out (by rw [ebs.out]; exact Nat.le_refl _)))
        have x2 := Seg.c_size xW4.out
        clear x4
        go_wp2
        go_ret2
        exact ⟨rfl, C4.out⟩
      · have d2 : decide (s.size ≤ o) = false := by simpa using h2
        rw [if_neg h2] at hp
        rw [hp]
        clear hp hh h2
        go_enter Tryz.func49, Tryz.ntmps49
        go_wp2_with ((with_reducible refine Lay.bxL (L := imgL) 32 m ?_ ?_); exact rfl; intro W1 bm ebm cbm xbm; replace ebm := Lib.hid ebm; replace cbm := Lib.hid cbm; replace xbm := Lib.hid xbm; refine Hid.out ?_)
        refine Lib.hid ?_
        have x4 := Img.c_segs xbm.out
        rw [hv] at x4
        go_wp2_with ((with_reducible refine Lay.ldG2 Tryz.tSeg s ((HI.out.frame cbm.out)) ?_ ?_ ?_); exact rfl; exact rfl; refine Hid.out ?_)
        refine Lib.hid ?_
        go_wp2_with fail
        refine (HH.out _).mono ?_
        rintro e W2 ⟨rfl, hc⟩
        have C2 := Lib.hid (cbm.out.then hc)
        have X2 := Lib.hid (xbm.out.frame hc)
        clear hc x4
        have x4 := Img.c_segs X2.out
        rw [hv] at x4
        go_wp2_with ((with_reducible refine Lay.ldL Tryz.tSeg s ((HI.out.frame C2.out)) ?_ ?_); exact rfl; refine Hid.out ?_)
        refine Lib.hid ?_
        go_wp2_with ((with_reducible refine Lay.alL Tryz.tSeg ?_); intro W3 bs ebs cbs xbs; replace ebs := Lib.hid ebs; replace cbs := Lib.hid cbs; replace xbs := Lib.hid xbs; refine Hid.out ?_)
        refine Lib.hid ?_
        go_wp2_with ((with_reducible refine Lay.stL Tryz.tSeg s (xbs.out) ?_ ?_ ?_); exact rfl; exact rfl; intro W4 cW4 xW4; replace cW4 := Lib.hid cW4; replace xW4 := Lib.hid xW4; refine Hid.out ?_)
        refine Lib.hid ?_
        have C4 : Hid (Chg [] w W4) := Lib.hid (C2.out.then (cbs.out.new cW4.out (by rw [ebs.out]; exact Nat.le_refl _)))
        have x2 := Seg.c_size xW4.out
        clear x4
        have x1 := Seg.c_addr xW4.out
        go_wp2
        go_ret2
        exact ⟨rfl, C4.out⟩
  · have d1 : decide ((ls.length : Int) ≤ k) = true := by simp; omega
    rw [show placeS ls k o = (0, 8) by unfold placeS; rw [if_neg h1]]
    go_enter Tryz.func49, Tryz.ntmps49
    go_wp2_with ((with_reducible refine Lay.bxL (L := imgL) 32 m ?_ ?_); exact rfl; intro W1 bm ebm cbm xbm; replace ebm := Lib.hid ebm; replace cbm := Lib.hid cbm; replace xbm := Lib.hid xbm; refine Hid.out ?_)
    refine Lib.hid ?_
    have x4 := Img.c_segs xbm.out
    rw [hv] at x4
    go_wp2
    go_ret2
    exact ⟨rfl, cbm.out⟩
end Go.Proofs.YtaipelkegemoeaaGreatDoor
/- image.Writable. -/
namespace Go.Proofs.YtaipelkegemoeaaGreatDoor
open Go.RowKit
set_option maxRecDepth 100000

theorem idx_true {α : Type} {p : α → Bool} (d : α) : ∀ {l : List α} {k : Nat}, idx p l = some k → p (l.getD k d) = true
  | [], _, h => by cases h
  | x :: r, k, h => by
    unfold idx at h
    split at h
    · cases h; simpa
    · cases hi : idx p r with
      | none => rw [hi] at h; cases h
      | some m =>
        rw [hi] at h
        cases h
        simpa using idx_true d hi
/-- May so many bytes be written there? -/
def protS (p : Int) : Bool := decide (0 ≤ p) && (decide (p ≤ 7) && (bits BinOp.and IntKind.i64 p 2 != 0))
def writS (ls : List Seg) (addr size : Int) : Bool := match atS ls addr with
  | none => false
  | some k => !(size == 0) && (protS (ls.getD k .zero).prot && decide (size ≤ (ls.getD k .zero).size - (addr - (ls.getD k .zero).addr)))
set_option maxHeartbeats 1000000 in
theorem Writable_any (m : Img) (ls : List Seg) (hls : SegsB ls) (addr size : Int) (ha : addr < 18446744073709551616) (w : World) (rd : segL.Rd w m.segs.v ls) :
    Calls Tryz.prog 17 #[imgL.val m, .int .u64 addr, .int .u64 size] w fun e w' => e = .returned (.bool (writS ls addr size)) ∧ Chg [] w w' := by
  have HAT := Lib.hid (At_img m ls hls addr ha)
  obtain ⟨a, cap, hv, hc1, hc2⟩ := rd.shape
  have rd' := rd
  rw [hv] at rd'
  have RD := Lib.hid (rd)
  have RD2 := Lib.hid rd'
  have Hc2 := Lib.hid hc2
  clear rd' hc2
  clear hc1
  cases hat : atS ls addr with
  | none =>
    rw [show writS ls addr size = false by unfold writS; rw [hat]]
    rw [hat] at HAT
    unfold idxI at HAT
    clear hat hls ha rd hv
    go_enter Tryz.func17, Tryz.ntmps17
    go_wp2_with ((with_reducible refine Lay.bxL (L := imgL) 32 m ?_ ?_); exact rfl; intro W1 bm ebm cbm xbm; replace ebm := Lib.hid ebm; replace cbm := Lib.hid cbm; replace xbm := Lib.hid xbm; refine Hid.out ?_)
    refine Lib.hid ?_
    go_wp2_with ((with_reducible refine Lay.ldL Tryz.tImg m (xbm.out.in) ?_ ?_); exact rfl; refine Hid.out ?_)
    refine Lib.hid ?_
    go_wp2_with fail
    refine (HAT.out _ (RD.out.frame cbm.out)).mono ?_
    rintro e W2 ⟨rfl, hc⟩
    have C2 := Lib.hid (cbm.out.then hc)
    have X2 := Lib.hid (xbm.out.frame hc)
    clear hc
    go_wp2
    go_ret
    exact ⟨rfl, C2.out⟩
  | some k =>
    have hk := idx_lt hat
    have hin := idx_true Seg.zero hat
    have hb := hls k hk
    rw [hat] at HAT
    unfold idxI at HAT
    have hwr : writS ls addr size = (!(size == 0) && (protS (ls.getD k .zero).prot && decide (size ≤ (ls.getD k .zero).size - (addr - (ls.getD k .zero).addr)))) := by unfold writS; rw [hat]
    obtain ⟨b, off, rfl, _, hcell⟩ := RD2.out.at (by omega)
    have hI : segL.In w b (off + k * 7) (ls.getD k .zero) := hcell k hk
    generalize ls.getD k .zero = s at *
    unfold SlV.v at hv
    have dk : ¬ (k : Int) < 0 := by omega
    have hi1 : s.addr ≤ addr ∧ addr - s.addr < s.size := by
      unfold inS at hin
      simp only [Bool.and_eq_true, decide_eq_true_eq] at hin
      exact hin.2
    have hw1 : IntKind.u64.wrap (addr - s.addr) = addr - s.addr := by rw [IntKind.wrap_u64]; unfold SegB at hb; omega
    have hw2 : IntKind.u64.wrap (s.size - (addr - s.addr)) = s.size - (addr - s.addr) := by rw [IntKind.wrap_u64]; unfold SegB at hb; omega
    clear hcell hin hat hb hls ha hi1 rd
    have HI := Lib.hid hI
    clear hI
    rw [hwr]
    clear hwr
    cases z : (size == 0) with
    | true =>
      rw [show (!true && (protS s.prot && decide (size ≤ s.size - (addr - s.addr)))) = false from rfl]
      go_enter Tryz.func17, Tryz.ntmps17
      go_wp2_with ((with_reducible refine Lay.bxL (L := imgL) 32 m ?_ ?_); exact rfl; intro W1 bm ebm cbm xbm; replace ebm := Lib.hid ebm; replace cbm := Lib.hid cbm; replace xbm := Lib.hid xbm; refine Hid.out ?_)
      refine Lib.hid ?_
      go_wp2_with ((with_reducible refine Lay.ldL Tryz.tImg m (xbm.out.in) ?_ ?_); exact rfl; refine Hid.out ?_)
      refine Lib.hid ?_
      go_wp2_with fail
      refine (HAT.out _ (RD.out.frame cbm.out)).mono ?_
      rintro e W2 ⟨rfl, hc⟩
      have C2 := Lib.hid (cbm.out.then hc)
      have X2 := Lib.hid (xbm.out.frame hc)
      clear hc
      go_wp2
      go_ret
      exact ⟨rfl, C2.out⟩
    | false =>
      unfold protS
      by_cases p0 : 0 ≤ s.prot
      · have q0 : decide (0 ≤ s.prot) = true := by simpa using p0
        by_cases p7 : s.prot ≤ 7
        · have q7 : decide (s.prot ≤ 7) = true := by simpa using p7
          cases zb : (bits BinOp.and IntKind.i64 s.prot 2 != 0) with
          | true =>
            rw [q0, q7]
            simp only [Bool.not_false, Bool.true_and]
            clear p0 p7
            go_enter Tryz.func17, Tryz.ntmps17
            go_wp2_with ((with_reducible refine Lay.bxL (L := imgL) 32 m ?_ ?_); exact rfl; intro W1 bm ebm cbm xbm; replace ebm := Lib.hid ebm; replace cbm := Lib.hid cbm; replace xbm := Lib.hid xbm; refine Hid.out ?_)
            refine Lib.hid ?_
            go_wp2_with ((with_reducible refine Lay.ldL Tryz.tImg m (xbm.out.in) ?_ ?_); exact rfl; refine Hid.out ?_)
            refine Lib.hid ?_
            go_wp2_with fail
            refine (HAT.out _ (RD.out.frame cbm.out)).mono ?_
            rintro e W2 ⟨rfl, hc⟩
            have C2 := Lib.hid (cbm.out.then hc)
            have X2 := Lib.hid (xbm.out.frame hc)
            clear hc
            have x4 := Img.c_segs X2.out
            rw [hv] at x4
            go_wp2_with ((with_reducible refine Lay.ldL Tryz.tSeg s ((HI.out.frame C2.out)) ?_ ?_); exact rfl; refine Hid.out ?_)
            refine Lib.hid ?_
            go_wp2_with ((with_reducible refine Lay.alL Tryz.tSeg ?_); intro W3 bs ebs cbs xbs; replace ebs := Lib.hid ebs; replace cbs := Lib.hid cbs; replace xbs := Lib.hid xbs; refine Hid.out ?_)
            refine Lib.hid ?_
            go_wp2_with ((with_reducible refine Lay.stL Tryz.tSeg s (xbs.out) ?_ ?_ ?_); exact rfl; exact rfl; intro W4 cW4 xW4; replace cW4 := Lib.hid cW4; replace xW4 := Lib.hid xW4; refine Hid.out ?_)
            refine Lib.hid ?_
            have C4 : Hid (Chg [] w W4) := Lib.hid (C2.out.then (cbs.out.new cW4.out (by rw [ebs.out]; exact Nat.le_refl _)))
            have x1 := Seg.c_addr xW4.out
            have x2 := Seg.c_size xW4.out
            have x5 := Seg.c_prot xW4.out
            clear x4
            go_wp2
            go_ret
            exact ⟨rfl, C4.out⟩
          | false =>
            rw [q0, q7]
            simp only [Bool.not_false, Bool.true_and, Bool.false_and]
            clear p0 p7
            go_enter Tryz.func17, Tryz.ntmps17
            go_wp2_with ((with_reducible refine Lay.bxL (L := imgL) 32 m ?_ ?_); exact rfl; intro W1 bm ebm cbm xbm; replace ebm := Lib.hid ebm; replace cbm := Lib.hid cbm; replace xbm := Lib.hid xbm; refine Hid.out ?_)
            refine Lib.hid ?_
            go_wp2_with ((with_reducible refine Lay.ldL Tryz.tImg m (xbm.out.in) ?_ ?_); exact rfl; refine Hid.out ?_)
            refine Lib.hid ?_
            go_wp2_with fail
            refine (HAT.out _ (RD.out.frame cbm.out)).mono ?_
            rintro e W2 ⟨rfl, hc⟩
            have C2 := Lib.hid (cbm.out.then hc)
            have X2 := Lib.hid (xbm.out.frame hc)
            clear hc
            have x4 := Img.c_segs X2.out
            rw [hv] at x4
            go_wp2_with ((with_reducible refine Lay.ldL Tryz.tSeg s ((HI.out.frame C2.out)) ?_ ?_); exact rfl; refine Hid.out ?_)
            refine Lib.hid ?_
            go_wp2_with ((with_reducible refine Lay.alL Tryz.tSeg ?_); intro W3 bs ebs cbs xbs; replace ebs := Lib.hid ebs; replace cbs := Lib.hid cbs; replace xbs := Lib.hid xbs; refine Hid.out ?_)
            refine Lib.hid ?_
            go_wp2_with ((with_reducible refine Lay.stL Tryz.tSeg s (xbs.out) ?_ ?_ ?_); exact rfl; exact rfl; intro W4 cW4 xW4; replace cW4 := Lib.hid cW4; replace xW4 := Lib.hid xW4; refine Hid.out ?_)
            refine Lib.hid ?_
            have C4 : Hid (Chg [] w W4) := Lib.hid (C2.out.then (cbs.out.new cW4.out (by rw [ebs.out]; exact Nat.le_refl _)))
            have x1 := Seg.c_addr xW4.out
            have x2 := Seg.c_size xW4.out
            have x5 := Seg.c_prot xW4.out
            clear x4
            go_wp2
            go_ret
            exact ⟨rfl, C4.out⟩
        · have q7 : decide (s.prot ≤ 7) = false := by simpa using p7
          rw [q0, q7]
          simp only [Bool.not_false, Bool.true_and, Bool.false_and]
          clear p0 p7
          go_enter Tryz.func17, Tryz.ntmps17
          go_wp2_with ((with_reducible refine Lay.bxL (L := imgL) 32 m ?_ ?_); exact rfl; intro W1 bm ebm cbm xbm; replace ebm := Lib.hid ebm; replace cbm := Lib.hid cbm; replace xbm := Lib.hid xbm; refine Hid.out ?_)
          refine Lib.hid ?_
          go_wp2_with ((with_reducible refine Lay.ldL Tryz.tImg m (xbm.out.in) ?_ ?_); exact rfl; refine Hid.out ?_)
          refine Lib.hid ?_
          go_wp2_with fail
          refine (HAT.out _ (RD.out.frame cbm.out)).mono ?_
          rintro e W2 ⟨rfl, hc⟩
          have C2 := Lib.hid (cbm.out.then hc)
          have X2 := Lib.hid (xbm.out.frame hc)
          clear hc
          have x4 := Img.c_segs X2.out
          rw [hv] at x4
          go_wp2_with ((with_reducible refine Lay.ldL Tryz.tSeg s ((HI.out.frame C2.out)) ?_ ?_); exact rfl; refine Hid.out ?_)
          refine Lib.hid ?_
          go_wp2_with ((with_reducible refine Lay.alL Tryz.tSeg ?_); intro W3 bs ebs cbs xbs; replace ebs := Lib.hid ebs; replace cbs := Lib.hid cbs; replace xbs := Lib.hid xbs; refine Hid.out ?_)
          refine Lib.hid ?_
          go_wp2_with ((with_reducible refine Lay.stL Tryz.tSeg s (xbs.out) ?_ ?_ ?_); exact rfl; exact rfl; intro W4 cW4 xW4; replace cW4 := Lib.hid cW4; replace xW4 := Lib.hid xW4; refine Hid.out ?_)
          refine Lib.hid ?_
          have C4 : Hid (Chg [] w W4) := Lib.hid (C2.out.then (cbs.out.new cW4.out (by rw [ebs.out]; exact Nat.le_refl _)))
          have x1 := Seg.c_addr xW4.out
          have x2 := Seg.c_size xW4.out
          have x5 := Seg.c_prot xW4.out
          clear x4
          go_wp2
          go_ret
          exact ⟨rfl, C4.out⟩
      · have q0 : decide (0 ≤ s.prot) = false := by simpa using p0
        rw [q0]
        simp only [Bool.not_false, Bool.true_and, Bool.false_and]
        clear p0
        go_enter Tryz.func17, Tryz.ntmps17
        go_wp2_with ((with_reducible refine Lay.bxL (L := imgL) 32 m ?_ ?_); exact rfl; intro W1 bm ebm cbm xbm; replace ebm := Lib.hid ebm; replace cbm := Lib.hid cbm; replace xbm := Lib.hid xbm; refine Hid.out ?_)
        refine Lib.hid ?_
        go_wp2_with ((with_reducible refine Lay.ldL Tryz.tImg m (xbm.out.in) ?_ ?_); exact rfl; refine Hid.out ?_)
        refine Lib.hid ?_
        go_wp2_with fail
        refine (HAT.out _ (RD.out.frame cbm.out)).mono ?_
        rintro e W2 ⟨rfl, hc⟩
        have C2 := Lib.hid (cbm.out.then hc)
        have X2 := Lib.hid (xbm.out.frame hc)
        clear hc
        have x4 := Img.c_segs X2.out
        rw [hv] at x4
        go_wp2_with ((with_reducible refine Lay.ldL Tryz.tSeg s ((HI.out.frame C2.out)) ?_ ?_); exact rfl; refine Hid.out ?_)
        refine Lib.hid ?_
        go_wp2_with ((with_reducible refine Lay.alL Tryz.tSeg ?_); intro W3 bs ebs cbs xbs; replace ebs := Lib.hid ebs; replace cbs := Lib.hid cbs; replace xbs := Lib.hid xbs; refine Hid.out ?_)
        refine Lib.hid ?_
        go_wp2_with ((with_reducible refine Lay.stL Tryz.tSeg s (xbs.out) ?_ ?_ ?_); exact rfl; exact rfl; intro W4 cW4 xW4; replace cW4 := Lib.hid cW4; replace xW4 := Lib.hid xW4; refine Hid.out ?_)
        refine Lib.hid ?_
        have C4 : Hid (Chg [] w W4) := Lib.hid (C2.out.then (cbs.out.new cW4.out (by rw [ebs.out]; exact Nat.le_refl _)))
        have x1 := Seg.c_addr xW4.out
        have x2 := Seg.c_size xW4.out
        have x5 := Seg.c_prot xW4.out
        clear x4
        go_wp2
        go_ret
        exact ⟨rfl, C4.out⟩
end Go.Proofs.YtaipelkegemoeaaGreatDoor
/- image.within, slices.Clone of bytes, image.Part. -/
namespace Go.Proofs.YtaipelkegemoeaaGreatDoor
open Go.RowKit
set_option maxRecDepth 100000

def withinS (off size all : Nat) : Bool := decide (off ≤ all) && decide (size ≤ all - off)
theorem within_any2 (off size all : Nat) (ha : all < 18446744073709551616) (w : World) :
    Calls Tryz.prog 135 #[.int .u64 off, .int .u64 size, .int .u64 all] w fun e w' => e = .returned (.bool (withinS off size all)) ∧ Chg [] w w' := by
  unfold withinS
  by_cases h1 : off ≤ all
  · have hw : IntKind.u64.wrap ((all : Int) - (off : Int)) = ((all - off : Nat) : Int) := by rw [IntKind.wrap_u64]; omega
    have d1 : decide (off ≤ all) = true := by simpa using h1
    clear ha
    rw [d1, Bool.true_and]
    generalize all - off = q at *
    go_enter Tryz.func135, Tryz.ntmps135
    go_wp2
    go_ret
    exact ⟨rfl, Chg.refl _ _⟩
  · have d1 : decide (off ≤ all) = false := by simpa using h1
    rw [d1, Bool.false_and]
    clear ha
    go_enter Tryz.func135, Tryz.ntmps135
    go_wp2
    go_ret
    exact ⟨rfl, Chg.refl _ _⟩
theorem Rd_cutI {w : World} {b off n cap : Nat} {l : List UInt8} (rd : byteL.Rd w (.slice (some ⟨b, off, none⟩) n cap) l) (p m c : Nat) (h : p + m ≤ l.length) (hc : m ≤ c) (hc2 : c ≤ maxLen) :
    byteL.Rd w (.slice (some ⟨b, off + p, none⟩) m c) ((l.drop p).take m) := by
  obtain ⟨a', n', cap', he, hn, h1, h2, h3⟩ := rd
  cases he
  have hl : ((l.drop p).take m).length = m := by simp; omega
  refine ⟨_, m, c, rfl, hl.symm, hc, hc2, fun hne => ?_⟩
  have hl0 : l ≠ [] := by rintro rfl; simp at hne
  obtain ⟨b', off', hb, hlt, hcell⟩ := h3 hl0
  cases hb
  refine ⟨b, off + p, rfl, hlt, fun j hj k hk => ?_⟩
  rw [hl] at hj
  have := hcell (p + j) (by omega) k hk
  rw [show byteL.n = 1 from rfl] at this ⊢
  rw [show off + p + j * 1 + k = off + (p + j) * 1 + k by omega, this]
  congr 2
  simp only [List.getD_eq_getElem?_getD, List.getElem?_take, List.getElem?_drop]
  rw [if_pos hj]
set_option maxHeartbeats 1000000 in
theorem sclone_any (l : List UInt8) (v : Value) (w : World) (rd : byteL.Rd w v l) (hlen : l.length ≤ 100000000) :
    Calls Tryz.prog 136 #[v] w fun e w' => ∃ v', e = .returned v' ∧ BB w' w.heap.size v' l ∧ Chg [] w w' := by
  obtain ⟨a, n, cap, rfl, rfl, hc1, hc2, hx⟩ := id rd
  have HR := Lib.hid rd
  have Hc2 := Lib.hid hc2
  clear rd hc2
  clear hc1
  have q1 : ∀ W : World, (binOp .eql 22 (.slice a l.length cap) (.slice none 0 0)).run Tryz.prog W = .ok (.bool a.isNone) W := fun W => Lib.run_eql_slice_nil W _ _ a l.length cap 0 0 Tryz.infoByte.u
  cases a with
  | none =>
    have hl : l = [] := by
      cases l with
      | nil => rfl
      | cons b l => obtain ⟨_, _, h, _⟩ := hx (by simp); cases h
    subst hl
    clear hx
    simp only [Option.isNone_none, List.length_nil] at q1
    go_enter Tryz.func136, Tryz.ntmps136
    go_wp2
    go_ret
    exact ⟨_, rfl, Lay.Buf.nil _ _, Chg.refl _ _⟩
  | some ad =>
    simp only [Option.isNone_some] at q1
    have Hx := Lib.hid hx
    clear hx
    obtain ⟨w1, hw1⟩ : ∃ x, x = w.alloc (.cells #[] 5) := ⟨_, rfl⟩
    have B1 : Hid (BB w1 w.heap.size (.slice (some ⟨w.heap.size, 0, none⟩) 0 0) []) := by
      refine Lib.hid ?_
      rw [hw1]
      exact ⟨rfl, .inr ⟨w.heap.size, 0, #[], rfl, Nat.le_refl _, heap_alloc_eq _ _, Nat.le_refl _, Nat.zero_le _, rfl, rfl⟩⟩
    have C1 : Hid (Chg [] w w1) := Lib.hid (by rw [hw1]; exact (Chg.refl _ _).alloc _)
    have HW1 := Lib.hid (hw1)
    clear hw1
    go_enter Tryz.func136, Tryz.ntmps136
    go_wp2_with (at_builtin; rw [← HW1.out]; refine Lay.app (L := byteL) Tryz.infoByte rfl _ _ rfl w.heap.size (.slice (some ⟨w.heap.size, 0, none⟩) 0 0) [] rfl B1.out _ rfl l (HR.out.frame C1.out) (by simp; omega) (by simp; omega) C1.out.size ?_; intro va wa hoa hga hla; refine Hid.out ?_)
    refine Lib.hid ?_
    have BA : Hid (BB wa w.heap.size va l) := Lib.hid (hoa)
    have CA : Hid (Chg [] w wa) := Lib.hid (C1.out.trans (Lay.chg_grown hga) (fun i hm hw => by simp [Value.ownBlock] at hm; omega))
    clear hoa hga
    go_wp2
    go_ret
    exact ⟨_, rfl, BA.out, CA.out⟩
end Go.Proofs.YtaipelkegemoeaaGreatDoor
/- image.Part. -/
namespace Go.Proofs.YtaipelkegemoeaaGreatDoor
open Go.RowKit
set_option maxRecDepth 100000

def partS (l : List UInt8) (off size : Nat) : List UInt8 := if size = 0 then [] else if withinS off size l.length then (l.drop off).take size else []
set_option maxHeartbeats 1000000 in
theorem Part_any (l : List UInt8) (v : Value) (off size : Nat) (ho : off < 18446744073709551616) (hz : size < 18446744073709551616) (w : World) (rd : byteL.Rd w v l) (hlen : l.length ≤ 100000000) :
    Calls Tryz.prog 124 #[v, .agg #[.int .u64 off, .int .u64 size]] w fun e w' => (∃ v', e = .returned v' ∧ byteL.Rd w' v' (partS l off size)) ∧ Chg [] w w' := by
  obtain ⟨a, cap, rfl, hc1, hc2⟩ := rd.shape
  have hwl : IntKind.u64.wrap (l.length : Int) = (l.length : Int) := by rw [IntKind.wrap_u64]; omega
  have Rd := Lib.hid rd
  clear rd
  by_cases h0 : size = 0
  · subst h0
    rw [show partS l off 0 = [] from rfl]
    clear ho hz hc2
    go_enter Tryz.func124, Tryz.ntmps124
    go_wp2
    go_ret
    exact ⟨⟨_, rfl, Lay.Rd.nil _⟩, (Chg.refl _ _).alloc _⟩
  have z0 : ((size : Int) == 0) = false := by simp; omega
  have HW := Lib.hid (within_any2 off size l.length (by omega))
  cases hw : withinS off size l.length with
  | false =>
    rw [hw] at HW
    rw [show partS l off size = [] by unfold partS; rw [if_neg h0, hw]; rfl]
    clear ho hz hc2 hw
    go_enter Tryz.func124, Tryz.ntmps124
    go_wp2_with fail
    refine (HW.out _).mono ?_
    rintro e W2 ⟨rfl, hc⟩
    have C2 : Hid (Chg [] w W2) := Lib.hid (((Chg.refl _ _).alloc _).then hc)
    have y0 : W2.cell? ⟨w.heap.size, 0, none⟩ = some (.int .u64 off) := by refine hc.cell ?_ (by simp); rw [cell_of_heap (heap_alloc_eq _ _)]; rfl
    have y1 : W2.cell? ⟨w.heap.size, 1, none⟩ = some (.int .u64 size) := by refine hc.cell ?_ (by simp); rw [cell_of_heap (heap_alloc_eq _ _)]; rfl
    clear hc
    go_wp2
    go_ret
    exact ⟨⟨_, rfl, Lay.Rd.nil _⟩, C2.out⟩
  | true =>
    rw [hw] at HW
    rw [show partS l off size = (l.drop off).take size by unfold partS; rw [if_neg h0, hw]; rfl]
    have hin : off ≤ l.length ∧ size ≤ l.length - off := by
      unfold withinS at hw
      simpa only [Bool.and_eq_true, decide_eq_true_eq] using hw
    have hs : IntKind.u64.wrap ((off : Int) + (size : Int)) = ((off + size : Nat) : Int) := by rw [IntKind.wrap_u64]; omega
    obtain ⟨b, o, rfl, _, _⟩ := Rd.out.at (by omega)
    have HCL : Hid (∀ W, Chg [] w W → Calls Tryz.prog 136 #[.slice (some ⟨b, o + off, none⟩) size size] W fun e w' => ∃ v', e = .returned v' ∧ BB w' W.heap.size v' ((l.drop off).take size) ∧ Chg [] W w') := by
      refine Lib.hid ?_
      intro W hW
      exact sclone_any _ _ W (Rd_cutI (Rd.out.frame hW) off size size (by omega) (Nat.le_refl _) (by unfold maxLen; omega)) (by simp; omega)
    have k1 : off + size ≤ cap := by omega
    have k2 : off + size - off = size := by omega
    clear ho hz hw
    go_enter Tryz.func124, Tryz.ntmps124
    go_wp2_with fail
    refine (HW.out _).mono ?_
    rintro e W2 ⟨rfl, hc⟩
    have C2 : Hid (Chg [] w W2) := Lib.hid (((Chg.refl _ _).alloc _).then hc)
    have y0 : W2.cell? ⟨w.heap.size, 0, none⟩ = some (.int .u64 off) := by refine hc.cell ?_ (by simp); rw [cell_of_heap (heap_alloc_eq _ _)]; rfl
    have y1 : W2.cell? ⟨w.heap.size, 1, none⟩ = some (.int .u64 size) := by refine hc.cell ?_ (by simp); rw [cell_of_heap (heap_alloc_eq _ _)]; rfl
    clear hc
    go_wp2_with fail
    refine (HCL.out _ C2.out).mono ?_
    rintro e W3 ⟨v3, rfl, hb, hc⟩
    have B3 := Lib.hid (hb)
    have C3 := Lib.hid (C2.out.then hc)
    clear hb hc
    go_wp2
    go_ret
    exact ⟨⟨_, rfl, B3.out.rd⟩, C3.out⟩
end Go.Proofs.YtaipelkegemoeaaGreatDoor
