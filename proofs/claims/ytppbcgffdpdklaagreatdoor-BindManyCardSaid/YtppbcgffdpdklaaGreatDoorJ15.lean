/- Lemmas, laid together: part 15 of 39. Conditions: none but each lemma's own. -/
import Derived.Test.YtppbcgffdpdklaaGreatDoorJ5
import Derived.Test.YtppbcgffdpdklaaGreatDoorJ13
/- image.At: the number of an address's segment. -/
namespace Go.Proofs.YtppbcgffdpdklaaGreatDoor
open Go.RowKit
set_option maxRecDepth 100000

/-- Does an address stand in a segment? -/
def inS (addr : Int) (s : Seg) : Bool := !holeS s && (decide (s.addr ≤ addr) && decide (addr - s.addr < s.size))
def atS (ls : List Seg) (addr : Int) : Option Nat := idx (inS addr) ls
theorem Tryz.tSeg : Lay.Ty segL Tryz.prog 26 := Lay.Ty.mk' (by kernel_rfl) (by kernel_rfl)
theorem at1_any (s : Seg) (hs : 0 ≤ s.addr) (addr : Int) (ha : addr < 18446744073709551616) (p : Nat) (w : World) (hp : w.cell? ⟨p, 0, none⟩ = some (.int .u64 addr)) :
    Calls Tryz.prog 41 #[s.v, .pointer (some ⟨p, 0, none⟩)] w fun e w' => e = .returned (.bool (inS addr s)) ∧ Chg [] w w' := by
  have HH := Lib.hid (hole_any s)
  unfold inS
  generalize holeS s = b at *
  have Hp := Lib.hid hp
  clear hp
  cases b with
  | true =>
    go_enter Tryz.func41, Tryz.ntmps41
    go_wp2_with ((with_reducible refine Lay.bxL (L := segL) 26 s ?_ ?_); exact rfl; intro W1 bs ebs cbs xbs; replace ebs := Lib.hid ebs; replace cbs := Lib.hid cbs; replace xbs := Lib.hid xbs; refine Hid.out ?_)
    refine Lib.hid ?_
    go_wp2_with ((with_reducible refine Lay.ldL Tryz.tSeg s (xbs.out.in) ?_ ?_); exact rfl; refine Hid.out ?_)
    refine Lib.hid ?_
    go_wp2_with fail
    refine (HH.out _).mono ?_
    rintro e w' ⟨rfl, hc⟩
    have Hc := Lib.hid hc
    clear hc
    have p2 := (cbs.out.then Hc.out).cell Hp.out (by simp)
    have x1 := Seg.c_addr (xbs.out.frame Hc.out)
    have x2 := Seg.c_size (xbs.out.frame Hc.out)
    go_wp2
    go_ret
    exact ⟨rfl, cbs.out.then Hc.out⟩
  | false =>
    by_cases h1 : s.addr ≤ addr
    · have d1 : decide (s.addr ≤ addr) = true := by simpa using h1
      have hw : IntKind.u64.wrap (addr - s.addr) = addr - s.addr := by rw [IntKind.wrap_u64]; omega
      go_enter Tryz.func41, Tryz.ntmps41
      go_wp2_with ((with_reducible refine Lay.bxL (L := segL) 26 s ?_ ?_); exact rfl; intro W1 bs ebs cbs xbs; replace ebs := Lib.hid ebs; replace cbs := Lib.hid cbs; replace xbs := Lib.hid xbs; refine Hid.out ?_)
      refine Lib.hid ?_
      go_wp2_with ((with_reducible refine Lay.ldL Tryz.tSeg s (xbs.out.in) ?_ ?_); exact rfl; refine Hid.out ?_)
      refine Lib.hid ?_
      go_wp2_with fail
      refine (HH.out _).mono ?_
      rintro e w' ⟨rfl, hc⟩
      have Hc := Lib.hid hc
      clear hc
      have p2 := (cbs.out.then Hc.out).cell Hp.out (by simp)
      have x1 := Seg.c_addr (xbs.out.frame Hc.out)
      have x2 := Seg.c_size (xbs.out.frame Hc.out)
      go_wp2
      go_ret
      exact ⟨by rw [d1]; rfl, cbs.out.then Hc.out⟩
    · have d1 : decide (s.addr ≤ addr) = false := by simpa using h1
      go_enter Tryz.func41, Tryz.ntmps41
      go_wp2_with ((with_reducible refine Lay.bxL (L := segL) 26 s ?_ ?_); exact rfl; intro W1 bs ebs cbs xbs; replace ebs := Lib.hid ebs; replace cbs := Lib.hid cbs; replace xbs := Lib.hid xbs; refine Hid.out ?_)
      refine Lib.hid ?_
      go_wp2_with ((with_reducible refine Lay.ldL Tryz.tSeg s (xbs.out.in) ?_ ?_); exact rfl; refine Hid.out ?_)
      refine Lib.hid ?_
      go_wp2_with fail
      refine (HH.out _).mono ?_
      rintro e w' ⟨rfl, hc⟩
      have Hc := Lib.hid hc
      clear hc
      have p2 := (cbs.out.then Hc.out).cell Hp.out (by simp)
      have x1 := Seg.c_addr (xbs.out.frame Hc.out)
      have x2 := Seg.c_size (xbs.out.frame Hc.out)
      go_wp2
      go_ret
      exact ⟨by rw [d1]; rfl, cbs.out.then Hc.out⟩
/-- A segment's numbers are of their kinds. -/
def SegB (s : Seg) : Prop := (0 ≤ s.addr ∧ s.addr < 18446744073709551616) ∧ (0 ≤ s.size ∧ s.size < 18446744073709551616) ∧ (0 ≤ s.off ∧ s.off < 18446744073709551616) ∧ (0 ≤ s.fsize ∧ s.fsize < 18446744073709551616)
def SegsB (ls : List Seg) : Prop := ∀ k, k < ls.length → SegB (ls.getD k .zero)
set_option maxHeartbeats 1000000 in
theorem idxAt_any (ls : List Seg) (hls : SegsB ls) (addr : Int) (ha : addr < 18446744073709551616) (p : Nat) (v : Value) (w : World) (rd : segL.Rd w v ls) (hp : w.cell? ⟨p, 0, none⟩ = some (.int .u64 addr)) :
    Calls Tryz.prog 40 #[v, .func (.func 41) #[] #[.pointer (some ⟨p, 0, none⟩)]] w fun e w' => e = .returned (.int .i64 (idxI (atS ls addr))) ∧ Chg [] w w' := by
  obtain ⟨a, cap, rfl, hc1, hc2⟩ := rd.shape
  have HCL : Hid (∀ k, k < ls.length → ∀ W, Chg [] w W → Calls Tryz.prog 41 #[(ls.getD k .zero).v, .pointer (some ⟨p, 0, none⟩)] W fun e w' => e = .returned (.bool (inS addr (ls.getD k .zero))) ∧ Chg [] W w') := by
    refine Lib.hid ?_
    intro k hk W hW
    exact at1_any _ (hls k hk).1.1 addr ha p W (hW.cell hp (by simp))
  unfold atS
  generalize inS addr = P at *
  have HR := Lib.hid rd
  have Hls := Lib.hid hls
  have Ha := Lib.hid ha
  have Hp := Lib.hid hp
  clear rd hls ha hp
  go_enter Tryz.func40, Tryz.ntmps40
  go_wp2_with fail
  go_loopw [8] (fun s8 wr => ∃ k : Nat, k ≤ ls.length ∧ s8 = .int .i64 (k : Int) ∧ (∀ j, j < k → P (ls.getD j .zero) = false) ∧ Chg [] w wr) (fun s8 _ => ls.length - (intOf s8).toNat)
  case atStart => exact ⟨0, Nat.zero_le _, rfl, fun _ h => absurd h (Nat.not_lt_zero _), Chg.refl _ _⟩
  case round =>
    obtain ⟨k, hk, rfl, hno, hch⟩ := hrel
    have Hno := Lib.hid hno
    have Hch := Lib.hid hch
    clear hno hch
    by_cases hlt : k < ls.length
    · obtain ⟨b, off, rfl, hb, hcell⟩ := HR.out.at (by omega)
      have hI : segL.In w b (off + k * 7) (ls.getD k .zero) := hcell k hlt
      have HF := Lib.hid (HCL.out k hlt wr Hch.out)
      obtain ⟨s, hs⟩ : ∃ s, s = ls.getD k .zero := ⟨_, rfl⟩
      rw [← hs] at hI HF
      have hI2 := hI.frame Hch.out
      clear hI hcell hb
      have Hs := Lib.hid hs
      have HI := Lib.hid hI2
      clear hs hI2
      obtain ⟨q, hq⟩ : ∃ q, q = P s := ⟨_, rfl⟩
      rw [← hq] at HF
      go_wp2_with ((with_reducible refine Lay.ldL Tryz.tSeg s (HI.out) ?_ ?_); exact rfl; refine Hid.out ?_)
      refine Lib.hid ?_
      go_wp2_with fail
      refine HF.out.mono ?_
      rintro e w' ⟨rfl, hc⟩
      have HC := Lib.hid (Hch.out.then hc)
      clear hc
      cases q with
      | true =>
        have HE : Hid (idx P ls = some k) := Lib.hid (by rw [Hs.out] at hq; exact idx_some hlt hq.symm (fun j hj => Hno.out j hj))
        clear hq
        go_wp2
        go_ret
        exact ⟨by rw [HE.out]; rfl, HC.out⟩
      | false =>
        have Hq := Lib.hid hq
        clear hq
        go_wp2
        go_roundw
        case rel =>
          refine ⟨k + 1, hlt, by go_num, fun j hj => ?_, HC.out⟩
          by_cases e : j = k
          · subst e; rw [← Hs.out]; exact Hq.out.symm
          · exact Hno.out j (by omega)
        case measure => simp [intOf]; omega
    · have HE : Hid (idx P ls = none) := Lib.hid (idx_none (fun j hj => Hno.out j (by omega)))
      go_wp2
      go_ret
      exact ⟨by rw [HE.out]; rfl, Hch.out⟩
theorem At_img (m : Img) (ls : List Seg) (hls : SegsB ls) (addr : Int) (ha : addr < 18446744073709551616) (w : World) (rd : segL.Rd w m.segs.v ls) :
    Calls Tryz.prog 18 #[imgL.val m, .int .u64 addr] w fun e w' => e = .returned (.int .i64 (idxI (atS ls addr))) ∧ Chg [] w w' := by
  have HX := Lib.hid (fun p v w => idxAt_any ls hls addr ha p v w)
  have hmf : ∀ (fn : Fn) (first cap : Array Value) (w : World), (Instr.makeFunc fn first cap).run Tryz.prog w = .ok (.func fn first cap) w := fun _ _ _ _ => rfl
  have Rd := Lib.hid rd
  have Ha := Lib.hid ha
  have Hls := Lib.hid hls
  clear rd ha hls
  go_enter Tryz.func18, Tryz.ntmps18
  go_wp2_with ((with_reducible refine Lay.bxL (L := imgL) 33 m ?_ ?_); exact rfl; intro W bm ebm cbm xbm; replace ebm := Lib.hid ebm; replace cbm := Lib.hid cbm; replace xbm := Lib.hid xbm; refine Hid.out ?_)
  refine Lib.hid ?_
  have x4 := fun o => Img.c_segs (xbm.out.alloc o)
  go_wp2_with fail
  refine (HX.out W.heap.size _ _ ((Rd.out.frame cbm.out).frame ((Chg.refl _ _).alloc _)) ?_).mono ?_
  · rw [cell_of_heap (heap_alloc_eq _ _)]; rfl
  rintro e w' ⟨rfl, hc⟩
  have Hc := Lib.hid hc
  clear hc
  go_wp2
  go_ret
  exact ⟨rfl, (cbm.out.alloc _).then Hc.out⟩
end Go.Proofs.YtppbcgffdpdklaaGreatDoor
/- image.Place and image.Writable. -/
namespace Go.Proofs.YtppbcgffdpdklaaGreatDoor
open Go.RowKit
set_option maxRecDepth 100000

/-- The address of a place, or why there is none. -/
def placeS (ls : List Seg) (k o : Int) : Int × Int :=
  if k < ls.length then
    if holeS (ls.getD k.toNat .zero) then (0, 8) else if (ls.getD k.toNat .zero).size ≤ o then (0, 4) else (IntKind.u64.wrap ((ls.getD k.toNat .zero).addr + o), 0)
  else (0, 8)
set_option maxHeartbeats 1000000 in
theorem Place_any (m : Img) (ls : List Seg) (k : Int) (hk : 0 ≤ k) (o : Int) (w : World) (rd : segL.Rd w m.segs.v ls) :
    Calls Tryz.prog 48 #[imgL.val m, .int .u64 k, .int .u64 o] w fun e w' => e = .returned (.tuple #[.int .u64 (placeS ls k o).1, .int .i64 (placeS ls k o).2]) ∧ Chg [] w w' := by
  obtain ⟨a, cap, hv, hc1, hc2⟩ := rd.shape
  have hwl : IntKind.u64.wrap (ls.length : Int) = (ls.length : Int) := by rw [IntKind.wrap_u64]; omega
  have rd' := rd
  rw [hv] at rd'
  unfold SlV.v at hv
  have RD := Lib.hid rd'
  have Hc2 := Lib.hid hc2
  clear rd' hc2
  clear rd hc1
  by_cases h1 : k < ls.length
  · obtain ⟨K, rfl⟩ : ∃ K : Nat, k = K := ⟨k.toNat, by omega⟩
    have hK : K < ls.length := by omega
    have d1 : decide (ls.length ≤ K) = false := by simp; omega
    obtain ⟨b, off, rfl, _, hcell⟩ := RD.out.at (by omega)
    have hI : segL.In w b (off + K * 7) (ls.getD K .zero) := hcell K hK
    have HH := Lib.hid (hole_any (ls.getD K .zero))
    have hp : placeS ls K o = if holeS (ls.getD K .zero) then (0, 8) else if (ls.getD K .zero).size ≤ o then (0, 4) else (IntKind.u64.wrap ((ls.getD K .zero).addr + o), 0) := by
      unfold placeS
      rw [if_pos h1, Int.toNat_natCast]
    generalize ls.getD K .zero = s at *
    clear hcell
    have HI := Lib.hid hI
    clear hI
    cases hh : holeS s with
    | true =>
      rw [hh] at HH hp
      rw [show placeS ls K o = (0, 8) by rw [hp]; rfl]
      clear hp hh
      go_enter Tryz.func48, Tryz.ntmps48
      go_wp2_with ((with_reducible refine Lay.bxL (L := imgL) 33 m ?_ ?_); exact rfl; intro W1 bm ebm cbm xbm; replace ebm := Lib.hid ebm; replace cbm := Lib.hid cbm; replace xbm := Lib.hid xbm; refine Hid.out ?_)
      refine Lib.hid ?_
      have x4 := Img.c_segs xbm.out
      rw [hv] at x4
      go_wp2_with ((with_reducible refine Lay.ldG2 Tryz.tSeg s ((HI.out.frame cbm.out)) ?_ ?_ ?_); exact rfl; exact rfl; refine Hid.out ?_)
      refine Lib.hid ?_
      go_wp2_with fail
      refine (HH.out _).mono ?_
      rintro e w' ⟨rfl, hc⟩
      have Hc := Lib.hid hc
      clear hc
      go_wp2
      go_ret2
      exact ⟨rfl, cbm.out.then Hc.out⟩
    | false =>
      rw [hh, if_neg (by simp)] at hp
      rw [hh] at HH
      by_cases h2 : s.size ≤ o
      · have d2 : decide (s.size ≤ o) = true := by simpa using h2
        rw [if_pos h2] at hp
        rw [hp]
        clear hp hh h2
        go_enter Tryz.func48, Tryz.ntmps48
        go_wp2_with ((with_reducible refine Lay.bxL (L := imgL) 33 m ?_ ?_); exact rfl; intro W1 bm ebm cbm xbm; replace ebm := Lib.hid ebm; replace cbm := Lib.hid cbm; replace xbm := Lib.hid xbm; refine Hid.out ?_)
        refine Lib.hid ?_
        have x4 := Img.c_segs xbm.out
        rw [hv] at x4
        go_wp2_with ((with_reducible refine Lay.ldG2 Tryz.tSeg s ((HI.out.frame cbm.out)) ?_ ?_ ?_); exact rfl; exact rfl; refine Hid.out ?_)
        refine Lib.hid ?_
        go_wp2_with fail
        refine (HH.out _).mono ?_
        rintro e W2 ⟨rfl, hc⟩
        have C2 := Lib.hid (cbm.out.then hc)
        have X2 := Lib.hid (xbm.out.frame hc)
        clear hc x4
        have x4 := Img.c_segs X2.out
        rw [hv] at x4
        go_wp2_with ((with_reducible refine Lay.ldL Tryz.tSeg s ((HI.out.frame C2.out)) ?_ ?_); exact rfl; refine Hid.out ?_)
        refine Lib.hid ?_
        go_wp2_with ((with_reducible refine Lay.alL Tryz.tSeg ?_); intro W3 bs ebs cbs xbs; replace ebs := Lib.hid ebs; replace cbs := Lib.hid cbs; replace xbs := Lib.hid xbs; refine Hid.out ?_)
        refine Lib.hid ?_
        go_wp2_with ((with_reducible refine Lay.stL Tryz.tSeg s (xbs.out) ?_ ?_ ?_); exact rfl; exact rfl; intro W4 cW4 xW4; replace cW4 := Lib.hid cW4; replace xW4 := Lib.hid xW4; refine Hid.out ?_)
        refine Lib.hid ?_
        have C4 : Hid (Chg [] w W4) := Lib.hid (C2.out.then (cbs.out.new cW4.out (by rw [ebs.out]; exact Nat.le_refl _)))
        have x2 := Seg.c_size xW4.out
        clear x4
        go_wp2
        go_ret2
        exact ⟨rfl, C4.out⟩
      · have d2 : decide (s.size ≤ o) = false := by simpa using h2
        rw [if_neg h2] at hp
        rw [hp]
        clear hp hh h2
        go_enter Tryz.func48, Tryz.ntmps48
        go_wp2_with ((with_reducible refine Lay.bxL (L := imgL) 33 m ?_ ?_); exact rfl; intro W1 bm ebm cbm xbm; replace ebm := Lib.hid ebm; replace cbm := Lib.hid cbm; replace xbm := Lib.hid xbm; refine Hid.out ?_)
        refine Lib.hid ?_
        have x4 := Img.c_segs xbm.out
        rw [hv] at x4
        go_wp2_with ((with_reducible refine Lay.ldG2 Tryz.tSeg s ((HI.out.frame cbm.out)) ?_ ?_ ?_); exact rfl; exact rfl; refine Hid.out ?_)
        refine Lib.hid ?_
        go_wp2_with fail
        refine (HH.out _).mono ?_
        rintro e W2 ⟨rfl, hc⟩
        have C2 := Lib.hid (cbm.out.then hc)
        have X2 := Lib.hid (xbm.out.frame hc)
        clear hc x4
        have x4 := Img.c_segs X2.out
        rw [hv] at x4
        go_wp2_with ((with_reducible refine Lay.ldL Tryz.tSeg s ((HI.out.frame C2.out)) ?_ ?_); exact rfl; refine Hid.out ?_)
        refine Lib.hid ?_
        go_wp2_with ((with_reducible refine Lay.alL Tryz.tSeg ?_); intro W3 bs ebs cbs xbs; replace ebs := Lib.hid ebs; replace cbs := Lib.hid cbs; replace xbs := Lib.hid xbs; refine Hid.out ?_)
        refine Lib.hid ?_
        go_wp2_with ((with_reducible refine Lay.stL Tryz.tSeg s (xbs.out) ?_ ?_ ?_); exact rfl; exact rfl; intro W4 cW4 xW4; replace cW4 := Lib.hid cW4; replace xW4 := Lib.hid xW4; refine Hid.out ?_)
        refine Lib.hid ?_
        have C4 : Hid (Chg [] w W4) := Lib.hid (C2.out.then (cbs.out.new cW4.out (by rw [ebs.out]; exact Nat.le_refl _)))
        have x2 := Seg.c_size xW4.out
        clear x4
        have x1 := Seg.c_addr xW4.out
        go_wp2
        go_ret2
        exact ⟨rfl, C4.out⟩
  · have d1 : decide ((ls.length : Int) ≤ k) = true := by simp; omega
    rw [show placeS ls k o = (0, 8) by unfold placeS; rw [if_neg h1]]
    go_enter Tryz.func48, Tryz.ntmps48
    go_wp2_with ((with_reducible refine Lay.bxL (L := imgL) 33 m ?_ ?_); exact rfl; intro W1 bm ebm cbm xbm; replace ebm := Lib.hid ebm; replace cbm := Lib.hid cbm; replace xbm := Lib.hid xbm; refine Hid.out ?_)
    refine Lib.hid ?_
    have x4 := Img.c_segs xbm.out
    rw [hv] at x4
    go_wp2
    go_ret2
    exact ⟨rfl, cbm.out⟩
end Go.Proofs.YtppbcgffdpdklaaGreatDoor
