/- Lemmas, laid together: part 13 of 40. Conditions: none but each lemma's own. -/
import Derived.Test.YtkomocgodljecaaGreatDoorJ5
import Derived.Test.YtkomocgodljecaaGreatDoorJ12
import Derived.Test.YtkomocgodljecaaGreatDoorJ1
import Derived.Test.YtkomocgodljecaaGreatDoorProg
/- image.At: the number of an address's segment. -/
namespace Go.Proofs.YtkomocgodljecaaGreatDoor
open Go.RowKit
set_option maxRecDepth 100000

/-- Does an address stand in a segment? -/
def inS (addr : Int) (s : Seg) : Bool := !holeS s && (decide (s.addr ≤ addr) && decide (addr - s.addr < s.size))
def atS (ls : List Seg) (addr : Int) : Option Nat := idx (inS addr) ls
theorem Tryz.tSeg : Lay.Ty segL Tryz.prog 49 := Lay.Ty.mk' (by kernel_rfl) (by kernel_rfl)
theorem at1_any (s : Seg) (hs : 0 ≤ s.addr) (addr : Int) (ha : addr < 18446744073709551616) (p : Nat) (w : World) (hp : w.cell? ⟨p, 0, none⟩ = some (.int .u64 addr)) :
    Calls Tryz.prog 41 #[s.v, .pointer (some ⟨p, 0, none⟩)] w fun e w' => e = .returned (.bool (inS addr s)) ∧ Chg [] w w' := by
  have HH := Lib.hid (hole_any s)
  unfold inS
  generalize holeS s = b at *
  have Hp := Lib.hid hp
  clear hp
  cases b with
  | true =>
    go_enter Tryz.func41, Tryz.ntmps41
    go_wp2_with ((with_reducible refine Lay.bxL (L := segL) 49 s ?_ ?_); exact rfl; intro W1 bs ebs cbs xbs; replace ebs := Lib.hid ebs; replace cbs := Lib.hid cbs; replace xbs := Lib.hid xbs; refine Hid.out ?_)
    refine Lib.hid ?_
    go_wp2_with ((with_reducible refine Lay.ldL Tryz.tSeg s (xbs.out.in) ?_ ?_); exact rfl; refine Hid.out ?_)
    refine Lib.hid ?_
    go_wp2_with fail
    refine (HH.out _).mono ?_
    rintro e w' ⟨rfl, hc⟩
    have Hc := Lib.hid hc
    clear hc
    have p2 := (cbs.out.then Hc.out).cell Hp.out (by simp)
    have x1 := Seg.c_addr (xbs.out.frame Hc.out)
    have x2 := Seg.c_size (xbs.out.frame Hc.out)
    go_wp2
    go_ret
    exact ⟨rfl, cbs.out.then Hc.out⟩
  | false =>
    by_cases h1 : s.addr ≤ addr
    · have d1 : decide (s.addr ≤ addr) = true := by simpa using h1
      have hw : IntKind.u64.wrap (addr - s.addr) = addr - s.addr := by rw [IntKind.wrap_u64]; omega
      go_enter Tryz.func41, Tryz.ntmps41
      go_wp2_with ((with_reducible refine Lay.bxL (L := segL) 49 s ?_ ?_); exact rfl; intro W1 bs ebs cbs xbs; replace ebs := Lib.hid ebs; replace cbs := Lib.hid cbs; replace xbs := Lib.hid xbs; refine Hid.out ?_)
      refine Lib.hid ?_
      go_wp2_with ((with_reducible refine Lay.ldL Tryz.tSeg s (xbs.out.in) ?_ ?_); exact rfl; refine Hid.out ?_)
      refine Lib.hid ?_
      go_wp2_with fail
      refine (HH.out _).mono ?_
      rintro e w' ⟨rfl, hc⟩
      have Hc := Lib.hid hc
      clear hc
      have p2 := (cbs.out.then Hc.out).cell Hp.out (by simp)
      have x1 := Seg.c_addr (xbs.out.frame Hc.out)
      have x2 := Seg.c_size (xbs.out.frame Hc.out)
      go_wp2
      go_ret
      exact ⟨by rw [d1]; rfl, cbs.out.then Hc.out⟩
    · have d1 : decide (s.addr ≤ addr) = false := by simpa using h1
      go_enter Tryz.func41, Tryz.ntmps41
      go_wp2_with ((with_reducible refine Lay.bxL (L := segL) 49 s ?_ ?_); exact rfl; intro W1 bs ebs cbs xbs; replace ebs := Lib.hid ebs; replace cbs := Lib.hid cbs; replace xbs := Lib.hid xbs; refine Hid.out ?_)
      refine Lib.hid ?_
      go_wp2_with ((with_reducible refine Lay.ldL Tryz.tSeg s (xbs.out.in) ?_ ?_); exact rfl; refine Hid.out ?_)
      refine Lib.hid ?_
      go_wp2_with fail
      refine (HH.out _).mono ?_
      rintro e w' ⟨rfl, hc⟩
      have Hc := Lib.hid hc
      clear hc
      have p2 := (cbs.out.then Hc.out).cell Hp.out (by simp)
      have x1 := Seg.c_addr (xbs.out.frame Hc.out)
      have x2 := Seg.c_size (xbs.out.frame Hc.out)
      go_wp2
      go_ret
      exact ⟨by rw [d1]; rfl, cbs.out.then Hc.out⟩
/-- A segment's numbers are of their kinds. -/
def SegB (s : Seg) : Prop := (0 ≤ s.addr ∧ s.addr < 18446744073709551616) ∧ (0 ≤ s.size ∧ s.size < 18446744073709551616) ∧ (0 ≤ s.off ∧ s.off < 18446744073709551616) ∧ (0 ≤ s.fsize ∧ s.fsize < 18446744073709551616)
def SegsB (ls : List Seg) : Prop := ∀ k, k < ls.length → SegB (ls.getD k .zero)
set_option maxHeartbeats 1000000 in
theorem idxAt_any (ls : List Seg) (hls : SegsB ls) (addr : Int) (ha : addr < 18446744073709551616) (p : Nat) (v : Value) (w : World) (rd : segL.Rd w v ls) (hp : w.cell? ⟨p, 0, none⟩ = some (.int .u64 addr)) :
    Calls Tryz.prog 40 #[v, .func (.func 41) #[] #[.pointer (some ⟨p, 0, none⟩)]] w fun e w' => e = .returned (.int .i64 (idxI (atS ls addr))) ∧ Chg [] w w' := by
  obtain ⟨a, cap, rfl, hc1, hc2⟩ := rd.shape
  have HCL : Hid (∀ k, k < ls.length → ∀ W, Chg [] w W → Calls Tryz.prog 41 #[(ls.getD k .zero).v, .pointer (some ⟨p, 0, none⟩)] W fun e w' => e = .returned (.bool (inS addr (ls.getD k .zero))) ∧ Chg [] W w') := by
    refine Lib.hid ?_
    intro k hk W hW
    exact at1_any _ (hls k hk).1.1 addr ha p W (hW.cell hp (by simp))
  unfold atS
  generalize inS addr = P at *
  have HR := Lib.hid rd
  have Hls := Lib.hid hls
  have Ha := Lib.hid ha
  have Hp := Lib.hid hp
  clear rd hls ha hp
  go_enter Tryz.func40, Tryz.ntmps40
  go_wp2_with fail
  go_loopw [8] (fun s8 wr => ∃ k : Nat, k ≤ ls.length ∧ s8 = .int .i64 (k : Int) ∧ (∀ j, j < k → P (ls.getD j .zero) = false) ∧ Chg [] w wr) (fun s8 _ => ls.length - (intOf s8).toNat)
  case atStart => exact ⟨0, Nat.zero_le _, rfl, fun _ h => absurd h (Nat.not_lt_zero _), Chg.refl _ _⟩
  case round =>
    obtain ⟨k, hk, rfl, hno, hch⟩ := hrel
    have Hno := Lib.hid hno
    have Hch := Lib.hid hch
    clear hno hch
    by_cases hlt : k < ls.length
    · obtain ⟨b, off, rfl, hb, hcell⟩ := HR.out.at (by omega)
      have hI : segL.In w b (off + k * 7) (ls.getD k .zero) := hcell k hlt
      have HF := Lib.hid (HCL.out k hlt wr Hch.out)
      obtain ⟨s, hs⟩ : ∃ s, s = ls.getD k .zero := ⟨_, rfl⟩
      rw [← hs] at hI HF
      have hI2 := hI.frame Hch.out
      clear hI hcell hb
      have Hs := Lib.hid hs
      have HI := Lib.hid hI2
      clear hs hI2
      obtain ⟨q, hq⟩ : ∃ q, q = P s := ⟨_, rfl⟩
      rw [← hq] at HF
      go_wp2_with ((with_reducible refine Lay.ldL Tryz.tSeg s (HI.out) ?_ ?_); exact rfl; refine Hid.out ?_)
      refine Lib.hid ?_
      go_wp2_with fail
      refine HF.out.mono ?_
      rintro e w' ⟨rfl, hc⟩
      have HC := Lib.hid (Hch.out.then hc)
      clear hc
      cases q with
      | true =>
        have HE : Hid (idx P ls = some k) := Lib.hid (by rw [Hs.out] at hq; exact idx_some hlt hq.symm (fun j hj => Hno.out j hj))
        clear hq
        go_wp2
        go_ret
        exact ⟨by rw [HE.out]; rfl, HC.out⟩
      | false =>
        have Hq := Lib.hid hq
        clear hq
        go_wp2
        go_roundw
        case rel =>
          refine ⟨k + 1, hlt, by go_num, fun j hj => ?_, HC.out⟩
          by_cases e : j = k
          · subst e; rw [← Hs.out]; exact Hq.out.symm
          · exact Hno.out j (by omega)
        case measure => simp [intOf]; omega
    · have HE : Hid (idx P ls = none) := Lib.hid (idx_none (fun j hj => Hno.out j (by omega)))
      go_wp2
      go_ret
      exact ⟨by rw [HE.out]; rfl, Hch.out⟩
theorem At_img (m : Img) (ls : List Seg) (hls : SegsB ls) (addr : Int) (ha : addr < 18446744073709551616) (w : World) (rd : segL.Rd w m.segs.v ls) :
    Calls Tryz.prog 18 #[imgL.val m, .int .u64 addr] w fun e w' => e = .returned (.int .i64 (idxI (atS ls addr))) ∧ Chg [] w w' := by
  have HX := Lib.hid (fun p v w => idxAt_any ls hls addr ha p v w)
  have hmf : ∀ (fn : Fn) (first cap : Array Value) (w : World), (Instr.makeFunc fn first cap).run Tryz.prog w = .ok (.func fn first cap) w := fun _ _ _ _ => rfl
  have Rd := Lib.hid rd
  have Ha := Lib.hid ha
  have Hls := Lib.hid hls
  clear rd ha hls
  go_enter Tryz.func18, Tryz.ntmps18
  go_wp2_with ((with_reducible refine Lay.bxL (L := imgL) 30 m ?_ ?_); exact rfl; intro W bm ebm cbm xbm; replace ebm := Lib.hid ebm; replace cbm := Lib.hid cbm; replace xbm := Lib.hid xbm; refine Hid.out ?_)
  refine Lib.hid ?_
  have x4 := fun o => Img.c_segs (xbm.out.alloc o)
  go_wp2_with fail
  refine (HX.out W.heap.size _ _ ((Rd.out.frame cbm.out).frame ((Chg.refl _ _).alloc _)) ?_).mono ?_
  · rw [cell_of_heap (heap_alloc_eq _ _)]; rfl
  rintro e w' ⟨rfl, hc⟩
  have Hc := Lib.hid hc
  clear hc
  go_wp2
  go_ret
  exact ⟨rfl, (cbm.out.alloc _).then Hc.out⟩
end Go.Proofs.YtkomocgodljecaaGreatDoor
/- image.Place and image.Writable. -/
namespace Go.Proofs.YtkomocgodljecaaGreatDoor
open Go.RowKit
set_option maxRecDepth 100000

/-- The address of a place, or why there is none. -/
def placeS (ls : List Seg) (k o : Int) : Int × Int :=
  if k < ls.length then
    if holeS (ls.getD k.toNat .zero) then (0, 8) else if (ls.getD k.toNat .zero).size ≤ o then (0, 4) else (IntKind.u64.wrap ((ls.getD k.toNat .zero).addr + o), 0)
  else (0, 8)
set_option maxHeartbeats 1000000 in
theorem Place_any (m : Img) (ls : List Seg) (k : Int) (hk : 0 ≤ k) (o : Int) (w : World) (rd : segL.Rd w m.segs.v ls) :
    Calls Tryz.prog 73 #[imgL.val m, .int .u64 k, .int .u64 o] w fun e w' => e = .returned (.tuple #[.int .u64 (placeS ls k o).1, .int .i64 (placeS ls k o).2]) ∧ Chg [] w w' := by
  obtain ⟨a, cap, hv, hc1, hc2⟩ := rd.shape
  have hwl : IntKind.u64.wrap (ls.length : Int) = (ls.length : Int) := by rw [IntKind.wrap_u64]; omega
  have rd' := rd
  rw [hv] at rd'
  unfold SlV.v at hv
  have RD := Lib.hid rd'
  have Hc2 := Lib.hid hc2
  clear rd' hc2
  clear rd hc1
  by_cases h1 : k < ls.length
  · obtain ⟨K, rfl⟩ : ∃ K : Nat, k = K := ⟨k.toNat, by omega⟩
    have hK : K < ls.length := by omega
    have d1 : decide (ls.length ≤ K) = false := by simp; omega
    obtain ⟨b, off, rfl, _, hcell⟩ := RD.out.at (by omega)
    have hI : segL.In w b (off + K * 7) (ls.getD K .zero) := hcell K hK
    have HH := Lib.hid (hole_any (ls.getD K .zero))
    have hp : placeS ls K o = if holeS (ls.getD K .zero) then (0, 8) else if (ls.getD K .zero).size ≤ o then (0, 4) else (IntKind.u64.wrap ((ls.getD K .zero).addr + o), 0) := by
      unfold placeS
      rw [if_pos h1, Int.toNat_natCast]
    generalize ls.getD K .zero = s at *
    clear hcell
    have HI := Lib.hid hI
    clear hI
    cases hh : holeS s with
    | true =>
      rw [hh] at HH hp
      rw [show placeS ls K o = (0, 8) by rw [hp]; rfl]
      clear hp hh
      go_enter Tryz.func73, Tryz.ntmps73
      go_wp2_with ((with_reducible refine Lay.bxL (L := imgL) 30 m ?_ ?_); exact rfl; intro W1 bm ebm cbm xbm; replace ebm := Lib.hid ebm; replace cbm := Lib.hid cbm; replace xbm := Lib.hid xbm; refine Hid.out ?_)
      refine Lib.hid ?_
      have x4 := Img.c_segs xbm.out
      rw [hv] at x4
      go_wp2_with ((with_reducible refine Lay.ldG2 Tryz.tSeg s ((HI.out.frame cbm.out)) ?_ ?_ ?_); exact rfl; exact rfl; refine Hid.out ?_)
      refine Lib.hid ?_
      go_wp2_with fail
      refine (HH.out _).mono ?_
      rintro e w' ⟨rfl, hc⟩
      have Hc := Lib.hid hc
      clear hc
      go_wp2
      go_ret2
      exact ⟨rfl, cbm.out.then Hc.out⟩
    | false =>
      rw [hh, if_neg (by simp)] at hp
      rw [hh] at HH
      by_cases h2 : s.size ≤ o
      · have d2 : decide (s.size ≤ o) = true := by simpa using h2
        rw [if_pos h2] at hp
        rw [hp]
        clear hp hh h2
        go_enter Tryz.func73, Tryz.ntmps73
        go_wp2_with ((with_reducible refine Lay.bxL (L := imgL) 30 m ?_ ?_); exact rfl; intro W1 bm ebm cbm xbm; replace ebm := Lib.hid ebm; replace cbm := Lib.hid cbm; replace xbm := Lib.hid xbm; refine Hid.out ?_)
        refine Lib.hid ?_
        have x4 := Img.c_segs xbm.out
        rw [hv] at x4
        go_wp2_with ((with_reducible refine Lay.ldG2 Tryz.tSeg s ((HI.out.frame cbm.out)) ?_ ?_ ?_); exact rfl; exact rfl; refine Hid.out ?_)
        refine Lib.hid ?_
        go_wp2_with fail
        refine (HH.out _).mono ?_
        rintro e W2 ⟨rfl, hc⟩
        have C2 := Lib.hid (cbm.out.then hc)
        have X2 := Lib.hid (xbm.out.frame hc)
        clear hc x4
        have x4 := Img.c_segs X2.out
        rw [hv] at x4
        go_wp2_with ((with_reducible refine Lay.ldL Tryz.tSeg s ((HI.out.frame C2.out)) ?_ ?_); exact rfl; refine Hid.out ?_)
        refine Lib.hid ?_
        go_wp2_with ((with_reducible refine Lay.alL Tryz.tSeg ?_); intro W3 bs ebs cbs xbs; replace ebs := Lib.hid ebs; replace cbs := Lib.hid cbs; replace xbs := Lib.hid xbs; refine Hid.out ?_)
        refine Lib.hid ?_
        go_wp2_with ((with_reducible refine Lay.stL Tryz.tSeg s (xbs.out) ?_ ?_ ?_); exact rfl; exact rfl; intro W4 cW4 xW4; replace cW4 := Lib.hid cW4; replace xW4 := Lib.hid xW4; refine Hid.out ?_)
        refine Lib.hid ?_
        have C4 : Hid (Chg [] w W4) := Lib.hid (C2.out.then (cbs.out.new cW4.out (by rw [ebs.out]; exact Nat.le_refl _)))
        have x2 := Seg.c_size xW4.out
        clear x4
        go_wp2
        go_ret2
        exact ⟨rfl, C4.out⟩
      · have d2 : decide (s.size ≤ o) = false := by simpa using h2
        rw [if_neg h2] at hp
        rw [hp]
        clear hp hh h2
        go_enter Tryz.func73, Tryz.ntmps73
        go_wp2_with ((with_reducible refine Lay.bxL (L := imgL) 30 m ?_ ?_); exact rfl; intro W1 bm ebm cbm xbm; replace ebm := Lib.hid ebm; replace cbm := Lib.hid cbm; replace xbm := Lib.hid xbm; refine Hid.out ?_)
        refine Lib.hid ?_
        have x4 := Img.c_segs xbm.out
        rw [hv] at x4
        go_wp2_with ((with_reducible refine Lay.ldG2 Tryz.tSeg s ((HI.out.frame cbm.out)) ?_ ?_ ?_); exact rfl; exact rfl; refine Hid.out ?_)
        refine Lib.hid ?_
        go_wp2_with fail
        refine (HH.out _).mono ?_
        rintro e W2 ⟨rfl, hc⟩
        have C2 := Lib.hid (cbm.out.then hc)
        have X2 := Lib.hid (xbm.out.frame hc)
        clear hc x4
        have x4 := Img.c_segs X2.out
        rw [hv] at x4
        go_wp2_with ((with_reducible refine Lay.ldL Tryz.tSeg s ((HI.out.frame C2.out)) ?_ ?_); exact rfl; refine Hid.out ?_)
        refine Lib.hid ?_
        go_wp2_with ((with_reducible refine Lay.alL Tryz.tSeg ?_); intro W3 bs ebs cbs xbs; replace ebs := Lib.hid ebs; replace cbs := Lib.hid cbs; replace xbs := Lib.hid xbs; refine Hid.out ?_)
        refine Lib.hid ?_
        go_wp2_with ((with_reducible refine Lay.stL Tryz.tSeg s (xbs.out) ?_ ?_ ?_); exact rfl; exact rfl; intro W4 cW4 xW4; replace cW4 := Lib.hid cW4; replace xW4 := Lib.hid xW4; refine Hid.out ?_)
        refine Lib.hid ?_
        have C4 : Hid (Chg [] w W4) := Lib.hid (C2.out.then (cbs.out.new cW4.out (by rw [ebs.out]; exact Nat.le_refl _)))
        have x2 := Seg.c_size xW4.out
        clear x4
        have x1 := Seg.c_addr xW4.out
        go_wp2
        go_ret2
        exact ⟨rfl, C4.out⟩
  · have d1 : decide ((ls.length : Int) ≤ k) = true := by simp; omega
    rw [show placeS ls k o = (0, 8) by unfold placeS; rw [if_neg h1]]
    go_enter Tryz.func73, Tryz.ntmps73
    go_wp2_with ((with_reducible refine Lay.bxL (L := imgL) 30 m ?_ ?_); exact rfl; intro W1 bm ebm cbm xbm; replace ebm := Lib.hid ebm; replace cbm := Lib.hid cbm; replace xbm := Lib.hid xbm; refine Hid.out ?_)
    refine Lib.hid ?_
    have x4 := Img.c_segs xbm.out
    rw [hv] at x4
    go_wp2
    go_ret2
    exact ⟨rfl, cbm.out⟩
end Go.Proofs.YtkomocgodljecaaGreatDoor
/- The cursor's small methods, each walked once. -/
namespace Go.Proofs.YtkomocgodljecaaGreatDoor
open Go.RowKit

theorem At_any (b : Nat) (al : Value) (at_ : Int) (bg fl : Value) (w : World) (h : w.heap[b]? = some (.cells #[al, .int .i64 at_, bg, fl] 94 (0, 0))) :
    Calls Tryz.prog 119 #[.pointer (some ⟨b, 0, none⟩)] w fun e w' => e = .returned (.int .i64 at_) ∧ w = w' := by
  have h1 := cell_of_heap h 1
  clear h
  simp at h1
  go_enter Tryz.func119, Tryz.ntmps119
  go_wp2
  go_ret
  exact ⟨rfl, rfl⟩
theorem Fail_any (b : Nat) (al at_ bg fl : Value) (w : World) (h : w.heap[b]? = some (.cells #[al, at_, bg, fl] 94 (0, 0))) :
    Calls Tryz.prog 76 #[.pointer (some ⟨b, 0, none⟩)] w fun e w' => e = .returned (.tuple #[]) ∧ w.setCell ⟨b, 3, none⟩ (.bool true) = w' := by
  have h3 := cell_of_heap h 3
  have f3 := frozen_of_heap h 3
  clear h
  simp at h3
  go_enter Tryz.func76, Tryz.ntmps76
  go_wp2
  go_end0
  exact ⟨rfl, rfl⟩
theorem Left_any (b : Nat) (a : Option Addr) (n cap : Nat) (at_ : Int) (bg fl : Value) (w : World) (h : w.heap[b]? = some (.cells #[.slice a n cap, .int .i64 at_, bg, fl] 94 (0, 0)))
   (h0 : 0 ≤ at_) (hn : n ≤ 140737488355328) (h2 : at_ ≤ n) :
    Calls Tryz.prog 31 #[.pointer (some ⟨b, 0, none⟩)] w fun e w' => e = .returned (.int .i64 (n - at_)) ∧ Dr w w' := by
  have hc0 := cell_of_heap h 0
  have hc1 := cell_of_heap h 1
  clear h
  simp at hc0 hc1
  go_enter Tryz.func31, Tryz.ntmps31
  go_wp2
  go_quiet (fail)
  go_wp2
  go_ret
  exact ⟨rfl, (Dr.refl _).drewN _⟩
theorem well_any (b : Nat) (al at_ bg : Value) (fl is : Bool) (w : World) (h : w.heap[b]? = some (.cells #[al, at_, bg, .bool fl] 94 (0, 0))) :
    Calls Tryz.prog 61 #[.pointer (some ⟨b, 0, none⟩), .bool is] w fun e w' => e = .returned (.bool (is && !fl)) ∧ (if is then w else w.setCell ⟨b, 3, none⟩ (.bool true)) = w' := by
  have h3 := cell_of_heap h 3
  simp at h3
  go_enter Tryz.func61, Tryz.ntmps61
  cases is
  · go_wp2_with fail
    refine (Fail_any b al at_ bg (.bool fl) w h).mono ?_
    rintro e w' ⟨rfl, rfl⟩
    have h3' : (w.setCell ⟨b, 3, none⟩ (.bool true)).cell? ⟨b, 3, none⟩ = some (.bool true) := World.cell?_setCell_same _ _ _ h3
    clear h
    go_wp2
    go_ret
    exact ⟨rfl, rfl⟩
  · clear h
    go_wp2
    go_ret
    exact ⟨by simp, rfl⟩
/-- take, where so many stand there. -/
theorem take_some (b : Nat) (a : Option Addr) (n cap : Nat) (at_ m : Int) (bg : Value) (w : World) (h : w.heap[b]? = some (.cells #[.slice a n cap, .int .i64 at_, bg, .bool false] 94 (0, 0)))
   (h0 : 0 ≤ at_) (hn : n ≤ 140737488355328) (h2 : at_ ≤ n) (hm : 0 ≤ m) (hm2 : m ≤ n - at_) (hc : n ≤ cap) (hc2 : cap ≤ 9223372036854775807) (ha : 0 < m → ∃ d off, a = some ⟨d, off, none⟩) :
    Calls Tryz.prog 62 #[.pointer (some ⟨b, 0, none⟩), .int .i64 m] w fun e w' =>
      e = .returned (.slice (if m = 0 then a else a.map fun x => ⟨x.block, x.off + at_.toNat, none⟩) m.toNat m.toNat) ∧ Dr (w.setCell ⟨b, 1, none⟩ (.int .i64 (at_ + m))) w' := by
  have hc0 := cell_of_heap h 0
  have hc1 := cell_of_heap h 1
  have f1 := frozen_of_heap h 1
  simp at hc0 hc1
  by_cases hm0 : m = 0
  · subst hm0
    go_enter Tryz.func62, Tryz.ntmps62
    go_wp2_with fail
    refine (Left_any b a n cap at_ bg _ w h h0 hn h2).mono ?_
    rintro e w' ⟨rfl, hd⟩; obtain ⟨q, rfl⟩ := hd.ex; clear hd
    go_wp2_with fail
    refine (well_any b _ (.int .i64 at_) bg false true (w.drewN q) h).mono ?_
    rintro e w' ⟨rfl, rfl⟩
    cases a with
    | none =>
      go_wp2
      go_quiet (fail)
      go_wp2
      go_ret
      exact ⟨rfl, (((Dr.refl _).drewN _).set _ _).drewN _⟩
    | some a =>
      go_wp2
      go_quiet (fail)
      go_wp2
      go_ret
      exact ⟨rfl, (((Dr.refl _).drewN _).set _ _).drewN _⟩
  · obtain ⟨d, off, rfl⟩ := ha (by omega)
    have hne : ¬ (at_ + m).toNat = at_.toNat := by omega
    go_enter Tryz.func62, Tryz.ntmps62
    go_wp2_with fail
    refine (Left_any b (some ⟨d, off, none⟩) n cap at_ bg _ w h h0 hn h2).mono ?_
    rintro e w' ⟨rfl, hd⟩; obtain ⟨q, rfl⟩ := hd.ex; clear hd
    go_wp2_with fail
    refine (well_any b _ (.int .i64 at_) bg false true (w.drewN q) h).mono ?_
    rintro e w' ⟨rfl, rfl⟩
    go_wp2
    go_quiet (fail)
    go_wp2
    go_ret
    have e1 : (at_ + m).toNat - at_.toNat = m.toNat := by omega
    exact ⟨by simp [e1], (((Dr.refl _).drewN _).set _ _).drewN _⟩
end Go.Proofs.YtkomocgodljecaaGreatDoor
/- Plain lemmas: bytes as a number, either way round. No program in sight. -/
namespace Go.Proofs.YtkomocgodljecaaGreatDoor
open Go.RowKit

def leNum : List UInt8 → Nat
  | [] => 0
  | x :: r => x.toNat + 256 * leNum r
def beNum (l : List UInt8) : Nat := l.foldl (fun n x => n * 256 + x.toNat) 0
theorem leNum_snoc (l : List UInt8) (x : UInt8) : leNum (l ++ [x]) = leNum l + x.toNat * 256 ^ l.length := by
  induction l with
  | nil => simp [leNum]
  | cons y r ih => simp only [List.cons_append, leNum, ih, List.length_cons, Nat.pow_succ, Nat.mul_add]; rw [Nat.add_assoc, ← Nat.mul_assoc, ← Nat.mul_assoc, Nat.mul_comm 256 x.toNat, Nat.mul_assoc x.toNat, Nat.mul_comm 256 (256 ^ r.length)]; simp [Nat.mul_assoc]
theorem leNum_lt (l : List UInt8) : leNum l < 256 ^ l.length := by
  induction l with
  | nil => simp [leNum]
  | cons y r ih => have := y.toNat_lt; simp only [leNum, List.length_cons, Nat.pow_succ]; omega
theorem beNum_snoc (l : List UInt8) (x : UInt8) : beNum (l ++ [x]) = beNum l * 256 + x.toNat := by simp [beNum]
theorem beNum_lt (l : List UInt8) : beNum l < 256 ^ l.length := by
  have h : ∀ (n : Nat) (m : List UInt8), m.length = n → beNum m < 256 ^ n := by
    intro n
    induction n with
    | zero => intro m hm; rw [List.length_eq_zero_iff.1 hm]; simp [beNum]
    | succ n ih =>
      intro m hm
      obtain ⟨r, x, rfl⟩ : ∃ r x, m = r ++ [x] := ⟨m.dropLast, m.getLast (by intro e; subst e; simp at hm), (List.dropLast_concat_getLast _).symm⟩
      have := ih r (by simpa using hm)
      have := x.toNat_lt
      rw [beNum_snoc, Nat.pow_succ]; omega
  exact h _ l rfl
/-- A number's bytes, whichever way round. -/
def numOf (big : Bool) (l : List UInt8) : Nat := if big then beNum l else leNum l
theorem pow_le8 (k : Nat) (h : k ≤ 8) : 256 ^ k ≤ 18446744073709551616 := by
  have : (256 : Nat) ^ k ≤ 256 ^ 8 := Nat.pow_le_pow_right (by omega) h
  simpa using this
theorem take_snoc8 (l : List UInt8) (k : Nat) (h : k < l.length) : l.take (k + 1) = l.take k ++ [l[k]?.getD 0] := by
  rw [List.take_add_one, List.getElem?_eq_getElem h]; rfl
theorem le_step (l : List UInt8) (k : Nat) (h : k < l.length) (h8 : l.length ≤ 8) :
    bits .or .u64 (leNum (l.take k) : Int) (IntKind.u64.wrap (IntKind.u64.wrap ((l[k]?.getD 0).toNat : Int) * 2 ^ (8 * k))) = (leNum (l.take (k + 1)) : Int) := by
  have hb := (l[k]?.getD 0).toNat_lt
  have hk : (l.take k).length = k := by simp; omega
  have hlt := leNum_lt (l.take k)
  rw [hk] at hlt
  have h256 : (256 : Nat) ^ k = 2 ^ (8 * k) := by rw [Nat.pow_mul]
  have hp : 256 ^ (k + 1) ≤ 18446744073709551616 := pow_le8 (k + 1) (by omega)
  rw [Nat.pow_succ] at hp
  have hx : (l[k]?.getD 0).toNat * 2 ^ (8 * k) < 18446744073709551616 := by
    rw [← h256]
    have : (l[k]?.getD 0).toNat * 256 ^ k < 256 * 256 ^ k := (Nat.mul_lt_mul_right (Nat.pow_pos (by omega))).2 hb
    omega
  have e1 : IntKind.u64.wrap ((l[k]?.getD 0).toNat : Int) = ((l[k]?.getD 0).toNat : Int) := by rw [IntKind.wrap_u64]; omega
  have e2 : ((l[k]?.getD 0).toNat : Int) * 2 ^ (8 * k) = (((l[k]?.getD 0).toNat * 2 ^ (8 * k) : Nat) : Int) := by push_cast; rfl
  rw [e1, e2, IntKind.wrap_u64, Int.emod_eq_of_lt (by omega) (by omega), u64_or_nat _ _ (by omega) hx, Nat.or_comm, nat_join (8 * k) _ _ (Nat.mul_mod_left _ _) (by omega), take_snoc8 l k h, leNum_snoc, hk, h256]
  omega
theorem be_step (l : List UInt8) (k : Nat) (h : k < l.length) (h8 : l.length ≤ 8) :
    bits .or .u64 (IntKind.u64.wrap ((beNum (l.take k) : Int) * 256)) (IntKind.u64.wrap ((l[k]?.getD 0).toNat : Int)) = (beNum (l.take (k + 1)) : Int) := by
  have hb := (l[k]?.getD 0).toNat_lt
  have hk : (l.take k).length = k := by simp; omega
  have hlt := beNum_lt (l.take k)
  rw [hk] at hlt
  have hp : 256 ^ (k + 1) ≤ 18446744073709551616 := pow_le8 (k + 1) (by omega)
  rw [Nat.pow_succ] at hp
  have e1 : IntKind.u64.wrap ((l[k]?.getD 0).toNat : Int) = ((l[k]?.getD 0).toNat : Int) := by rw [IntKind.wrap_u64]; omega
  have e2 : (beNum (l.take k) : Int) * 256 = ((beNum (l.take k) * 256 : Nat) : Int) := (Int.natCast_mul _ 256).symm
  rw [e1, e2, IntKind.wrap_u64, Int.emod_eq_of_lt (by omega) (by omega), u64_or_nat _ _ (by omega) (by omega), nat_join 8 _ _ (Nat.mul_mod_left _ 256) (show _ < 256 by omega), take_snoc8 l k h, beNum_snoc]
end Go.Proofs.YtkomocgodljecaaGreatDoor
