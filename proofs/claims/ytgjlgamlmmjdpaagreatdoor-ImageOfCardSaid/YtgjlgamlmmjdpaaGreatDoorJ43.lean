/- Lemmas, laid together: part 43 of 43. Conditions: none but each lemma's own. -/
import Derived.Test.YtgjlgamlmmjdpaaGreatDoorJ4
import Derived.Test.YtgjlgamlmmjdpaaGreatDoorJ14
import Derived.Test.YtgjlgamlmmjdpaaGreatDoorJ42
import Derived.Test.YtgjlgamlmmjdpaaGreatDoorJ7
import Derived.Test.YtgjlgamlmmjdpaaGreatDoorJ26
/- image.Place and image.Writable. -/
namespace Go.Proofs.YtgjlgamlmmjdpaaGreatDoor
open Go.RowKit
set_option maxRecDepth 100000

/-- The address of a place, or why there is none. -/
def placeS (ls : List Seg) (k o : Int) : Int × Int :=
  if k < ls.length then
    if holeS (ls.getD k.toNat .zero) then (0, 8) else if (ls.getD k.toNat .zero).size ≤ o then (0, 4) else (IntKind.u64.wrap ((ls.getD k.toNat .zero).addr + o), 0)
  else (0, 8)
set_option maxHeartbeats 1000000 in
theorem Place_any (m : Img) (ls : List Seg) (k : Int) (hk : 0 ≤ k) (o : Int) (w : World) (rd : segL.Rd w m.segs.v ls) :
    Calls Tryz.prog 9 #[imgL.val m, .int .u64 k, .int .u64 o] w fun e w' => e = .returned (.tuple #[.int .u64 (placeS ls k o).1, .int .i64 (placeS ls k o).2]) ∧ Chg [] w w' := by
  obtain ⟨a, cap, hv, hc1, hc2⟩ := rd.shape
  have hwl : IntKind.u64.wrap (ls.length : Int) = (ls.length : Int) := by rw [IntKind.wrap_u64]; omega
  have rd' := rd
  rw [hv] at rd'
  unfold SlV.v at hv
  have RD := Lib.hid rd'
  have Hc2 := Lib.hid hc2
  clear rd' hc2
  clear rd hc1
  by_cases h1 : k < ls.length
  · obtain ⟨K, rfl⟩ : ∃ K : Nat, k = K := ⟨k.toNat, by omega⟩
    have hK : K < ls.length := by omega
    have d1 : decide (ls.length ≤ K) = false := by simp; omega
    obtain ⟨b, off, rfl, _, hcell⟩ := RD.out.at (by omega)
    have hI : segL.In w b (off + K * 7) (ls.getD K .zero) := hcell K hK
    have HH := Lib.hid (hole_any (ls.getD K .zero))
    have hp : placeS ls K o = if holeS (ls.getD K .zero) then (0, 8) else if (ls.getD K .zero).size ≤ o then (0, 4) else (IntKind.u64.wrap ((ls.getD K .zero).addr + o), 0) := by
      unfold placeS
      rw [if_pos h1, Int.toNat_natCast]
    generalize ls.getD K .zero = s at *
    clear hcell
    have HI := Lib.hid hI
    clear hI
    cases hh : holeS s with
    | true =>
      rw [hh] at HH hp
      rw [show placeS ls K o = (0, 8) by rw [hp]; rfl]
      clear hp hh
      go_enter Tryz.func9, Tryz.ntmps9
      go_wp2_with ((with_reducible refine Lay.bxL (L := imgL) 32 m ?_ ?_); exact rfl; intro W1 bm ebm cbm xbm; replace ebm := Lib.hid ebm; replace cbm := Lib.hid cbm; replace xbm := Lib.hid xbm; refine Hid.out ?_)
      refine Lib.hid ?_
      have x4 := Img.c_segs xbm.out
      rw [hv] at x4
      go_wp2_with ((with_reducible refine Lay.ldG2 Tryz.tSeg s ((HI.out.frame cbm.out)) ?_ ?_ ?_); exact rfl; exact rfl; refine Hid.out ?_)
      refine Lib.hid ?_
      go_wp2_with fail
      refine (HH.out _).mono ?_
      rintro e w' ⟨rfl, hc⟩
      have Hc := Lib.hid hc
      clear hc
      go_wp2
      go_ret2
      exact ⟨rfl, cbm.out.then Hc.out⟩
    | false =>
      rw [hh, if_neg (by simp)] at hp
      rw [hh] at HH
      by_cases h2 : s.size ≤ o
      · have d2 : decide (s.size ≤ o) = true := by simpa using h2
        rw [if_pos h2] at hp
        rw [hp]
        clear hp hh h2
        go_enter Tryz.func9, Tryz.ntmps9
        go_wp2_with ((with_reducible refine Lay.bxL (L := imgL) 32 m ?_ ?_); exact rfl; intro W1 bm ebm cbm xbm; replace ebm := Lib.hid ebm; replace cbm := Lib.hid cbm; replace xbm := Lib.hid xbm; refine Hid.out ?_)
        refine Lib.hid ?_
        have x4 := Img.c_segs xbm.out
        rw [hv] at x4
        go_wp2_with ((with_reducible refine Lay.ldG2 Tryz.tSeg s ((HI.out.frame cbm.out)) ?_ ?_ ?_); exact rfl; exact rfl; refine Hid.out ?_)
        refine Lib.hid ?_
        go_wp2_with fail
        refine (HH.out _).mono ?_
        rintro e W2 ⟨rfl, hc⟩
        have C2 := Lib.hid (cbm.out.then hc)
        have X2 := Lib.hid (xbm.out.frame hc)
        clear hc x4
        have x4 := Img.c_segs X2.out
        rw [hv] at x4
        go_wp2_with ((with_reducible refine Lay.ldL Tryz.tSeg s ((HI.out.frame C2.out)) ?_ ?_); exact rfl; refine Hid.out ?_)
        refine Lib.hid ?_
        go_wp2_with ((with_reducible refine Lay.alL Tryz.tSeg ?_); intro W3 bs ebs cbs xbs; replace ebs := Lib.hid ebs; replace cbs := Lib.hid cbs; replace xbs := Lib.hid xbs; refine Hid.out ?_)
        refine Lib.hid ?_
        go_wp2_with ((with_reducible refine Lay.stL Tryz.tSeg s (xbs.out) ?_ ?_ ?_); exact rfl; exact rfl; intro W4 cW4 xW4; replace cW4 := Lib.hid cW4; replace xW4 := Lib.hid xW4; refine Hid.out ?_)
        refine Lib.hid ?_
        have C4 : Hid (Chg [] w W4) := Lib.hid (C2.out.then (cbs.out.new cW4.out (by rw [ebs.out]; exact Nat.le_refl _)))
        have x2 := Seg.c_size xW4.out
        clear x4
        go_wp2
        go_ret2
        exact ⟨rfl, C4.out⟩
      · have d2 : decide (s.size ≤ o) = false := by simpa using h2
        rw [if_neg h2] at hp
        rw [hp]
        clear hp hh h2
        go_enter Tryz.func9, Tryz.ntmps9
        go_wp2_with ((with_reducible refine Lay.bxL (L := imgL) 32 m ?_ ?_); exact rfl; intro W1 bm ebm cbm xbm; replace ebm := Lib.hid ebm; replace cbm := Lib.hid cbm; replace xbm := Lib.hid xbm; refine Hid.out ?_)
        refine Lib.hid ?_
        have x4 := Img.c_segs xbm.out
        rw [hv] at x4
        go_wp2_with ((with_reducible refine Lay.ldG2 Tryz.tSeg s ((HI.out.frame cbm.out)) ?_ ?_ ?_); exact rfl; exact rfl; refine Hid.out ?_)
        refine Lib.hid ?_
        go_wp2_with fail
        refine (HH.out _).mono ?_
        rintro e W2 ⟨rfl, hc⟩
        have C2 := Lib.hid (cbm.out.then hc)
        have X2 := Lib.hid (xbm.out.frame hc)
        clear hc x4
        have x4 := Img.c_segs X2.out
        rw [hv] at x4
        go_wp2_with ((with_reducible refine Lay.ldL Tryz.tSeg s ((HI.out.frame C2.out)) ?_ ?_); exact rfl; refine Hid.out ?_)
        refine Lib.hid ?_
        go_wp2_with ((with_reducible refine Lay.alL Tryz.tSeg ?_); intro W3 bs ebs cbs xbs; replace ebs := Lib.hid ebs; replace cbs := Lib.hid cbs; replace xbs := Lib.hid xbs; refine Hid.out ?_)
        refine Lib.hid ?_
        go_wp2_with ((with_reducible refine Lay.stL Tryz.tSeg s (xbs.out) ?_ ?_ ?_); exact rfl; exact rfl; intro W4 cW4 xW4; replace cW4 := Lib.hid cW4; replace xW4 := Lib.hid xW4; refine Hid.out ?_)
        refine Lib.hid ?_
        have C4 : Hid (Chg [] w W4) := Lib.hid (C2.out.then (cbs.out.new cW4.out (by rw [ebs.out]; exact Nat.le_refl _)))
        have x2 := Seg.c_size xW4.out
        clear x4
        have x1 := Seg.c_addr xW4.out
        go_wp2
        go_ret2
        exact ⟨rfl, C4.out⟩
  · have d1 : decide ((ls.length : Int) ≤ k) = true := by simp; omega
    rw [show placeS ls k o = (0, 8) by unfold placeS; rw [if_neg h1]]
    go_enter Tryz.func9, Tryz.ntmps9
    go_wp2_with ((with_reducible refine Lay.bxL (L := imgL) 32 m ?_ ?_); exact rfl; intro W1 bm ebm cbm xbm; replace ebm := Lib.hid ebm; replace cbm := Lib.hid cbm; replace xbm := Lib.hid xbm; refine Hid.out ?_)
    refine Lib.hid ?_
    have x4 := Img.c_segs xbm.out
    rw [hv] at x4
    go_wp2
    go_ret2
    exact ⟨rfl, cbm.out⟩
end Go.Proofs.YtgjlgamlmmjdpaaGreatDoor
/- The chapter's rows of layer 6: known. -/
namespace Go.Proofs.YtgjlgamlmmjdpaaGreatDoor
open Go.RowKit
set_option maxRecDepth 100000

def k6a : ByteArray := ⟨#[97]⟩
def k6b : ByteArray := ⟨#[98]⟩
def k6S (nm : ByteArray) : List Seg := [⟨k6a, 0, 4096, 0, 4096, 5, ⟨none, 0, 0⟩⟩, ⟨nm, 4096, 8192, 0, 0, 3, ⟨none, 0, 0⟩⟩]
def k6P (nm : ByteArray) : TP := ⟨{ Img.zero with kind := 2 }, (k6S nm).map (fun s => ⟨s, []⟩), [], fun _ => false, 0⟩
def k6M (g : Nat) : Img := { Img.zero with kind := 2, segs := ⟨some ⟨g, 0, none⟩, 2, 2⟩ }
def k6C : Array Value := #[.string k6a, .int .u64 0, .int .u64 4096, .int .u64 0, .int .u64 4096, .int .i64 5, .slice none 0 0, .string k6b, .int .u64 4096, .int .u64 8192, .int .u64 0, .int .u64 0, .int .i64 3, .slice none 0 0]
theorem k6PB (nm : ByteArray) : PB (k6P nm) := by
  refine ⟨⟨fun k hk => ?_, fun k hk j hj => ?_⟩, (spnsB_iff _).2 ?_⟩
  · have hk2 : k < 2 := hk
    have : k = 0 ∨ k = 1 := by omega
    rcases this with rfl | rfl
    · show SegB ⟨k6a, 0, 4096, 0, 4096, 5, ⟨none, 0, 0⟩⟩
      unfold SegB
      dsimp only
      omega
    · show SegB ⟨nm, 4096, 8192, 0, 0, 3, ⟨none, 0, 0⟩⟩
      unfold SegB
      dsimp only
      omega
  · have hk2 : k < 2 := hk
    have : k = 0 ∨ k = 1 := by omega
    rcases this with rfl | rfl
    · exact absurd hj (Nat.not_lt_zero _)
    · exact absurd hj (Nat.not_lt_zero _)
  · have : SpnOk ⟨0, 0⟩ := by unfold SpnOk; decide
    exact ⟨⟨this, this, this, this⟩, this, this, this, this⟩
theorem k6D {w : World} {g : Nat} {nm : ByteArray} (h : segL.Rd w (.slice (some ⟨g, 0, none⟩) 2 2) (k6S nm)) : DRd w (k6M g) (k6P nm) := by
  refine ⟨k6S nm, rfl, h, rfl, fun i hi => ?_, Lay.Rd.nil _⟩
  have hk2 : i < 2 := hi
  have : i = 0 ∨ i = 1 := by omega
  rcases this with rfl | rfl
  · exact ⟨rfl, Lay.Rd.nil _⟩
  · exact ⟨rfl, Lay.Rd.nil _⟩
theorem k6may : mayE 4096 32 (k6P k6b) = 0 := by decide +kernel
theorem k6may2 : mayE 4096 32 (k6P k6a) = 8 := by decide +kernel
theorem k6place : placeS (k6S k6b) 1 8191 = (12287, 0) := by decide +kernel
theorem k6high : highS (k6S k6a) = 12288 := by decide +kernel
set_option maxHeartbeats 4000000 in
theorem known6_any (w : World) : Calls Tryz.prog 4 #[] w fun e w' => e = .returned (.bool true) ∧ Chg [] w w' := by
  have HM := Lib.hid (fun g w hd => MayI_any (k6M g) (k6P k6b) 4096 32 (by decide) (k6PB k6b) w hd)
  have HM2 := Lib.hid (fun g w hd => MayI_any (k6M g) (k6P k6a) 4096 32 (by decide) (k6PB k6a) w hd)
  have HP := Lib.hid (fun g w hd => Place_any (k6M g) (k6S k6b) 1 (by decide) 8191 w hd)
  have HH := Lib.hid (fun g w hd => high_any (k6M g) (k6S k6a) w hd)
  rw [k6may] at HM
  rw [k6may2] at HM2
  rw [k6place] at HP
  rw [k6high] at HH
  go_enter Tryz.func4, Tryz.ntmps4
  go_wp2_with ((with_reducible refine Lay.alL Tryz.tIm ?_); intro Wa bm ebm cbm xbm; replace ebm := Lib.hid ebm; replace cbm := Lib.hid cbm; replace xbm := Lib.hid xbm; refine Hid.out ?_)
  refine Lib.hid ?_
  obtain ⟨g, hg⟩ : ∃ g, g = w.heap.size := ⟨_, rfl⟩
  go_wp2_with ((with_reducible refine Lay.stL Tryz.tIm (k6M w.heap.size) (xbm.out) ?_ ?_ ?_); exact rfl; exact rfl; intro Wb cWb xWb; replace cWb := Lib.hid cWb; replace xWb := Lib.hid xWb; refine Hid.out ?_)
  refine Lib.hid ?_
  have hsz : ∀ o, (w.alloc o).heap.size = w.heap.size + 1 := fun o => Array.size_push _
  have hbm : bm ≠ g ∧ w.heap.size ≤ bm := by
    have h1 := ebm.out
    rw [hsz] at h1
    omega
  have hcb : Chg [] w Wb := (((Chg.refl _ _).alloc _).then cbm.out).new cWb.out hbm.2
  have hbf : segL.Buf 42 Wb w.heap.size (.slice (some ⟨g, 0, none⟩) 2 2) (k6S k6b) := by
    refine Lay.Buf.of_heap (cs := k6C) ?_ rfl rfl (show 2 ≤ maxLen by decide) (Nat.le_of_eq hg.symm)
    · refine cWb.out.heap (cbm.out.heap ?_ (by simp)) (by simp; exact fun e => hbm.1 e.symm)
      rw [hg]
      exact heap_alloc_eq w _
  have hx := xWb.out
  rw [← hg] at hx
  have CB := Lib.hid (hcb)
  have B := Lib.hid (hbf)
  have X := Lib.hid (hx)
  have Hbm := Lib.hid hbm
  clear hbm
  clear hcb hbf hx ebm cbm xbm cWb xWb hsz
  rw [← hg]
  have Hg := Lib.hid hg
  clear hg
  go_wp2_with ((with_reducible refine Lay.ldL Tryz.tIm (k6M g) (X.out.in) ?_ ?_); exact rfl; refine Hid.out ?_)
  refine Lib.hid ?_
  go_wp2_with fail
  refine (HM.out g Wb (k6D B.out.rd)).mono ?_
  rintro e W1 ⟨rfl, hc⟩
  have C1 := Lib.hid (CB.out.then hc)
  have B1 := Lib.hid (B.out.pure hc)
  have X1 := Lib.hid (X.out.frame hc)
  clear hc
  go_wp2_with ((with_reducible refine Lay.ldL Tryz.tIm (k6M g) (X1.out.in) ?_ ?_); exact rfl; refine Hid.out ?_)
  refine Lib.hid ?_
  go_wp2_with fail
  refine (HP.out g W1 B1.out.rd).mono ?_
  rintro e W2 ⟨rfl, hc⟩
  have C2 := Lib.hid (C1.out.then hc)
  have B2 := Lib.hid (B1.out.pure hc)
  have X2 := Lib.hid (X1.out.frame hc)
  clear hc C1 B1 X1 CB B X
  have y4 : W2.cell? ⟨bm, 4, none⟩ = some (.slice (some ⟨g, 0, none⟩) 2 2) := Img.c_segs X2.out
  obtain ⟨g', cap', hsl, hg0, hg1, _, _, _, hfz, hIn⟩ := B2.out.at (show 2 ≠ 0 by decide)
  obtain rfl : g = g' := by injection hsl with h1 _ _; injection h1 with h1; injection h1
  have y7 : W2.cell? ⟨g, 7, none⟩ = some (.string k6b) := by
    have := hIn 1 (show 1 < 2 by decide) 0 (by decide)
    exact this
  have z7 := hfz 7
  clear hIn hfz hsl hg0 hg1
  go_upto_region 5 with fail
  refine Lay.with_world (fun W => segL.Rd W (.slice (some ⟨g, 0, none⟩) 2 2) (k6S k6a) ∧ imgL.Box W bm (k6M g) ∧ Chg [] w W) ⟨?_, ?_, ?_⟩ (fun W3 hW => ?_)
  · exact (Lay.Buf.set B2.out rfl 1 (show 1 < 2 by decide) 0 (by decide) (.string k6a) (⟨k6a, 4096, 8192, 0, 0, 3, ⟨none, 0, 0⟩⟩ : Seg) rfl).rd
  · exact X2.out.setCell _ _ (by exact Hbm.out.1)
  · exact C2.out.setCell _ _ (.inr (by exact Nat.le_of_eq Hg.out.symm))
  have R3 := Lib.hid (hW.1)
  have X3 := Lib.hid (hW.2.1)
  have C3 := Lib.hid (hW.2.2)
  clear hW y4 y7 z7
  go_wp2_with ((with_reducible refine ldG Tryz.tIm (k6M g) (X3.out.in) ?_ ?_ ?_); exact rfl; exact rfl; refine Hid.out ?_)
  refine Lib.hid ?_
  go_wp2_with fail
  refine (HM2.out g W3 (k6D R3.out)).mono ?_
  rintro e W4 ⟨rfl, hc⟩
  have C4 := Lib.hid (C3.out.then hc)
  have R4 := Lib.hid (R3.out.frame hc)
  have X4 := Lib.hid (X3.out.frame hc)
  clear hc
  go_wp2_with ((with_reducible refine ldG Tryz.tIm (k6M g) (X4.out.in) ?_ ?_ ?_); exact rfl; exact rfl; refine Hid.out ?_)
  refine Lib.hid ?_
  go_wp2_with fail
  refine (HH.out g W4 R4.out).mono ?_
  rintro e W5 ⟨rfl, hc⟩
  have C5 := Lib.hid (C4.out.then hc)
  clear hc
  go_wp2
  go_ret
  exact ⟨rfl, C5.out⟩
end Go.Proofs.YtgjlgamlmmjdpaaGreatDoor
/- clevislaw06.ImageOf, walked. -/
namespace Go.Proofs.YtgjlgamlmmjdpaaGreatDoor
open Go.RowKit
set_option maxRecDepth 100000

set_option maxHeartbeats 4000000 in
theorem ImageOf_big (w : World) (l : List UInt8) (a : Option Addr) (cap : Nat) (h : 30000 < l.length) :
    Calls Tryz.prog 3 #[.slice a l.length cap] w fun e w' => e = .returned (.bool true) ∧ Chg [] w w' := by
  have d1 : decide ((30000 : Int) < (l.length : Int)) = true := decide_eq_true (by omega)
  have d1' : decide (30000 < l.length) = true := decide_eq_true h
  have H := Lib.hid h
  clear h
  go_enter Tryz.func3, Tryz.ntmps3
  go_wp2_with fail
  refine (known6_any _).mono ?_
  rintro e WK ⟨rfl, hk⟩
  have Hk := Lib.hid hk
  clear hk
  go_wp2
  go_ret
  exact ⟨rfl, Hk.out⟩
set_option maxHeartbeats 4000000 in
theorem ImageOf_small (w : World) (hg : Env w) (l : List UInt8) (a : Option Addr) (cap : Nat) (rd : byteL.Rd w (.slice a l.length cap) l) (h : ¬ 30000 < l.length) :
    Calls Tryz.prog 3 #[.slice a l.length cap] w fun e w' => e = .returned (.bool true) ∧ Chg [] w w' := by
  have d1 : decide ((30000 : Int) < (l.length : Int)) = false := decide_eq_false (by omega)
  have d1' : decide (30000 < l.length) = false := decide_eq_false h
  have h1 := fun w hg rd => Of_any l (by omega) a cap w hg rd
  have h2 := fun w rd => ROf_any l (by omega) a cap w rd
  unfold OfSays at h1 h2
  obtain ⟨E, hEE⟩ : ∃ E, E = ofE l := ⟨_, rfl⟩
  rw [← hEE] at h1 h2
  obtain ⟨P, hP⟩ : ∃ P, P = imgP l := ⟨_, rfl⟩
  rw [← hP] at h1 h2
  have hee : (E == E) = true := by simp
  have H1 := Lib.hid h1
  have H2 := Lib.hid h2
  have HEE := Lib.hid hEE
  have HP := Lib.hid hP
  have Hg := Lib.hid hg
  have RD := Lib.hid rd
  have H := Lib.hid h
  clear h1 h2 hEE hP hg rd h
  go_enter Tryz.func3, Tryz.ntmps3
  go_wp2_with fail
  refine (H1.out _ Hg.out RD.out).mono ?_
  rintro e W1 ⟨m, rfl, hch, hd, hz⟩
  have C1 := Lib.hid (hch)
  have DM : Hid (DRd W1 m (if E = 0 then P else ⟨Img.zero, [], [], fun _ => false, 0⟩)) := by
    refine Lib.hid ?_
    by_cases h0 : E = 0
    · rw [if_pos h0]; exact (hd h0).rd
    · rw [if_neg h0, hz h0]; exact DRd.zero _ _ _
  clear hch hd hz
  go_wp2_with ((with_reducible refine Lay.alL Tryz.tIm ?_); intro W2 bm ebm cbm xbm; replace ebm := Lib.hid ebm; replace cbm := Lib.hid cbm; replace xbm := Lib.hid xbm; refine Hid.out ?_)
  refine Lib.hid ?_
  go_wp2_with ((with_reducible refine Lay.stL Tryz.tIm m (xbm.out) ?_ ?_ ?_); exact rfl; exact rfl; intro W3 cW3 xW3; replace cW3 := Lib.hid cW3; replace xW3 := Lib.hid xW3; refine Hid.out ?_)
  refine Lib.hid ?_
  have c13 := cbm.out.new cW3.out (by rw [ebm.out]; exact Nat.le_refl _)
  have C3 := Lib.hid (C1.out.then c13)
  have DM3 := Lib.hid (DM.out.frame c13)
  have XM3 := Lib.hid (xW3.out)
  clear c13 DM
  go_wp2_with fail
  refine (H2.out _ (RD.out.frame C3.out)).mono ?_
  rintro e W4 ⟨o, rfl, hch, hd, hz⟩
  have C4 := Lib.hid (C3.out.then hch)
  have DO : Hid (DRd W4 o (if E = 0 then P else ⟨Img.zero, [], [], fun _ => false, 0⟩)) := by
    refine Lib.hid ?_
    by_cases h0 : E = 0
    · rw [if_pos h0]; exact (hd h0).rd
    · rw [if_neg h0, hz h0]; exact DRd.zero _ _ _
  have DM4 := Lib.hid (DM3.out.frame hch)
  have XM4 := Lib.hid (XM3.out.frame hch)
  clear hch hd hz
  go_wp2_with ((with_reducible refine Lay.alL Tryz.tIm ?_); intro WA bo ebo cbo xbo; replace ebo := Lib.hid ebo; replace cbo := Lib.hid cbo; replace xbo := Lib.hid xbo; refine Hid.out ?_)
  refine Lib.hid ?_
  go_wp2_with ((with_reducible refine Lay.stL Tryz.tIm o (xbo.out) ?_ ?_ ?_); exact rfl; exact rfl; intro WB cWB xWB; replace cWB := Lib.hid cWB; replace xWB := Lib.hid xWB; refine Hid.out ?_)
  refine Lib.hid ?_
  have cAB := cbo.out.new cWB.out (by rw [ebo.out]; exact Nat.le_refl _)
  have CB := Lib.hid (C4.out.then cAB)
  have DMB := Lib.hid (DM4.out.frame cAB)
  have DOB := Lib.hid (DO.out.frame cAB)
  have XMB := Lib.hid (XM4.out.frame cAB)
  clear cAB
  go_wp2_with ((with_reducible refine ldG Tryz.tIm m (XMB.out.in) ?_ ?_ ?_); exact rfl; exact rfl; refine Hid.out ?_)
  refine Lib.hid ?_
  go_wp2_with ((with_reducible refine ldG Tryz.tIm o (xWB.out.in) ?_ ?_ ?_); exact rfl; exact rfl; refine Hid.out ?_)
  refine Lib.hid ?_
  go_wp2_with fail
  refine (Same05 m o _ WB DMB.out DOB.out).mono ?_
  rintro e WC ⟨rfl, hch⟩
  have CC := Lib.hid (CB.out.then hch)
  clear hch
  go_wp2_with fail
  refine (known6_any _).mono ?_
  rintro e WK ⟨rfl, hk⟩
  have Hk := Lib.hid hk
  clear hk
  go_wp2
  go_ret
  exact ⟨rfl, CC.out.then Hk.out⟩
theorem ImageOf_walk (w : World) (hg : Env w) (l : List UInt8) (a : Option Addr) (cap : Nat) (rd : Rd w (.slice a l.length cap) (bytesV l)) :
    Calls Tryz.prog 3 #[.slice a l.length cap] w fun e w' => e = .returned (.bool true) ∧ Chg [] w w' := by
  by_cases h : 30000 < l.length
  · exact ImageOf_big w l a cap h
  · exact ImageOf_small w hg l a cap (Rd_to_byte rd) h
end Go.Proofs.YtgjlgamlmmjdpaaGreatDoor
