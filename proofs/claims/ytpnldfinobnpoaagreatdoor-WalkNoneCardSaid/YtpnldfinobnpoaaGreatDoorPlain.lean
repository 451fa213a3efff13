/- clevislaw16.plain: an image of two pages. -/
import Derived.Test.YtpnldfinobnpoaaGreatDoorLow
import Derived.Test.YtpnldfinobnpoaaGreatDoorRecDep
namespace Go.Proofs.YtpnldfinobnpoaaGreatDoor
open Go.RowKit
set_option maxRecDepth 100000

def sA : ByteArray := ⟨#[97]⟩
def sB : ByteArray := ⟨#[98]⟩
def sD : ByteArray := ⟨#[100]⟩
/-- The segments of a plain image. -/
def plainSegs (low : Int) : List Seg := [⟨sA, low, 4096, 0, 4096, 5, ⟨none, 0, 0⟩⟩, ⟨sB, IntKind.u64.wrap (low + 4096), 16384, 4096, 4096, 3, ⟨none, 0, 0⟩⟩]
def plainDeps (n : Nat) : List Dep := List.replicate n ⟨sD, 1⟩
def plainImg (sg dp : SlV) : Img := { Img.zero with kind := 2, segs := sg, deps := dp }
theorem Tryz.infoDep : Lay.Info Tryz.prog 25 47 depL.n 24 := Lay.Info.mk' (z := .agg #[.string ⟨#[]⟩, .int .i64 0]) (by kernel_rfl) (by kernel_rfl) rfl
set_option maxHeartbeats 2000000 in
theorem plain_any (low : Int) (n : Nat) (hn : n ≤ 1000) (w : World) :
    Calls Tryz.prog 4 #[.int .u64 low, .int .i64 n] w fun e w' => ∃ sg dp, e = .returned (imgL.val (plainImg sg dp)) ∧ segL.Rd w' sg.v (plainSegs low) ∧ depL.Rd w' dp.v (plainDeps n) ∧ Chg [] w w' := by
  go_enter Tryz.func4, Tryz.ntmps4
  go_wp2_with ((with_reducible refine Lay.alL Tryz.tImg ?_); intro W1 br ebr cbr xbr; replace ebr := Lib.hid ebr; replace cbr := Lib.hid cbr; replace xbr := Lib.hid xbr; refine Hid.out ?_)
  refine Lib.hid ?_
  go_wp2_with ((with_reducible refine Lay.alL Tryz.tImg ?_); intro W2 bm ebm cbm xbm; replace ebm := Lib.hid ebm; replace cbm := Lib.hid cbm; replace xbm := Lib.hid xbm; refine Hid.out ?_)
  refine Lib.hid ?_
  go_wp2_with ((with_reducible refine Lay.stL Tryz.tImg { Img.zero with kind := 2 } (xbm.out) ?_ ?_ ?_); exact rfl; exact rfl; intro W3 cW3 xW3; replace cW3 := Lib.hid cW3; replace xW3 := Lib.hid xW3; refine Hid.out ?_)
  refine Lib.hid ?_
  have x4 := fun o => Img.c_segs (xW3.out.alloc o)
  have z4 := fun o => (xW3.out.alloc o).frozen 4
  go_upto_region 4 with fail
  refine Lay.with_world (fun W => ∃ bs, imgL.Box W bm (plainImg ⟨some ⟨bs, 0, none⟩, 2, 2⟩ ⟨none, 0, 0⟩) ∧ imgL.Box W br Img.zero ∧ segL.Rd W (.slice (some ⟨bs, 0, none⟩) 2 2) (plainSegs low) ∧ bs ≠ bm ∧ bs ≠ br ∧ Chg [] w W) ⟨W3.heap.size, ?_, ?_, ?_, ?_, ?_, ?_⟩ (fun W hW => ?_)
  · exact Img.set_segs (xW3.out.alloc _) ⟨some ⟨W3.heap.size, 0, none⟩, 2, 2⟩
  · refine Lay.Box.setCell (Lay.Box.alloc ((xbr.out.frame cbm.out).frameS cW3.out ?_) _) _ _ ?_
    · have := xbr.out.lt; have := ebm.out; simp; omega
    · have := xbr.out.lt; have := ebm.out; dsimp only; omega
  · refine Lay.Rd.of_heap (E := 44) (fz := (0, 0)) ((heap_setCell_ne ?_ _).trans (heap_alloc_eq _ _)) rfl rfl (show 2 ≤ maxLen by decide)
    have := xW3.out.lt; dsimp only; omega
  · have := xW3.out.lt; omega
  · have := xW3.out.lt; have := xbr.out.lt; have := ebm.out; omega
  · exact ((((cbr.out.then cbm.out).new cW3.out (by rw [ebm.out]; exact cbr.out.size)).alloc _).setCell _ _ (.inr (by rw [ebm.out]; exact cbr.out.size)))
  obtain ⟨bs, hB, hR, hS, hne, hne2, hC⟩ := hW
  have hbr : w.heap.size ≤ br := by rw [ebr.out]; exact Nat.le_refl _
  have hbm : w.heap.size ≤ bm := by rw [ebm.out]; exact cbr.out.size
  have hbrm : br ≠ bm := by have := xbr.out.lt; have := ebm.out; omega
  have hbsz : bm < W.heap.size := hB.lt
  have hbrz : br < W.heap.size := hR.lt
  clear x4 z4 ebr cbr xbr ebm cbm xbm cW3 xW3
  have HB := Lib.hid hB
  have HR := Lib.hid hR
  have HS := Lib.hid hS
  have HCw := Lib.hid hC
  clear hB hR hS hC
  go_loopw [6] (fun s6 wr => ∃ (k : Nat) (dp : SlV), k ≤ n ∧ s6 = .int .i64 (k : Int) ∧ imgL.Box wr bm (plainImg ⟨some ⟨bs, 0, none⟩, 2, 2⟩ dp) ∧ depL.Buf 47 wr W.heap.size dp.v (plainDeps k) ∧ Chg [bm] W wr) (fun s6 _ => n - (intOf s6).toNat)
  case atStart => exact ⟨0, ⟨none, 0, 0⟩, Nat.zero_le _, rfl, HB.out, Lay.Buf.nil _ _, Chg.refl _ _⟩
  case round =>
    obtain ⟨k, dp, hk, rfl, hb, hu, hch⟩ := hrel
    obtain ⟨ad, nd, cd⟩ := dp
    obtain ⟨_, _, he, hc1, hc2⟩ := hu.rd.shape
    cases he
    have hlen : (plainDeps k).length = k := List.length_replicate
    rw [hlen] at hc1 hb hu
    replace hu : depL.Buf 47 wr W.heap.size (.slice ad k cd) (plainDeps k) := hu
    have Hlen := Lib.hid hlen
    have B := Lib.hid hb
    have U := Lib.hid hu
    have HC := Lib.hid hch
    clear hlen hb hu hch
    by_cases hlt : k < n
    · have x5 : wr.cell? ⟨bm, 5, none⟩ = some (.slice ad k cd) := Img.c_deps B.out
      go_wp2_with (at_builtin; refine Lay.app (L := depL) Tryz.infoDep rfl _ _ rfl W.heap.size (.slice ad k cd) (plainDeps k) rfl (U.out.pure ((Chg.refl _ _).alloc _)) _ rfl [⟨sD, 1⟩] (Lay.Rd.of_heap (heap_alloc_eq _ _) rfl rfl (by decide)) (by rw [Hlen.out]; simp; omega) (by rw [Hlen.out]; simp; omega) (Nat.le_trans HC.out.size (by simp)) ?_; intro v' wb hov hgv hloc; refine Hid.out ?_)
      refine Lib.hid ?_
      clear hloc x5
      obtain ⟨a', c', rfl, hl', hm'⟩ := hov.rd.shape
      have e1 : (plainDeps k ++ [⟨sD, 1⟩]) = plainDeps (k + 1) := (List.replicate_succ' ..).symm
      have e2 : (plainDeps (k + 1)).length = k + 1 := List.length_replicate
      rw [e1, e2] at hov hl'
      rw [e1, e2]
      have hrow : bm ∉ (Value.ownBlock (.slice ad k cd)).toList := by
        intro hm
        have := (U.out.lt bm (by simpa using hm)).1
        omega
      have B2 := (B.out.alloc (.cells #[.string sD, .int .i64 1] 47)).frameS (Lay.chg_grown hgv) hrow
      have C2 : Hid (Chg [bm] W wb) := by
        refine Lib.hid ?_
        refine (HC.out.alloc (.cells #[.string sD, .int .i64 1] 47)).trans (Lay.chg_grown hgv) (fun i hi hw => ?_)
        have := (U.out.lt i (by simpa using hi)).1
        omega
      have x5 := Img.c_deps B2
      have z5 := B2.frozen 5
      have B3 := Lib.hid B2
      have Hov := Lib.hid hov
      have Hgv := Lib.hid hgv
      have E1 := Lib.hid e1
      have E2 := Lib.hid e2
      have Hrow := Lib.hid hrow
      clear B2 hov hgv e1 e2 hrow
      go_wp2
      go_roundw
      case rel =>
        refine ⟨k + 1, ⟨a', k + 1, c'⟩, hlt, by go_num, Img.set_deps B3.out ⟨a', k + 1, c'⟩, ?_, C2.out.setCell _ _ (.inl (by simp))⟩
        refine Hov.out.frame ((Chg.refl [bm] wb).setCell _ _ (.inl (by simp))) (fun b hb hm => ?_)
        have := (Hov.out.lt b hb).1
        simp at hm
        omega
      case measure => simp [intOf]; omega
    · obtain rfl : k = n := by omega
      have R2 := Lib.hid (HR.out.frameS HC.out (by simpa using hbrm))
      have S2 := Lib.hid (HS.out.frameS HC.out (by intro b hb; simp [Value.ownBlock] at hb; subst hb; simpa using hne))
      go_wp2_with ((with_reducible refine Lay.ldL Tryz.tImg (plainImg ⟨some ⟨bs, 0, none⟩, 2, 2⟩ ⟨ad, k, cd⟩) (B.out.in) ?_ ?_); exact rfl; refine Hid.out ?_)
      refine Lib.hid ?_
      go_wp2_with ((with_reducible refine Lay.stL Tryz.tImg (plainImg ⟨some ⟨bs, 0, none⟩, 2, 2⟩ ⟨ad, k, cd⟩) (R2.out) ?_ ?_ ?_); exact rfl; exact rfl; intro W9 cW9 xW9; replace cW9 := Lib.hid cW9; replace xW9 := Lib.hid xW9; refine Hid.out ?_)
      refine Lib.hid ?_
      go_wp2
      refine Lay.ret1 Tryz.tImg Tryz.results4 xW9.out rfl rfl ?_
      refine ⟨⟨some ⟨bs, 0, none⟩, 2, 2⟩, ⟨ad, k, cd⟩, rfl, S2.out.frameS cW9.out ?_, (U.out.frame cW9.out ?_).rd, (HCw.out.new HC.out hbm).trans cW9.out (fun i hi hw => ?_)⟩
      · intro b hb
        simp [Value.ownBlock] at hb
        subst hb
        simpa using hne2
      · intro b hb
        have := (U.out.lt b hb).1
        simp
        omega
      · simp at hi
        omega
end Go.Proofs.YtpnldfinobnpoaaGreatDoor
