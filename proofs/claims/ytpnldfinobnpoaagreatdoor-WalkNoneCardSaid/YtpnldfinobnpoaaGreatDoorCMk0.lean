/- chain.Make of nothing, at an image of two segments. -/
import Derived.Test.YtpnldfinobnpoaaGreatDoorCMk
namespace Go.Proofs.YtpnldfinobnpoaaGreatDoor
open Go.RowKit
set_option maxRecDepth 100000

def hdW0 : List Nat := [0, 28, 40, 40, 0, 3, 0]
def mkB0 : List UInt8 := hdB hdW0 ++ laid0 2 ++ [] ++ [0]
theorem mkB0_len : mkB0.length = 41 := rfl
set_option maxHeartbeats 1000000 in
theorem cmake_0 (c : Chn) (hst : c.starts.n = 0) (he : c.imps.v = .slice none 0 0) (m : Img) (hn : m.segs.n = 2) (w : World) :
    Calls Tryz.prog 20 #[chnL.val c, imgL.val m, .int .i64 3] w fun e w' => (∃ v, e = .returned (.tuple #[v, .int .i64 0]) ∧ BB w' w.heap.size v mkB0) ∧ Chg [] w w' := by
  have q1 := fun W => (Lay.run_eql_func (P := Tryz.prog) Tryz.underlying87 W).1
  have q2 := fun W => (Lay.run_eql_func (P := Tryz.prog) Tryz.underlying87 W).2.1
  have Hfv : Hid ((rdF 3).getD .nilFunc = .func (.func 72) #[] #[]) := Lib.hid (by simp [rdF, Map.put])
  have HNM : Hid (∀ W, Calls Tryz.prog 62 #[.slice none 0 0, imgL.val m, .int .i64 3] W fun e w' => (∃ v1 v2, e = .returned (.tuple #[v1, v2, .bool true]) ∧ BB w' W.heap.size v1 [] ∧ BB w' W.heap.size v2 [0]) ∧ Chg [] W w') := by
    refine Lib.hid ?_
    intro W
    have := named_any [] (by decide) (by intro x hx; cases hx) (.slice none 0 0) m 3 W (Lay.Rd.nil _)
    exact this
  go_enter Tryz.func20, Tryz.ntmps20
  go_wp2_with ((with_reducible refine Lay.bxL (L := chnL) 51 c ?_ ?_); exact rfl; intro W1 bc ebc cbc xbc; replace ebc := Lib.hid ebc; replace cbc := Lib.hid cbc; replace xbc := Lib.hid xbc; refine Hid.out ?_)
  refine Lib.hid ?_
  go_wp2_with ((with_reducible refine Lay.bxL (L := imgL) 30 m ?_ ?_); exact rfl; intro W2 bm ebm cbm xbm; replace ebm := Lib.hid ebm; replace cbm := Lib.hid cbm; replace xbm := Lib.hid xbm; refine Hid.out ?_)
  refine Lib.hid ?_
  go_wp2_with fail
  refine (readers_any _).mono ?_
  rintro e W3 ⟨br, rfl, hm3, hc3⟩
  have Hm3 := Lib.hid hm3
  have Hc3 := Lib.hid hc3
  clear hm3 hc3
  have XC := Lib.hid ((xbc.out.frame cbm.out).frame Hc3.out)
  have XM := Lib.hid (xbm.out.frame Hc3.out)
  have y0 := Chn.c_starts XC.out
  have y1 := Chn.c_imps XC.out
  rw [hst] at y0
  rw [show Value.slice c.imps.a c.imps.n c.imps.cap = .slice none 0 0 from he] at y1
  go_wp2_with ((with_reducible refine getV Tryz.tRdC Hm3.out 3 (.func (.func 72) #[] #[]) Hfv.out ?_ ?_ ?_); exact rfl; exact rfl; refine Hid.out ?_)
  refine Lib.hid ?_
  go_wp2_with ((with_reducible refine ldG Tryz.tImg m (XM.out.in) ?_ ?_ ?_); exact rfl; exact rfl; refine Hid.out ?_)
  refine Lib.hid ?_
  go_wp2_with fail
  refine (may_nil c.starts.a c.starts.cap m _).mono ?_
  rintro e W4 ⟨rfl, hc4⟩
  have C4 := Lib.hid (Hc3.out.then hc4)
  have XM4 := Lib.hid (XM.out.frame hc4)
  have XC4 := Lib.hid (XC.out.frame hc4)
  clear hc4 XM XC
  clear y0 y1
  have y0 := Chn.c_starts XC4.out
  have y1 := Chn.c_imps XC4.out
  rw [hst] at y0
  rw [show Value.slice c.imps.a c.imps.n c.imps.cap = .slice none 0 0 from he] at y1
  go_wp2_with ((with_reducible refine Lay.ldL Tryz.tImg m (XM4.out.in) ?_ ?_); exact rfl; refine Hid.out ?_)
  refine Lib.hid ?_
  go_wp2_with fail
  refine (HNM.out _).mono ?_
  rintro e W5 ⟨⟨v1, v2, rfl, hb1, hb2⟩, hc5⟩
  obtain ⟨a1, c1, rfl, hl1, hm1⟩ := hb1.rd.shape
  obtain ⟨a2, c2, rfl, hl2, hm2⟩ := hb2.rd.shape
  have C5 := Lib.hid (C4.out.then hc5)
  have B1 := Lib.hid (hb1)
  have B2 := Lib.hid (hb2)
  have XC5 := Lib.hid (XC4.out.frame hc5)
  have XM5 := Lib.hid (XM4.out.frame hc5)
  clear hb1 hb2 hc5 XC4 XM4
  clear y0 y1
  have y0 := Chn.c_starts XC5.out
  have y1 := Chn.c_imps XC5.out
  rw [hst] at y0
  rw [show Value.slice c.imps.a c.imps.n c.imps.cap = .slice none 0 0 from he] at y1
  go_wp2_with ((with_reducible refine Lay.ldL Tryz.tImg m (XM5.out.in) ?_ ?_); exact rfl; refine Hid.out ?_)
  refine Lib.hid ?_
  go_wp2_with fail
  refine (laid_nil c.starts.a c.starts.cap m 2 (by decide) hn _).mono ?_
  rintro e W6 ⟨vb, rfl, hbb, hc6⟩
  obtain ⟨a8, c8, rfl, hl8, hm8⟩ := hbb.rd.shape
  rw [show (laid0 2).length = 12 from rfl] at hbb hl8 ⊢
  have BB6 : Hid (BB W6 W5.heap.size (.slice a8 12 c8) (laid0 2)) := Lib.hid (hbb)
  have D6 := Lib.hid (hc6)
  clear hbb hc6 XM5 y0 y1
  go_wp2_with fail
  go_loopw [11] (fun s11 wr => s11 = .slice a8 12 c8 ∧ wr = W6) (fun _ _ => 0)
  case atStart => exact ⟨rfl, rfl⟩
  case round =>
    obtain ⟨rfl, rfl⟩ := hrel
    obtain ⟨W8, rfl⟩ : ∃ x, x = wr := ⟨_, rfl⟩
    have XC8 := Lib.hid (XC5.out.frame D6.out)
    have y1 := Chn.c_imps XC8.out
    rw [show Value.slice c.imps.a c.imps.n c.imps.cap = .slice none 0 0 from he] at y1
    go_wp2_with fail
    go_loopw [13, 71] (fun s13 s71 wq => ∃ k : Nat, k ≤ 7 ∧ s71 = .int .i64 (k : Int) ∧ BB wq (W8.heap.size + 1) s13 (hdB (hdW0.take k)) ∧ i64L.Rd wq (.slice (some ⟨W8.heap.size, 0, none⟩) 7 7) [0, 28, 40, 40, 0, 3, 0] ∧ Chg [] W8 wq) (fun _ s71 _ => 7 - (intOf s71).toNat)
    case atStart => exact ⟨0, Nat.zero_le _, rfl, Lay.Buf.nil _ _, Lay.Rd.of_heap (heap_alloc_eq _ _) rfl rfl (show 7 ≤ maxLen by decide), (Chg.refl _ _).alloc _⟩
    case round =>
      obtain ⟨k, hk, rfl, hq, hrr, hcq⟩ := hrel
      have hszq : W8.heap.size + 1 ≤ wr.heap.size := by
        obtain ⟨b, off, e0, hb, _⟩ := hrr.at (by simp)
        cases e0
        omega
      by_cases hlt : k < 7
      · obtain ⟨b, off, e0, hb, hcell⟩ := hrr.at (by simp)
        cases e0
        have hI := hcell k hlt 0 (by decide)
        rw [show i64L.n = 1 from rfl, Nat.mul_one, Nat.zero_add, Nat.add_zero] at hI
        have c0 : wr.cell? ⟨W8.heap.size, k, none⟩ = some (.int .i64 (([0, 28, 40, 40, 0, 3, 0] : List Int).getD k 0)) := hI
        have hwd : IntKind.u64.wrap (([0, 28, 40, 40, 0, 3, 0] : List Int).getD k 0) = ((hdW0.getD k 0 : Nat) : Int) := by
          have hk7 : k = 0 ∨ k = 1 ∨ k = 2 ∨ k = 3 ∨ k = 4 ∨ k = 5 ∨ k = 6 := by omega
          rcases hk7 with rfl | rfl | rfl | rfl | rfl | rfl | rfl <;> decide
        have htk : hdW0.take (k + 1) = hdW0.take k ++ [hdW0.getD k 0] := by
          rw [List.take_add_one]
          have : k < hdW0.length := hlt
          simp [List.getD_eq_getElem?_getD, this]
        have hlq : (hdB (hdW0.take k)).length ≤ 28 := by rw [hdB_len, List.length_take]; omega
        generalize ([0, 28, 40, 40, 0, 3, 0] : List Int).getD k 0 = z at c0 hwd
        generalize hdW0.getD k 0 = N at hwd htk
        clear hI hcell hb
        have Hq := Lib.hid hq
        have Hrr := Lib.hid hrr
        have Hcq := Lib.hid hcq
        have Hszq := Lib.hid hszq
        have Htk := Lib.hid htk
        have Hlq := Lib.hid hlq
        clear hq hrr hcq hszq htk hlq
        go_wp2_with fail
        refine (put_any _ u13 (W8.heap.size + 1) N 4 (by decide) _ Hq.out (Nat.le_trans Hlq.out (by decide)) Hszq.out).mono ?_
        rintro e W9 ⟨v9, rfl, hb9, hc9, _⟩
        rw [← hdB_snoc, ← Htk.out] at hb9
        have C9 : Hid (Chg [] W8 W9) := Lib.hid (Hcq.out.trans hc9 (fun i hi hw => by have := (Hq.out.lt i (by simpa using hi)).1; omega))
        have R9 := Lib.hid (Hrr.out.frameS hc9 (fun b hb hm => by have := (Hq.out.lt b (by simpa using hm)).1; simp [Value.ownBlock] at hb; omega))
        have Hb9 := Lib.hid hb9
        clear hb9
        clear hc9
        go_wp2
        go_roundw
        case rel => exact ⟨k + 1, hlt, by go_num, Hb9.out, R9.out, C9.out⟩
        case measure => simp [intOf]; omega
      · obtain rfl : k = 7 := by omega
        have hh : hdB (hdW0.take 7) = hdB hdW0 := by rw [List.take_of_length_le (show hdW0.length ≤ 7 from Nat.le_refl _)]
        rw [hh] at hq
        have hl0 : (hdB hdW0).length = 28 := rfl
        have Hq := Lib.hid hq
        have Hrr := Lib.hid hrr
        have Hcq := Lib.hid hcq
        have Hszq := Lib.hid hszq
        clear hq hrr hcq hszq
        have G1 := Lib.hid (BB6.out.rd.frame Hcq.out)
        go_wp2_with (at_builtin; refine Lay.app (L := byteL) Tryz.infoByte rfl _ _ rfl (W8.heap.size + 1) u13 (hdB hdW0) rfl Hq.out _ rfl (laid0 2) G1.out (by rw [hl0]; decide) (by rw [hl0]; decide) Hszq.out ?_; intro va wa hov hgv hlc; refine Hid.out ?_)
        refine Lib.hid ?_
        have CA : Hid (Chg [] W8 wa) := Lib.hid (Hcq.out.trans (Lay.chg_grown hgv) (fun i hi hw => by have := (Hq.out.lt i (by simpa using hi)).1; omega))
        have BA := Lib.hid (hov)
        have SA := Lib.hid (Nat.le_trans Hszq.out hgv.size)
        have hl1 : (hdB hdW0 ++ laid0 2).length = 40 := rfl
        clear hov hgv hlc
        have G2 := Lib.hid ((B1.out.rd.frame D6.out).frame CA.out)
        go_wp2_with (at_builtin; refine Lay.app (L := byteL) Tryz.infoByte rfl _ _ rfl (W8.heap.size + 1) va (hdB hdW0 ++ laid0 2) rfl BA.out _ rfl [] G2.out (by rw [hl1]; decide) (by rw [hl1]; decide) SA.out ?_; intro vc wc hov hgv hlc; refine Hid.out ?_)
        refine Lib.hid ?_
        have CC : Hid (Chg [] W8 wc) := Lib.hid (CA.out.trans (Lay.chg_grown hgv) (fun i hi hw => by have := (BA.out.lt i (by simpa using hi)).1; omega))
        have BC := Lib.hid (hov)
        have SC := Lib.hid (Nat.le_trans SA.out hgv.size)
        have hl2 : (hdB hdW0 ++ laid0 2 ++ []).length = 40 := rfl
        clear hov hgv hlc
        have G3 := Lib.hid ((B2.out.rd.frame D6.out).frame CC.out)
        go_wp2_with (at_builtin; refine Lay.app (L := byteL) Tryz.infoByte rfl _ _ rfl (W8.heap.size + 1) vc (hdB hdW0 ++ laid0 2 ++ []) rfl BC.out _ rfl [0] G3.out (by rw [hl2]; decide) (by rw [hl2]; decide) SC.out ?_; intro vd wd hov hgv hlc; refine Hid.out ?_)
        refine Lib.hid ?_
        have CD : Hid (Chg [] W8 wd) := Lib.hid (CC.out.trans (Lay.chg_grown hgv) (fun i hi hw => by have := (BC.out.lt i (by simpa using hi)).1; omega))
        have BD := Lib.hid (hov)
        clear hov hgv hlc
        go_wp2
        go_ret2
        have CW : Hid (Chg [] w W8) := Lib.hid (((cbc.out.then cbm.out).then C5.out).then D6.out)
        exact ⟨⟨_, rfl, BD.out.mono (Nat.le_trans CW.out.size (Nat.le_succ _))⟩, CW.out.then CD.out⟩
end Go.Proofs.YtpnldfinobnpoaaGreatDoor
