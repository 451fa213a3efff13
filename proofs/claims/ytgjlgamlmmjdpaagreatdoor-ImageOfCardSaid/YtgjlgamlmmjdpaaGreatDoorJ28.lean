/- Lemmas, laid together: part 28 of 43. Conditions: none but each lemma's own. -/
import Derived.Test.YtgjlgamlmmjdpaaGreatDoorJ27
import Derived.Test.YtgjlgamlmmjdpaaGreatDoorJ14
import Derived.BigQuiet
import Derived.Deep.QuietTactic
/- image.High, image.spans, image.names. -/
namespace Go.Proofs.YtgjlgamlmmjdpaaGreatDoor
open Go.RowKit
set_option maxRecDepth 100000

def highF (h : Int) (s : Seg) : Int := if holeS s = true then h else max h (IntKind.u64.wrap (s.addr + s.size))
/-- Where an image ends. -/
def highS (ls : List Seg) : Int := ls.foldl highF 0
set_option maxHeartbeats 4000000 in
theorem high_any (m : Img) (ls : List Seg) (w : World) (rd : segL.Rd w m.segs.v ls) :
    Calls Tryz.prog 10 #[imgL.val m] w fun e w' => e = .returned (.int .u64 (highS ls)) ∧ Chg [] w w' := by
  have HH := Lib.hid (hole_any)
  obtain ⟨a, cap, hv, hc1, hc2⟩ := rd.shape
  have rd' := rd
  rw [hv] at rd'
  have hlen : ls.length ≤ 9223372036854775807 := Nat.le_trans hc1 hc2
  have Rd := Lib.hid rd
  have RD2 := Lib.hid rd'
  have Hc2 := Lib.hid hc2
  have Hlen := Lib.hid hlen
  clear rd rd' hc2 hlen
  clear hc1
  unfold SlV.v at hv
  go_enter Tryz.func10, Tryz.ntmps10
  go_wp2_with ((with_reducible refine Lay.bxL (L := imgL) 32 m ?_ ?_); exact rfl; intro W1 bm ebm cbm xbm; replace ebm := Lib.hid ebm; replace cbm := Lib.hid cbm; replace xbm := Lib.hid xbm; refine Hid.out ?_)
  refine Lib.hid ?_
  have x4 := Img.c_segs xbm.out
  rw [hv] at x4
  go_wp2_with fail
  clear x4
  go_loopw [3, 9] (fun s3 s9 wr => ∃ (k : Nat) (h : Int), k ≤ ls.length ∧ s9 = .int .i64 (k : Int) ∧ s3 = .int .u64 h ∧ Chg [] w wr ∧ (ls.drop k).foldl highF h = highS ls) (fun _ s9 _ => ls.length - (intOf s9).toNat)
  case atStart => exact ⟨0, 0, Nat.zero_le _, rfl, rfl, cbm.out, rfl⟩
  case round =>
    obtain ⟨k, h, hk, rfl, rfl, hck, hgo⟩ := hrel
    have CK := Lib.hid (hck)
    clear hck
    by_cases hlt : k < ls.length
    · have dlt : decide ((k : Int) < (ls.length : Int)) = true := decide_eq_true (by omega)
      obtain ⟨g, o, hao, _, hin⟩ := RD2.out.at (by omega)
      have hi := (hin k hlt).frame CK.out
      obtain ⟨s, hs⟩ : ∃ s, s = ls.getD k Seg.zero := ⟨_, rfl⟩
      rw [show ls.getD k segL.d = s from hs.symm] at hi
      rw [drop_getD ls k Seg.zero hlt] at hgo
      rw [← hs] at hgo
      rw [List.foldl_cons] at hgo
      rw [show segL.n = 7 from rfl] at hi
      subst hao
      obtain ⟨q, hq⟩ : ∃ q, q = holeS s := ⟨_, rfl⟩
      have hHs := fun w => HH.out s w
      rw [← hq] at hHs
      have hfs : highF h s = if q = true then h else max h (IntKind.u64.wrap (s.addr + s.size)) := by unfold highF; rw [← hq]
      rw [hfs] at hgo
      have Hi := Lib.hid hi
      have Hin := Lib.hid hin
      have Hs := Lib.hid hs
      have Hq := Lib.hid hq
      have HHs := Lib.hid hHs
      have Hfs := Lib.hid hfs
      clear hi hin hs hq hHs hfs
      go_wp2_with ((with_reducible refine Lay.ldL Tryz.tSeg s (Hi.out) ?_ ?_); exact rfl; refine Hid.out ?_)
      refine Lib.hid ?_
      go_wp2_with ((with_reducible refine Lay.alL Tryz.tSeg ?_); intro Wa bx ebx cbx xbx; replace ebx := Lib.hid ebx; replace cbx := Lib.hid cbx; replace xbx := Lib.hid xbx; refine Hid.out ?_)
      refine Lib.hid ?_
      go_wp2_with ((with_reducible refine Lay.stL Tryz.tSeg s (xbx.out) ?_ ?_ ?_); exact rfl; exact rfl; intro Wb cWb xWb; replace cWb := Lib.hid cWb; replace xWb := Lib.hid xWb; refine Hid.out ?_)
      refine Lib.hid ?_
      go_wp2_with ((with_reducible refine Lay.ldL Tryz.tSeg s (xWb.out.in) ?_ ?_); exact rfl; refine Hid.out ?_)
      refine Lib.hid ?_
      go_wp2_with fail
      refine (HHs.out Wb).mono ?_
      rintro e Wc ⟨rfl, hch⟩
      have K4 : Hid (Chg [] wr Wc) := Lib.hid ((cbx.out.new cWb.out (by rw [ebx.out]; exact Nat.le_refl _)).then hch)
      have X4 := Lib.hid (xWb.out.frame hch)
      clear hch
      have hw1 : wrap64 ((k : Int) + 1) = (k : Int) + 1 := by have := Hlen.out; unfold wrap64; omega
      cases q with
      | true =>
        rw [if_pos rfl] at hgo
        have Hgo := Lib.hid hgo
        clear hgo
        go_wp2
        go_roundw
        case rel => exact ⟨k + 1, _, hlt, by first | rfl | exact congrArg (Value.int .i64) hw1, rfl, CK.out.then K4.out, Hgo.out⟩
        case measure => exact meas_w hw1 hlt
      | false =>
        rw [if_neg (by decide)] at hgo
        have y1 := Seg.c_addr X4.out
        have y2 := Seg.c_size X4.out
        have Hgo := Lib.hid hgo
        clear hgo
        go_wp2
        clear y1 y2
        go_roundw
        case rel => exact ⟨k + 1, _, hlt, by first | rfl | exact congrArg (Value.int .i64) hw1, rfl, CK.out.then K4.out, Hgo.out⟩
        case measure => exact meas_w hw1 hlt
    · obtain rfl : k = ls.length := by omega
      have dlt : decide ((ls.length : Int) < (ls.length : Int)) = false := decide_eq_false (by omega)
      rw [List.drop_eq_nil_of_le (Nat.le_refl _)] at hgo
      have HE : Hid (h = highS ls) := Lib.hid (hgo)
      clear hgo
      go_wp2
      go_ret
      exact ⟨congrArg (fun z => Ending.returned (.int .u64 z)) HE.out, CK.out⟩
def namesE (m : Img) : Int := if (decide (m.kind = 6)) = !(decide (m.name.toList = [])) then 0 else 10
theorem names_any (m : Img) (n h : Int) (w : World) :
    Calls Tryz.prog 20 #[imgL.val m, .int .u64 n, .int .u64 h] w fun e w' => e = .returned (.int .i64 (namesE m)) ∧ Chg [] w w' := by
  unfold namesE
  by_cases h1 : m.kind = 6
  · have d1 : (m.kind == 6) = true := by rw [h1]; rfl
    by_cases h2 : m.name.toList = []
    · rw [decide_eq_true h1, decide_eq_true h2, if_neg (by decide)]
      go_enter Tryz.func20, Tryz.ntmps20
      go_wp2_with ((with_reducible refine Lay.bxL (L := imgL) 32 m ?_ ?_); exact rfl; intro W1 bm ebm cbm xbm; replace ebm := Lib.hid ebm; replace cbm := Lib.hid cbm; replace xbm := Lib.hid xbm; refine Hid.out ?_)
      refine Lib.hid ?_
      have y0 := Img.c_kind xbm.out
      have y1 := Img.c_name xbm.out
      go_wp2
      go_ret
      exact ⟨rfl, cbm.out⟩
    · have d2 : m.name.toList.isEmpty = false := by rw [← Bool.not_eq_true, List.isEmpty_iff]; exact h2
      rw [decide_eq_true h1, decide_eq_false h2, if_pos (by decide)]
      clear h2
      go_enter Tryz.func20, Tryz.ntmps20
      go_wp2_with ((with_reducible refine Lay.bxL (L := imgL) 32 m ?_ ?_); exact rfl; intro W1 bm ebm cbm xbm; replace ebm := Lib.hid ebm; replace cbm := Lib.hid cbm; replace xbm := Lib.hid xbm; refine Hid.out ?_)
      refine Lib.hid ?_
      have y0 := Img.c_kind xbm.out
      have y1 := Img.c_name xbm.out
      go_wp2
      go_ret
      exact ⟨rfl, cbm.out⟩
  · have d1 : (m.kind == 6) = false := by rw [beq_eq_false_iff_ne]; exact h1
    by_cases h2 : m.name.toList = []
    · rw [decide_eq_false h1, decide_eq_true h2, if_pos (by decide)]
      go_enter Tryz.func20, Tryz.ntmps20
      go_wp2_with ((with_reducible refine Lay.bxL (L := imgL) 32 m ?_ ?_); exact rfl; intro W1 bm ebm cbm xbm; replace ebm := Lib.hid ebm; replace cbm := Lib.hid cbm; replace xbm := Lib.hid xbm; refine Hid.out ?_)
      refine Lib.hid ?_
      have y0 := Img.c_kind xbm.out
      have y1 := Img.c_name xbm.out
      go_wp2
      go_ret
      exact ⟨rfl, cbm.out⟩
    · have d2 : m.name.toList.isEmpty = false := by rw [← Bool.not_eq_true, List.isEmpty_iff]; exact h2
      rw [decide_eq_false h1, decide_eq_false h2, if_neg (by decide)]
      clear h2
      go_enter Tryz.func20, Tryz.ntmps20
      go_wp2_with ((with_reducible refine Lay.bxL (L := imgL) 32 m ?_ ?_); exact rfl; intro W1 bm ebm cbm xbm; replace ebm := Lib.hid ebm; replace cbm := Lib.hid cbm; replace xbm := Lib.hid xbm; refine Hid.out ?_)
      refine Lib.hid ?_
      have y0 := Img.c_kind xbm.out
      have y1 := Img.c_name xbm.out
      go_wp2
      go_ret
      exact ⟨rfl, cbm.out⟩
theorem meas_v {L k : Nat} (h : k < L) : L - (intOf (.int .i64 ((k : Int) + 1))).toNat < L - (intOf (.int .i64 (k : Int))).toNat := by
  show L - ((k : Int) + 1).toNat < L - (k : Int).toNat
  omega
/-- An image's spans. -/
def spans8 (m : Img) : List Spn := [⟨m.rbO, m.rbS⟩, ⟨m.bdO, m.bdS⟩, ⟨m.wkO, m.wkS⟩, ⟨m.lzO, m.lzS⟩, ⟨m.trO, m.trS⟩, ⟨m.chO, m.chS⟩, ⟨m.syO, m.syS⟩, ⟨m.stO, m.stS⟩]
def spnB (n : Int) (x : Spn) : Bool := withinI x.off x.size n
def SpnsB (m : Img) : Prop := ∀ j, j < (spans8 m).length → (0 ≤ ((spans8 m).getD j .zero).off ∧ ((spans8 m).getD j .zero).off < 18446744073709551616) ∧ 0 ≤ ((spans8 m).getD j .zero).size ∧ ((spans8 m).getD j .zero).size < 18446744073709551616
/-- Why spans may not be (0: they may): ls are the segments. -/
def spansE (n : Int) (m : Img) (ls : List Seg) : Int :=
  if (spans8 m).all (spnB n) = true then (if m.syS % 16 = 0 then (if m.has = true then (if IntKind.u64.wrap (highS ls - lowS ls) ≤ m.entry then 4 else 0) else 0) else 4) else 4
set_option maxHeartbeats 8000000 in
theorem spans_any (m : Img) (ls : List Seg) (hb : SpnsB m) (n h : Int) (hn : n < 18446744073709551616) (w : World) (rd : segL.Rd w m.segs.v ls) :
    Calls Tryz.prog 19 #[imgL.val m, .int .u64 n, .int .u64 h] w fun e w' => e = .returned (.int .i64 (spansE n m ls)) ∧ Chg [] w w' := by
  have HHI := Lib.hid (high_any m ls)
  have HLO := Lib.hid (low_any m ls)
  obtain ⟨E, hEE⟩ : ∃ E, E = spansE n m ls := ⟨_, rfl⟩
  rw [← hEE]
  unfold spansE at hEE
  have Rd := Lib.hid rd
  have HEE := Lib.hid hEE
  have Hb := Lib.hid hb
  have Hn := Lib.hid hn
  clear rd hEE hb hn
  go_enter Tryz.func19, Tryz.ntmps19
  go_wp2_with ((with_reducible refine Lay.bxL (L := imgL) 32 m ?_ ?_); exact rfl; intro W1 bm ebm cbm xbm; replace ebm := Lib.hid ebm; replace cbm := Lib.hid cbm; replace xbm := Lib.hid xbm; refine Hid.out ?_)
  refine Lib.hid ?_
  have x1 := Img.c_rbO xbm.out
  have x2 := Img.c_rbS xbm.out
  have x3 := Img.c_bdO xbm.out
  have x4 := Img.c_bdS xbm.out
  have x5 := Img.c_wkO xbm.out
  have x6 := Img.c_wkS xbm.out
  have x7 := Img.c_lzO xbm.out
  have x8 := Img.c_lzS xbm.out
  have xa := Img.c_trO xbm.out
  have xb := Img.c_trS xbm.out
  have xc := Img.c_chO xbm.out
  have xd := Img.c_chS xbm.out
  have xe := Img.c_syO xbm.out
  have xf := Img.c_syS xbm.out
  have xg := Img.c_stO xbm.out
  have xh := Img.c_stS xbm.out
  go_wp2_with fail
  clear x1 x2 x3 x4 x5 x6 x7 x8 xa xb xc xd xe xf xg xh
  refine Lay.with_world (fun W => spnL.Rd W (.slice (some ⟨W1.heap.size, 0, none⟩) 8 8) (spans8 m) ∧ Chg [] W1 W) ⟨Lay.Rd.of_heap (heap_alloc_eq _ _) rfl rfl (show 8 ≤ maxLen by decide), (Chg.refl _ _).alloc _⟩ (fun W2 hW => ?_)
  obtain ⟨g, hg⟩ : ∃ g, g = W1.heap.size := ⟨_, rfl⟩
  rw [← hg] at hW ⊢
  obtain ⟨h8, hc2⟩ := hW
  obtain ⟨b', o', hao, _, hin⟩ := h8.at (show 8 ≠ 0 by decide)
  cases hao
  have h88 : (spans8 m).length = 8 := rfl
  have C2 := Lib.hid (cbm.out.then hc2)
  have X2 := Lib.hid (xbm.out.frame hc2)
  have H8 := Lib.hid h8
  have Hg := Lib.hid hg
  have Hin := Lib.hid hin
  have H88 := Lib.hid h88
  have Hc2 := Lib.hid hc2
  clear h8 hg hin h88 hc2
  go_loopw [27] (fun s27 wr => ∃ j : Nat, j ≤ 8 ∧ s27 = .int .i64 (j : Int) ∧ Chg [] W2 wr ∧ ((spans8 m).drop j).all (spnB n) = (spans8 m).all (spnB n)) (fun s27 _ => 8 - (intOf s27).toNat)
  case atStart => exact ⟨0, Nat.zero_le _, rfl, Chg.refl _ _, rfl⟩
  case round =>
    obtain ⟨j, hj, rfl, hck, hgo⟩ := hrel
    have CK := Lib.hid (hck)
    clear hck
    by_cases hlt : j < 8
    · have dlt : decide ((j : Int) < 8) = true := decide_eq_true (by omega)
      have hi := (Hin.out j (by rw [H88.out]; exact hlt)).frame CK.out
      have hxb := Hb.out j (by rw [H88.out]; exact hlt)
      rw [drop_getD (spans8 m) j Spn.zero (by rw [H88.out]; exact hlt)] at hgo
      obtain ⟨x, hx⟩ : ∃ x, x = (spans8 m).getD j Spn.zero := ⟨_, rfl⟩
      rw [show (spans8 m).getD j spnL.d = x from hx.symm] at hi
      rw [← hx] at hgo hxb
      rw [List.all_cons] at hgo
      rw [show spnL.n = 2 from rfl, Nat.zero_add] at hi
      have hA := fun w => withinI_any x.off x.size n hxb.1.1 Hn.out w
      have hsb : spnB n x = withinI x.off x.size n := rfl
      rw [hsb] at hgo
      have hw1 : wrap64 ((j : Int) + 1) = (j : Int) + 1 := by unfold wrap64; omega
      obtain ⟨q, hq⟩ : ∃ q, q = withinI x.off x.size n := ⟨_, rfl⟩
      rw [← hq] at hA hgo
      have Hi := Lib.hid hi
      have Hx := Lib.hid hx
      have Hxb := Lib.hid hxb
      have HA := Lib.hid hA
      have Hsb := Lib.hid hsb
      have Hq := Lib.hid hq
      clear hi hx hxb hA hsb hq
      go_wp2_with ((with_reducible refine Lay.ldL Tryz.tSpn x (Hi.out) ?_ ?_); exact rfl; refine Hid.out ?_)
      refine Lib.hid ?_
      go_wp2_with ((with_reducible refine Lay.alL Tryz.tSpn ?_); intro Wa bx ebx cbx xbx; replace ebx := Lib.hid ebx; replace cbx := Lib.hid cbx; replace xbx := Lib.hid xbx; refine Hid.out ?_)
      refine Lib.hid ?_
      go_wp2_with ((with_reducible refine Lay.stL Tryz.tSpn x (xbx.out) ?_ ?_ ?_); exact rfl; exact rfl; intro Wb cWb xWb; replace cWb := Lib.hid cWb; replace xWb := Lib.hid xWb; refine Hid.out ?_)
      refine Lib.hid ?_
      have K4 : Hid (Chg [] wr Wb) := Lib.hid (cbx.out.new cWb.out (by rw [ebx.out]; exact Nat.le_refl _))
      have y0 := Spn.c_off xWb.out
      have y1 := Spn.c_size xWb.out
      cases q with
      | false =>
        rw [Bool.false_and] at hgo
        have HE : Hid (E = 4) := Lib.hid (by rw [HEE.out, ← hgo]; rfl)
        have Hgo := Lib.hid hgo
        clear hgo
        go_wp2_with fail
        refine (HA.out _).mono ?_
        rintro e Wc ⟨rfl, hc⟩
        have CE := Lib.hid (C2.out.then (CK.out.then (K4.out.then hc)))
        clear hc y0 y1
        go_wp2
        go_ret
        exact ⟨congrArg (fun z => Ending.returned (.int .i64 z)) HE.out.symm, CE.out⟩
      | true =>
        rw [Bool.true_and] at hgo
        have Hgo := Lib.hid hgo
        clear hgo
        go_wp2_with fail
        refine (HA.out _).mono ?_
        rintro e Wc ⟨rfl, hc⟩
        have CE := Lib.hid (CK.out.then (K4.out.then hc))
        clear hc y0 y1
        go_wp2
        go_roundw
        case rel => exact ⟨j + 1, hlt, by first | rfl | exact congrArg (Value.int .i64) hw1, CE.out, Hgo.out⟩
        case measure => first | exact meas_w hw1 hlt | exact meas_v hlt
    · obtain rfl : j = 8 := by omega
      have dlt : decide ((8 : Int) < 8) = false := rfl
      rw [List.drop_eq_nil_of_le (by rw [H88.out]; exact Nat.le_refl _)] at hgo
      rw [List.all_nil] at hgo
      have hee := HEE.out
      rw [← hgo, if_pos rfl] at hee
      have X3 := Lib.hid (X2.out.frame CK.out)
      have y1 := Img.c_syS X3.out
      by_cases h16 : m.syS % 16 = 0
      · rw [if_pos h16] at hee
        have hsy : 0 ≤ m.syS := (Hb.out 6 (by rw [H88.out]; decide)).2.1
        have d1 : (m.syS.tmod 16 != 0) = false := by rw [Int.tmod_eq_emod_of_nonneg hsy, h16]; rfl
        have y2 := Img.c_has X3.out
        cases hhas : m.has with
        | false =>
          rw [hhas, if_neg (by decide)] at hee
          rw [hhas] at y2
          have HE := Lib.hid (hee)
          have Hgo := Lib.hid hgo
          have H16 := Lib.hid h16
          have Hsy := Lib.hid hsy
          have Hhas := Lib.hid hhas
          clear hgo h16 hsy hhas
          clear hee
          go_wp2_with fail
          go_quiet (fail)
          go_wp2
          go_ret
          exact ⟨congrArg (fun z => Ending.returned (.int .i64 z)) HE.out.symm, C2.out.then (CK.out.drewN _)⟩
        | true =>
          rw [hhas, if_pos rfl] at hee
          rw [hhas] at y2
          have y3 := Img.c_entry X3.out
          obtain ⟨H, hH⟩ : ∃ H, H = highS ls := ⟨_, rfl⟩
          obtain ⟨L, hL⟩ : ∃ L, L = lowS ls := ⟨_, rfl⟩
          rw [← hH, ← hL] at hee
          rw [← hH] at HHI
          rw [← hL] at HLO
          have RD3 := Lib.hid (Rd.out.frame (C2.out.then CK.out))
          by_cases hen : IntKind.u64.wrap (H - L) ≤ m.entry
          · have d3 : decide (IntKind.u64.wrap (H - L) ≤ m.entry) = true := decide_eq_true hen
            rw [if_pos hen] at hee
            have HE := Lib.hid (hee)
            have Hgo := Lib.hid hgo
            have H16 := Lib.hid h16
            have Hsy := Lib.hid hsy
            have Hhas := Lib.hid hhas
            have HH := Lib.hid hH
            have HL := Lib.hid hL
            have Hen := Lib.hid hen
            clear hgo h16 hsy hhas hH hL hen
            clear hee
            go_upto_region 7 with fail
            refine wp_region_noPanic ?_
            refine wp_region_held_drew (S := fun w' => Chg [] wr w') (by kernel_rfl) ((Chg.refl _ _).drew) (fun hHeld => ?_)
            refine take_read (i := 0) (v := ?_) (by simp only [List.getElem?_toArray, List.getElem?_cons_zero]; rfl) (by kernel_rfl) (by kernel_rfl) (by kernel_rfl) (fun _ _ _ h => h) hHeld ?_ ?_
            rotate_left
            · intro w hSw
              go_simp
              try with_reducible rfl
            try simp only [Act.put, List.setIfInBounds_toArray, List.set_cons_zero, List.set_cons_succ]
            refine take_read (i := 1) (v := ?_) (by simp only [List.getElem?_toArray, List.getElem?_cons_succ, List.getElem?_cons_zero]; rfl) (by kernel_rfl) (by kernel_rfl) (by kernel_rfl) (fun _ _ _ h => h) hHeld ?_ ?_
            rotate_left
            · intro w hSw
              go_simp
              try with_reducible rfl
            try simp only [Act.put, List.setIfInBounds_toArray, List.set_cons_zero, List.set_cons_succ]
            refine take_read (i := 2) (v := ?_) (by simp only [List.getElem?_toArray, List.getElem?_cons_succ, List.getElem?_cons_zero]; rfl) (by kernel_rfl) (by kernel_rfl) (by kernel_rfl) (fun _ _ _ h => h) hHeld ?_ ?_
            rotate_left
            · intro w hSw
              have y1 := hSw.cell y1 (by simp)
              go_simp
              try with_reducible rfl
            try simp only [Act.put, List.setIfInBounds_toArray, List.set_cons_zero, List.set_cons_succ]
            refine take_read (i := 3) (v := ?_) (by simp only [List.getElem?_toArray, List.getElem?_cons_succ, List.getElem?_cons_zero]; rfl) (by kernel_rfl) (by kernel_rfl) (by kernel_rfl) (fun _ _ _ h => h) hHeld ?_ ?_
            rotate_left
            · intro w hSw
              go_simp
              try with_reducible rfl
            try simp only [Act.put, List.setIfInBounds_toArray, List.set_cons_zero, List.set_cons_succ]
            refine take_read (i := 4) (v := ?_) (by simp only [List.getElem?_toArray, List.getElem?_cons_succ, List.getElem?_cons_zero]; rfl) (by kernel_rfl) (by kernel_rfl) (by kernel_rfl) (fun _ _ _ h => h) hHeld ?_ ?_
            rotate_left
            · intro w hSw
              go_simp
              try with_reducible rfl
            try simp only [Act.put, List.setIfInBounds_toArray, List.set_cons_zero, List.set_cons_succ]
            refine take_read (i := 5) (v := ?_) (by simp only [List.getElem?_toArray, List.getElem?_cons_succ, List.getElem?_cons_zero]; rfl) (by kernel_rfl) (by kernel_rfl) (by kernel_rfl) (fun _ _ _ h => h) hHeld ?_ ?_
            rotate_left
            · intro w hSw
              go_simp
              try with_reducible rfl
            try simp only [Act.put, List.setIfInBounds_toArray, List.set_cons_zero, List.set_cons_succ]
            refine take_read (i := 6) (v := ?_) (by simp only [List.getElem?_toArray, List.getElem?_cons_succ, List.getElem?_cons_zero]; rfl) (by kernel_rfl) (by kernel_rfl) (by kernel_rfl) (fun _ _ _ h => h) hHeld ?_ ?_
            rotate_left
            · intro w hSw
              go_simp
              try with_reducible rfl
            try simp only [Act.put, List.setIfInBounds_toArray, List.set_cons_zero, List.set_cons_succ]
            refine take_read (i := 7) (v := ?_) (by simp only [List.getElem?_toArray, List.getElem?_cons_succ, List.getElem?_cons_zero]; rfl) (by kernel_rfl) (by kernel_rfl) (by kernel_rfl) (fun _ _ _ h => h) hHeld ?_ ?_
            rotate_left
            · intro w hSw
              have y2 := hSw.cell y2 (by simp)
              go_simp
              try with_reducible rfl
            try simp only [Act.put, List.setIfInBounds_toArray, List.set_cons_zero, List.set_cons_succ]
            refine take_read (i := 8) (v := ?_) (by simp only [List.getElem?_toArray, List.getElem?_cons_succ, List.getElem?_cons_zero]; rfl) (by kernel_rfl) (by kernel_rfl) (by kernel_rfl) (fun _ _ _ h => h) hHeld ?_ ?_
            rotate_left
            · intro w hSw
              go_simp
              try with_reducible rfl
            try simp only [Act.put, List.setIfInBounds_toArray, List.set_cons_zero, List.set_cons_succ]
            refine take_read (i := 9) (v := ?_) (by simp only [List.getElem?_toArray, List.getElem?_cons_succ, List.getElem?_cons_zero]; rfl) (by kernel_rfl) (by kernel_rfl) (by kernel_rfl) (fun _ _ _ h => h) hHeld ?_ ?_
            rotate_left
            · intro w hSw
              go_simp
              try with_reducible rfl
            try simp only [Act.put, List.setIfInBounds_toArray, List.set_cons_zero, List.set_cons_succ]
            refine take_read (i := 10) (v := ?_) (by simp only [List.getElem?_toArray, List.getElem?_cons_succ, List.getElem?_cons_zero]; rfl) (by kernel_rfl) (by kernel_rfl) (by kernel_rfl) (fun _ _ _ h => h) hHeld ?_ ?_
            rotate_left
            · intro w hSw
              have y3 := hSw.cell y3 (by simp)
              go_simp
              try with_reducible rfl
            try simp only [Act.put, List.setIfInBounds_toArray, List.set_cons_zero, List.set_cons_succ]
            refine take_read (i := 11) (v := ?_) (by simp only [List.getElem?_toArray, List.getElem?_cons_succ, List.getElem?_cons_zero]; rfl) (by kernel_rfl) (by kernel_rfl) (by kernel_rfl) (fun _ _ _ h => h) hHeld ?_ ?_
            rotate_left
            · intro w hSw
              refine Lay.read_ld Tryz.tImg ((X3.out.frame hSw).in) ?_ ?_
              exact rfl
              exact rfl
            try simp only [Act.put, List.setIfInBounds_toArray, List.set_cons_zero, List.set_cons_succ]
            refine take_read (i := 13) (v := ?_) (by simp only [List.getElem?_toArray, List.getElem?_cons_succ, List.getElem?_cons_zero]; rfl) (by kernel_rfl) (by kernel_rfl) (by kernel_rfl) (fun _ _ _ h => h) hHeld ?_ ?_
            rotate_left
            · intro w hSw
              refine Lay.read_ld Tryz.tImg ((X3.out.frame hSw).in) ?_ ?_
              exact rfl
              exact rfl
            try simp only [Act.put, List.setIfInBounds_toArray, List.set_cons_zero, List.set_cons_succ]
            refine wpAnyH_ready (rs := [12]) (by kernel_rfl) (by simp) ?_
            refine AllReadyH.cons rfl (fun K hK => ?_) AllReadyH.nil
            go_simp
            refine (HHI.out _ (RD3.out.frame hHeld)).mono ?_
            rintro e WQ ⟨rfl, hch⟩
            have C12 : Hid (Chg [] wr WQ) := Lib.hid (hHeld.then hch)
            clear hch
            refine hK.out _ _ C12.out (fun hHeld2 => ?_)
            clear hK hHeld K
            have hHeld := hHeld2
            clear hHeld2
            try (unfold Act.put; simp only [List.setIfInBounds_toArray, List.set_cons_zero, List.set_cons_succ])
            refine wpAnyH_ready (rs := [14]) (by kernel_rfl) (by simp) ?_
            refine AllReadyH.cons rfl (fun K hK => ?_) AllReadyH.nil
            go_simp
            refine (HLO.out _ (RD3.out.frame hHeld)).mono ?_
            rintro e WR ⟨rfl, hch⟩
            have C14 : Hid (Chg [] wr WR) := Lib.hid (hHeld.then hch)
            clear hch
            refine hK.out _ _ C14.out (fun hHeld2 => ?_)
            clear hK hHeld K
            have hHeld := hHeld2
            clear hHeld2
            try (unfold Act.put; simp only [List.setIfInBounds_toArray, List.set_cons_zero, List.set_cons_succ])
            refine take_read (i := 15) (v := ?_) (by simp only [List.getElem?_toArray, List.getElem?_cons_succ, List.getElem?_cons_zero]; rfl) (by kernel_rfl) (by kernel_rfl) (by kernel_rfl) (fun _ _ _ h => h) hHeld ?_ ?_
            rotate_left
            · intro w hSw
              go_simp
              try with_reducible rfl
            try simp only [Act.put, List.setIfInBounds_toArray, List.set_cons_zero, List.set_cons_succ]
            refine take_read (i := 16) (v := ?_) (by simp only [List.getElem?_toArray, List.getElem?_cons_succ, List.getElem?_cons_zero]; rfl) (by kernel_rfl) (by kernel_rfl) (by kernel_rfl) (fun _ _ _ h => h) hHeld ?_ ?_
            rotate_left
            · intro w hSw
              go_simp
              try with_reducible rfl
            try simp only [Act.put, List.setIfInBounds_toArray, List.set_cons_zero, List.set_cons_succ]
            refine take_read (i := 17) (v := ?_) (by simp only [List.getElem?_toArray, List.getElem?_cons_succ, List.getElem?_cons_zero]; rfl) (by kernel_rfl) (by kernel_rfl) (by kernel_rfl) (fun _ _ _ h => h) hHeld ?_ ?_
            rotate_left
            · intro w hSw
              go_simp
              try with_reducible rfl
            try simp only [Act.put, List.setIfInBounds_toArray, List.set_cons_zero, List.set_cons_succ]
            refine take_read (i := 18) (v := ?_) (by simp only [List.getElem?_toArray, List.getElem?_cons_succ, List.getElem?_cons_zero]; rfl) (by kernel_rfl) (by kernel_rfl) (by kernel_rfl) (fun _ _ _ h => h) hHeld ?_ ?_
            rotate_left
            · intro w hSw
              go_simp
              try with_reducible rfl
            try simp only [Act.put, List.setIfInBounds_toArray, List.set_cons_zero, List.set_cons_succ]
            refine wpAnyH_done (by kernel_rfl) ?_ _
            refine NoPanic.normal ?_
            go_wp2
            go_ret
            exact ⟨congrArg (fun z => Ending.returned (.int .i64 z)) HE.out.symm, C2.out.then (CK.out.then C14.out)⟩
          · have d3 : decide (IntKind.u64.wrap (H - L) ≤ m.entry) = false := decide_eq_false hen
            rw [if_neg hen] at hee
            have HE := Lib.hid (hee)
            have Hgo := Lib.hid hgo
            have H16 := Lib.hid h16
            have Hsy := Lib.hid hsy
            have Hhas := Lib.hid hhas
            have HH := Lib.hid hH
            have HL := Lib.hid hL
            have Hen := Lib.hid hen
            clear hgo h16 hsy hhas hH hL hen
            clear hee
            go_upto_region 7 with fail
            refine wp_region_noPanic ?_
            refine wp_region_held_drew (S := fun w' => Chg [] wr w') (by kernel_rfl) ((Chg.refl _ _).drew) (fun hHeld => ?_)
            refine take_read (i := 0) (v := ?_) (by simp only [List.getElem?_toArray, List.getElem?_cons_zero]; rfl) (by kernel_rfl) (by kernel_rfl) (by kernel_rfl) (fun _ _ _ h => h) hHeld ?_ ?_
            rotate_left
            · intro w hSw
              go_simp
              try with_reducible rfl
            try simp only [Act.put, List.setIfInBounds_toArray, List.set_cons_zero, List.set_cons_succ]
            refine take_read (i := 1) (v := ?_) (by simp only [List.getElem?_toArray, List.getElem?_cons_succ, List.getElem?_cons_zero]; rfl) (by kernel_rfl) (by kernel_rfl) (by kernel_rfl) (fun _ _ _ h => h) hHeld ?_ ?_
            rotate_left
            · intro w hSw
              go_simp
              try with_reducible rfl
            try simp only [Act.put, List.setIfInBounds_toArray, List.set_cons_zero, List.set_cons_succ]
            refine take_read (i := 2) (v := ?_) (by simp only [List.getElem?_toArray, List.getElem?_cons_succ, List.getElem?_cons_zero]; rfl) (by kernel_rfl) (by kernel_rfl) (by kernel_rfl) (fun _ _ _ h => h) hHeld ?_ ?_
            rotate_left
            · intro w hSw
              have y1 := hSw.cell y1 (by simp)
              go_simp
              try with_reducible rfl
            try simp only [Act.put, List.setIfInBounds_toArray, List.set_cons_zero, List.set_cons_succ]
            refine take_read (i := 3) (v := ?_) (by simp only [List.getElem?_toArray, List.getElem?_cons_succ, List.getElem?_cons_zero]; rfl) (by kernel_rfl) (by kernel_rfl) (by kernel_rfl) (fun _ _ _ h => h) hHeld ?_ ?_
            rotate_left
            · intro w hSw
              go_simp
              try with_reducible rfl
            try simp only [Act.put, List.setIfInBounds_toArray, List.set_cons_zero, List.set_cons_succ]
            refine take_read (i := 4) (v := ?_) (by simp only [List.getElem?_toArray, List.getElem?_cons_succ, List.getElem?_cons_zero]; rfl) (by kernel_rfl) (by kernel_rfl) (by kernel_rfl) (fun _ _ _ h => h) hHeld ?_ ?_
            rotate_left
            · intro w hSw
              go_simp
              try with_reducible rfl
            try simp only [Act.put, List.setIfInBounds_toArray, List.set_cons_zero, List.set_cons_succ]
            refine take_read (i := 5) (v := ?_) (by simp only [List.getElem?_toArray, List.getElem?_cons_succ, List.getElem?_cons_zero]; rfl) (by kernel_rfl) (by kernel_rfl) (by kernel_rfl) (fun _ _ _ h => h) hHeld ?_ ?_
            rotate_left
            · intro w hSw
              go_simp
              try with_reducible rfl
            try simp only [Act.put, List.setIfInBounds_toArray, List.set_cons_zero, List.set_cons_succ]
            refine take_read (i := 6) (v := ?_) (by simp only [List.getElem?_toArray, List.getElem?_cons_succ, List.getElem?_cons_zero]; rfl) (by kernel_rfl) (by kernel_rfl) (by kernel_rfl) (fun _ _ _ h => h) hHeld ?_ ?_
            rotate_left
            · intro w hSw
              go_simp
              try with_reducible rfl
            try simp only [Act.put, List.setIfInBounds_toArray, List.set_cons_zero, List.set_cons_succ]
            refine take_read (i := 7) (v := ?_) (by simp only [List.getElem?_toArray, List.getElem?_cons_succ, List.getElem?_cons_zero]; rfl) (by kernel_rfl) (by kernel_rfl) (by kernel_rfl) (fun _ _ _ h => h) hHeld ?_ ?_
            rotate_left
            · intro w hSw
              have y2 := hSw.cell y2 (by simp)
              go_simp
              try with_reducible rfl
            try simp only [Act.put, List.setIfInBounds_toArray, List.set_cons_zero, List.set_cons_succ]
            refine take_read (i := 8) (v := ?_) (by simp only [List.getElem?_toArray, List.getElem?_cons_succ, List.getElem?_cons_zero]; rfl) (by kernel_rfl) (by kernel_rfl) (by kernel_rfl) (fun _ _ _ h => h) hHeld ?_ ?_
            rotate_left
            · intro w hSw
              go_simp
              try with_reducible rfl
            try simp only [Act.put, List.setIfInBounds_toArray, List.set_cons_zero, List.set_cons_succ]
            refine take_read (i := 9) (v := ?_) (by simp only [List.getElem?_toArray, List.getElem?_cons_succ, List.getElem?_cons_zero]; rfl) (by kernel_rfl) (by kernel_rfl) (by kernel_rfl) (fun _ _ _ h => h) hHeld ?_ ?_
            rotate_left
            · intro w hSw
              go_simp
              try with_reducible rfl
            try simp only [Act.put, List.setIfInBounds_toArray, List.set_cons_zero, List.set_cons_succ]
            refine take_read (i := 10) (v := ?_) (by simp only [List.getElem?_toArray, List.getElem?_cons_succ, List.getElem?_cons_zero]; rfl) (by kernel_rfl) (by kernel_rfl) (by kernel_rfl) (fun _ _ _ h => h) hHeld ?_ ?_
            rotate_left
            · intro w hSw
              have y3 := hSw.cell y3 (by simp)
              go_simp
              try with_reducible rfl
            try simp only [Act.put, List.setIfInBounds_toArray, List.set_cons_zero, List.set_cons_succ]
            refine take_read (i := 11) (v := ?_) (by simp only [List.getElem?_toArray, List.getElem?_cons_succ, List.getElem?_cons_zero]; rfl) (by kernel_rfl) (by kernel_rfl) (by kernel_rfl) (fun _ _ _ h => h) hHeld ?_ ?_
            rotate_left
            · intro w hSw
              refine Lay.read_ld Tryz.tImg ((X3.out.frame hSw).in) ?_ ?_
              exact rfl
              exact rfl
            try simp only [Act.put, List.setIfInBounds_toArray, List.set_cons_zero, List.set_cons_succ]
            refine take_read (i := 13) (v := ?_) (by simp only [List.getElem?_toArray, List.getElem?_cons_succ, List.getElem?_cons_zero]; rfl) (by kernel_rfl) (by kernel_rfl) (by kernel_rfl) (fun _ _ _ h => h) hHeld ?_ ?_
            rotate_left
            · intro w hSw
              refine Lay.read_ld Tryz.tImg ((X3.out.frame hSw).in) ?_ ?_
              exact rfl
              exact rfl
            try simp only [Act.put, List.setIfInBounds_toArray, List.set_cons_zero, List.set_cons_succ]
            refine wpAnyH_ready (rs := [12]) (by kernel_rfl) (by simp) ?_
            refine AllReadyH.cons rfl (fun K hK => ?_) AllReadyH.nil
            go_simp
            refine (HHI.out _ (RD3.out.frame hHeld)).mono ?_
            rintro e WQ ⟨rfl, hch⟩
            have C12 : Hid (Chg [] wr WQ) := Lib.hid (hHeld.then hch)
            clear hch
            refine hK.out _ _ C12.out (fun hHeld2 => ?_)
            clear hK hHeld K
            have hHeld := hHeld2
            clear hHeld2
            try (unfold Act.put; simp only [List.setIfInBounds_toArray, List.set_cons_zero, List.set_cons_succ])
            refine wpAnyH_ready (rs := [14]) (by kernel_rfl) (by simp) ?_
            refine AllReadyH.cons rfl (fun K hK => ?_) AllReadyH.nil
            go_simp
            refine (HLO.out _ (RD3.out.frame hHeld)).mono ?_
            rintro e WR ⟨rfl, hch⟩
            have C14 : Hid (Chg [] wr WR) := Lib.hid (hHeld.then hch)
            clear hch
            refine hK.out _ _ C14.out (fun hHeld2 => ?_)
            clear hK hHeld K
            have hHeld := hHeld2
            clear hHeld2
            try (unfold Act.put; simp only [List.setIfInBounds_toArray, List.set_cons_zero, List.set_cons_succ])
            refine take_read (i := 15) (v := ?_) (by simp only [List.getElem?_toArray, List.getElem?_cons_succ, List.getElem?_cons_zero]; rfl) (by kernel_rfl) (by kernel_rfl) (by kernel_rfl) (fun _ _ _ h => h) hHeld ?_ ?_
            rotate_left
            · intro w hSw
              go_simp
              try with_reducible rfl
            try simp only [Act.put, List.setIfInBounds_toArray, List.set_cons_zero, List.set_cons_succ]
            refine take_read (i := 16) (v := ?_) (by simp only [List.getElem?_toArray, List.getElem?_cons_succ, List.getElem?_cons_zero]; rfl) (by kernel_rfl) (by kernel_rfl) (by kernel_rfl) (fun _ _ _ h => h) hHeld ?_ ?_
            rotate_left
            · intro w hSw
              go_simp
              try with_reducible rfl
            try simp only [Act.put, List.setIfInBounds_toArray, List.set_cons_zero, List.set_cons_succ]
            refine take_read (i := 17) (v := ?_) (by simp only [List.getElem?_toArray, List.getElem?_cons_succ, List.getElem?_cons_zero]; rfl) (by kernel_rfl) (by kernel_rfl) (by kernel_rfl) (fun _ _ _ h => h) hHeld ?_ ?_
            rotate_left
            · intro w hSw
              go_simp
              try with_reducible rfl
            try simp only [Act.put, List.setIfInBounds_toArray, List.set_cons_zero, List.set_cons_succ]
            refine take_read (i := 18) (v := ?_) (by simp only [List.getElem?_toArray, List.getElem?_cons_succ, List.getElem?_cons_zero]; rfl) (by kernel_rfl) (by kernel_rfl) (by kernel_rfl) (fun _ _ _ h => h) hHeld ?_ ?_
            rotate_left
            · intro w hSw
              go_simp
              try with_reducible rfl
            try simp only [Act.put, List.setIfInBounds_toArray, List.set_cons_zero, List.set_cons_succ]
            refine wpAnyH_done (by kernel_rfl) ?_ _
            refine NoPanic.normal ?_
            go_wp2
            go_ret
            exact ⟨congrArg (fun z => Ending.returned (.int .i64 z)) HE.out.symm, C2.out.then (CK.out.then C14.out)⟩
      · rw [if_neg h16] at hee
        have hsy : 0 ≤ m.syS := (Hb.out 6 (by rw [H88.out]; decide)).2.1
        have d1 : (m.syS.tmod 16 != 0) = true := by rw [Int.tmod_eq_emod_of_nonneg hsy, bne_iff_ne]; exact h16
        have HE := Lib.hid (hee)
        have Hgo := Lib.hid hgo
        have H16 := Lib.hid h16
        have Hsy := Lib.hid hsy
        clear hgo h16 hsy
        clear hee
        go_wp2_with fail
        go_quiet (fail)
        go_wp2
        go_ret
        exact ⟨congrArg (fun z => Ending.returned (.int .i64 z)) HE.out.symm, C2.out.then (CK.out.drewN _)⟩
end Go.Proofs.YtgjlgamlmmjdpaaGreatDoor
