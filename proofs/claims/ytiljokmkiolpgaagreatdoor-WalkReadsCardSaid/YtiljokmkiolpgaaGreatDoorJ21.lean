/- Lemmas, laid together: part 21 of 42. Conditions: none but each lemma's own. -/
import Derived.Test.YtiljokmkiolpgaaGreatDoorJ20
import Derived.Deep.DeepCutAuto
import Derived.Test.YtiljokmkiolpgaaGreatDoorJ1
namespace Go.Proofs.YtiljokmkiolpgaaGreatDoor
open Go.RowKit
set_option maxRecDepth 100000
def p1B (s : Seg) : Bool := decide (0 ≤ s.prot) && (decide (s.prot ≤ 7) && !(decide (s.prot = 0) && decide (0 < s.fsize)))
def p2B (n : Int) (s : Seg) : Bool := decide (s.addr % 4096 = 0) && (decide (s.size % 4096 = 0) && (decide (0 < s.size) && (decide (s.fsize ≤ s.size) && (withinI s.off s.fsize n && withinI s.addr s.size 140737488355328))))
theorem placeB_two (n : Int) (s : Seg) : placeB n s = (p1B s && p2B n s) := by unfold placeB p1B p2B; simp only [Bool.and_assoc]
def behB (s o : Seg) : Bool := !decide (o.name = s.name) && decide (o.addr + o.size ≤ s.addr)
theorem each_cons (n : Int) (prev : List Seg) (s : Seg) (r : List Seg) : eachB n prev (s :: r) = (placeB n s && (prev.all (behB s) && eachB n (prev ++ [s]) r)) := rfl
theorem name_dec (a b : ByteArray) : (a.toList == b.toList) = decide (a = b) := by
 have : (a.toList = b.toList) = (a = b) := by rw [Lib.toList_data, Lib.toList_data]; exact propext ⟨fun e => ByteArray.ext (Array.toList_inj.1 e), fun e => by rw [e]⟩
 rw [Bool.eq_iff_iff, beq_iff_eq, decide_eq_true_eq, this]
def FstIs (ls : List Seg) (i : Nat) (f : Int) : Prop := (f = -1 ∧ ∀ j, j < i → holeS (ls.getD j .zero) = true) ∨ ∃ k : Nat, k < i ∧ f = k ∧ holeS (ls.getD k .zero) = false ∧ ∀ j, j < k → holeS (ls.getD j .zero) = true
theorem FstIs.zero (ls : List Seg) : FstIs ls 0 (-1) := .inl ⟨rfl, fun _ h => absurd h (Nat.not_lt_zero _)⟩
theorem FstIs.hole {ls : List Seg} {i : Nat} {f : Int} (h : FstIs ls i f) (hh : holeS (ls.getD i .zero) = true) : FstIs ls (i + 1) f := by
 rcases h with ⟨h1, h2⟩ | ⟨k, h1, h2, h3, h4⟩
 ·refine .inl ⟨h1, fun j hj => ?_⟩
  by_cases e : j = i
  ·rw [e]; exact hh
  ·exact h2 j (by omega)
 ·exact .inr ⟨k, by omega, h2, h3, h4⟩
theorem FstIs.had {ls : List Seg} {i : Nat} {f : Int} (h : FstIs ls i f) (hf : ¬ f < 0) : FstIs ls (i + 1) f := by
 rcases h with ⟨h1, h2⟩ | ⟨k, h1, h2, h3, h4⟩
 ·omega
 ·exact .inr ⟨k, by omega, h2, h3, h4⟩
theorem FstIs.laid {ls : List Seg} {i : Nat} {f : Int} (h : FstIs ls i f) (hf : f < 0) (hh : holeS (ls.getD i .zero) = false) : FstIs ls (i + 1) i := by
 rcases h with ⟨h1, h2⟩ | ⟨k, h1, h2, h3, h4⟩
 ·exact .inr ⟨i, by omega, rfl, hh, h2⟩
 ·omega
theorem FstIs.idx {ls : List Seg} {f : Int} (h : FstIs ls ls.length f) : f = idxI (idx (fun s => !holeS s) ls) := by
 rcases h with ⟨h1, h2⟩ | ⟨k, h1, h2, h3, h4⟩
 ·rw [idx_none (d := Seg.zero) (fun j hj => by rw [h2 j hj]; rfl)]
  exact h1
 ·rw [idx_some (d := Seg.zero) h1 (by rw [h3]; rfl) (fun j hj => by rw [h4 j hj]; rfl)]
  exact h2
theorem segsE_no {n h : Int} {ls : List Seg} (ha : ∀ s ∈ ls, 0 ≤ s.addr) (he : eachB n [] ls = false) : segsE n h ls = 8 := by
 unfold segsE segsB
 rw [goes_all n ls ha, he]
 cases idx (fun s => !holeS s) ls <;> rfl
theorem segsE_none {n h : Int} {ls : List Seg} (hi : idx (fun s => !holeS s) ls = none) : segsE n h ls = 8 := by
 unfold segsE segsB
 rw [hi]
 rfl
theorem segsE_some {n h : Int} {ls : List Seg} (ha : ∀ s ∈ ls, 0 ≤ s.addr) (he : eachB n [] ls = true) {f : Nat} (hi : idx (fun s => !holeS s) ls = some f) : segsE n h ls = if firstB h (ls.getD f .zero) = true then 0 else 8 := by
 unfold segsE segsB
 rw [hi]
 simp only
 rw [goes_all n ls ha, he]
 rfl
structure DsR (w : World) (n : Int) (ls : List Seg) (i : Nat) (f : Int) (wr : World) : Prop where
 chg : Chg [] w wr
 fst : FstIs ls i f
 go : eachB n (ls.take i) (ls.drop i) = eachB n [] ls
 pl : ∀ j, j < i → placeB n (ls.getD j .zero) = true
theorem seg_take_snoc {ls : List Seg} {k : Nat} (h : k < ls.length) : ls.take (k + 1) = ls.take k ++ [ls.getD k .zero] := by
 rw [List.take_add_one]
 simp [List.getD_eq_getElem?_getD, h]
theorem prot_bits {p : Int} (h0 : 0 ≤ p) (h7 : p ≤ 7) : (bits BinOp.and IntKind.i64 p 1 == 0) = (p.tmod 2 == 0) ∧ (bits BinOp.and IntKind.i64 p 2 != 0) = ((wrap64 (p.tdiv 2)).tmod 2 == 1) := by
 have : p = 0 ∨ p = 1 ∨ p = 2 ∨ p = 3 ∨ p = 4 ∨ p = 5 ∨ p = 6 ∨ p = 7 := by omega
 rcases this with rfl | rfl | rfl | rfl | rfl | rfl | rfl | rfl <;> exact ⟨by decide, by decide +kernel⟩
set_option maxHeartbeats 16000000 in
theorem rsegments_any (m : Img) (ls : List Seg) (hls : SegsB ls) (n h : Int) (hn0 : 0 ≤ n) (hn : n < 18446744073709551616) (w : World) (rd : segL.Rd w m.segs.v ls) :
  Calls Tryz.prog 37 #[imgL.val m, .int .u64 n, .int .u64 h] w fun e w' => e = .returned (.int .i64 (segsE n h ls)) ∧ Chg [] w w' := by
 have HHO := hY (refHole_any)
 obtain ⟨a, cap, hv, hc1, hc2⟩ := rd.shape
 have rd' := rd
 rw [hv] at rd'
 have hlen : ls.length ≤ 9223372036854775807 := Nat.le_trans hc1 hc2
 have haddr : ∀ s ∈ ls, 0 ≤ s.addr := fun s hs => by
  obtain ⟨k, hk, rfl⟩ := List.getElem_of_mem hs
  have := (hls k hk).1.1
  rwa [List.getD_eq_getElem?_getD, List.getElem?_eq_getElem hk] at this
 obtain ⟨E, hEE⟩ : ∃ E, E = segsE n h ls := ⟨_, rfl⟩
 rw [← hEE]
 have Rd := hY rd
 have RD2 := hY rd'
 have Hc2 := hY hc2
 have Hlen := hY hlen
 have Haddr := hY haddr
 have HEE := hY hEE
 have Hls := hY hls
 have Hn0 := hY hn0
 have Hn := hY hn
 clear rd rd' hc2 hlen haddr hEE hls hn0 hn
 clear hc1
 unfold SlV.v at hv
 go_enter Tryz.func37, Tryz.ntmps37
 go_wp2_with ((with_reducible refine Lay.bxQ (L := imgL) 32 m ?_ ?_); exact rfl)
 refine hY fun W1 bm ebm cbm xbm => ?_
 go_wp2_with fail
 go_loopw [7, 8] (fun s7 s8 wr => ∃ (i : Nat) (f : Int), i ≤ ls.length ∧ s8 = .int .i64 (i : Int) ∧ s7 = .int .i64 f ∧ DsR w n ls i f wr ∧ Chg [] W1 wr) (fun _ s8 _ => ls.length - (intOf s8).toNat)
 case atStart => exact ⟨0, -1, Nat.zero_le _, rfl, rfl, ⟨cbm.out, FstIs.zero _, rfl, fun _ h => absurd h (Nat.not_lt_zero _)⟩, Chg.refl _ _⟩
 case round =>
  obtain ⟨i, f, hi, rfl, rfl, hr, hc1r⟩ := hrel
  have R := hY (hr)
  have C1 := hY (hc1r)
  clear hr hc1r
  have x4 := Img.c_segs (xbm.out.frame C1.out)
  rw [hv] at x4
  by_cases hlt : i < ls.length
  ·have dlt : decide ((i : Int) < (ls.length : Int)) = true := decide_eq_true (by omega)
   obtain ⟨g, o, hao, _, hin⟩ := RD2.out.at (by omega)
   have hi1 := (hin i hlt).frame R.out.chg
   have hsb := Hls.out i hlt
   have hgo := R.out.go
   rw [drop_getD ls i Seg.zero hlt] at hgo
   obtain ⟨s, hs⟩ : ∃ s, s = ls.getD i Seg.zero := ⟨_, rfl⟩
   rw [show ls.getD i segL.d = s from hs.symm] at hi1
   rw [← hs] at hgo hsb
   rw [each_cons] at hgo
   rw [show segL.n = 7 from rfl] at hi1
   subst hao
   have Hi1 := hY hi1
   have HIN := hY hin
   have Hs := hY hs
   have Hgo := hY hgo
   clear hi1 hin hs hgo
   have hn' := Hn.out
   have hn0' := Hn0.out
   have hA := fun w => rwithinI_any s.off s.fsize n hsb.2.2.1.1 hsb.2.2.2.1 hn' w
   have hB := fun w => rwithinI_any s.addr s.size 140737488355328 hsb.1.1 hsb.2.1.1 (by decide) w
   have ht1 : s.addr.tmod 4096 = s.addr % 4096 := Int.tmod_eq_emod_of_nonneg hsb.1.1
   have ht2 : s.size.tmod 4096 = s.size % 4096 := Int.tmod_eq_emod_of_nonneg hsb.2.1.1
   obtain ⟨hf0, hf1⟩ : 0 ≤ s.fsize ∧ 0 ≤ s.size := ⟨hsb.2.2.2.1, hsb.2.1.1⟩
   have HA := hY hA
   have HB := hY hB
   have Ht1 := hY ht1
   have Ht2 := hY ht2
   have Hf0 := hY hf0
   have Hf1 := hY hf1
   have Hn' := hY hn'
   have Hn0' := hY hn0'
   have Hsb := hY hsb
   clear hA hB ht1 ht2 hf0 hf1 hn' hn0' hsb
   obtain ⟨q1, hq1⟩ : ∃ q, q = p1B s := ⟨_, rfl⟩
   obtain ⟨q2, hq2⟩ : ∃ q, q = p2B n s := ⟨_, rfl⟩
   have Hq1 := hY hq1
   have Hq2 := hY hq2
   clear hq1 hq2
   go_wp2_with ((with_reducible refine Lay.ldQ Tryz.tSeg s (Hi1.out) ?_ ?_); exact rfl)
   refine hY ?_
   go_wp2_with (with_reducible refine Lay.alQ Tryz.tSeg ?_)
   refine hY fun Wa bx ebx cbx xbx => ?_
   go_wp2_with ((with_reducible refine Lay.stQ Tryz.tSeg s (xbx.out) ?_ ?_ ?_); exact rfl; exact rfl)
   refine hY fun Wb cWb xWb => ?_
   have K4 : Hid (Chg [] wr Wb) := hY (cbx.out.new cWb.out (by rw [ebx.out]; exact Nat.le_refl _))
   have X4 := hY (xWb.out)
   have y0 := Seg.c_name xWb.out
   have y1 := Seg.c_addr xWb.out
   have y2 := Seg.c_size xWb.out
   have y3 := Seg.c_off xWb.out
   have y4 := Seg.c_fsize xWb.out
   have y5 := Seg.c_prot xWb.out
   go_upto_region 6 with fail
   unfold Act.put
   simp only [aS, aZ, aC]
   go_cut [42] (fun s42 wx => s42 = .bool (!q1) ∧ wx = Wb)
   case first =>
    by_cases p0 : s.prot < 0
    ·have e1 : decide (s.prot < 0) = true := decide_eq_true p0
     have HQ : Hid (q1 = false) := hY (by rw [Hq1.out]; unfold p1B; rw [decide_eq_false (by omega)]; rfl)
     have P0 := hY p0
     clear p0
     go_wp2_with fail
     go_meet
     exact ⟨by rw [HQ.out]; rfl, rfl⟩
    ·have e1 : decide (s.prot < 0) = false := decide_eq_false p0
     by_cases p7 : 7 < s.prot
     ·have e2 : decide (7 < s.prot) = true := decide_eq_true p7
      have HQ : Hid (q1 = false) := hY (by rw [Hq1.out]; unfold p1B; rw [decide_eq_false (show ¬ s.prot ≤ 7 by omega)]; simp)
      have P0 := hY p0
      have P7 := hY p7
      clear p0 p7
      go_wp2_with fail
      go_meet
      exact ⟨by rw [HQ.out]; rfl, rfl⟩
     ·have e2 : decide (7 < s.prot) = false := decide_eq_false p7
      by_cases pz : s.prot = 0
      ·have e3 : (s.prot == 0) = true := by rw [pz]; rfl
       by_cases pf : s.fsize = 0
       ·have e4 : (s.fsize != 0) = false := by rw [pf]; rfl
        have HQ : Hid (q1 = true) := hY (by rw [Hq1.out]; unfold p1B; simp [pz, pf])
        have P0 := hY p0
        have P7 := hY p7
        have Pz := hY pz
        have Pf := hY pf
        clear p0 p7 pz pf
        go_wp2_with fail
        go_meet
        exact ⟨by rw [HQ.out]; rfl, rfl⟩
       ·have e4 : (s.fsize != 0) = true := by rw [bne_iff_ne]; exact pf
        have HQ : Hid (q1 = false) := hY (by rw [Hq1.out]; unfold p1B; rw [decide_eq_true (show 0 < s.fsize by have := Hf0.out; omega)]; simp [pz])
        have P0 := hY p0
        have P7 := hY p7
        have Pz := hY pz
        have Pf := hY pf
        clear p0 p7 pz pf
        go_wp2_with fail
        go_meet
        exact ⟨by rw [HQ.out]; rfl, rfl⟩
      ·have e3 : (s.prot == 0) = false := by rw [beq_eq_false_iff_ne]; exact pz
       have HQ : Hid (q1 = true) := hY (by rw [Hq1.out]; unfold p1B; rw [decide_eq_true (show 0 ≤ s.prot by omega), decide_eq_true (show s.prot ≤ 7 by omega)]; simp [pz])
       have P0 := hY p0
       have P7 := hY p7
       have Pz := hY pz
       clear p0 p7 pz
       go_wp2_with fail
       go_meet
       exact ⟨by rw [HQ.out]; rfl, rfl⟩
   case rest =>
    obtain ⟨rfl, rfl⟩ := hcut
    obtain ⟨wb, rfl⟩ : ∃ wb, wb = wc := ⟨_, rfl⟩
    cases q1 with
    | false =>
     have HE : Hid (E = 8) := by
      refine hY ?_
      rw [HEE.out]
      refine segsE_no Haddr.out ?_
      rw [← Hgo.out, placeB_two, ← Hq1.out]
      rfl
     clear y0 y1 y2 y3 y4 y5
     go_wp2
     go_ret
     exact ⟨congrArg (fun z => Ending.returned (.int .i64 z)) HE.out.symm, (R.out.chg.then K4.out)⟩
    | true =>
     go_upto_region 8 with fail
     go_cut [81] (fun s81 wx => s81 = .bool (!q2) ∧ Chg [] wb wx)
     case first =>
      by_cases a1 : s.addr % 4096 = 0
      ·have f1 : (s.addr.tmod 4096 != 0) = false := by rw [Ht1.out, a1]; rfl
       by_cases a2 : s.size % 4096 = 0
       ·have f2 : (s.size.tmod 4096 != 0) = false := by rw [Ht2.out, a2]; rfl
        by_cases a3 : s.size = 0
        ·have f3 : (s.size == 0) = true := by rw [a3]; rfl
         have HQ : Hid (q2 = false) := hY (by rw [Hq2.out]; unfold p2B; simp [a3])
         have A1 := hY a1
         have A2 := hY a2
         have A3 := hY a3
         clear a1 a2 a3
         go_wp2_with fail
         go_meet
         exact ⟨by rw [HQ.out]; rfl, Chg.refl _ _⟩
        ·have f3 : (s.size == 0) = false := by rw [beq_eq_false_iff_ne]; exact a3
         have a3' : 0 < s.size := by have := Hf1.out; omega
         by_cases a4 : s.size < s.fsize
         ·have f4 : decide (s.size < s.fsize) = true := decide_eq_true a4
          have HQ : Hid (q2 = false) := hY (by rw [Hq2.out]; unfold p2B; rw [decide_eq_false (show ¬ s.fsize ≤ s.size by omega)]; simp)
          have A1 := hY a1
          have A2 := hY a2
          have A3 := hY a3
          have A3' := hY a3'
          have A4 := hY a4
          clear a1 a2 a3 a3' a4
          go_wp2_with fail
          go_meet
          exact ⟨by rw [HQ.out]; rfl, Chg.refl _ _⟩
         ·have f4 : decide (s.size < s.fsize) = false := decide_eq_false a4
          have hA := HA.out
          have hB := HB.out
          cases b1 : withinI s.off s.fsize n with
          | false =>
           rw [b1] at hA
           have HQ : Hid (q2 = false) := hY (by rw [Hq2.out]; unfold p2B; rw [b1]; simp)
           have A1 := hY a1
           have A2 := hY a2
           have A3 := hY a3
           have A3' := hY a3'
           have A4 := hY a4
           have B1 := hY b1
           have HA' := hY hA
           have HB' := hY hB
           clear a1 a2 a3 a3' a4 b1 hA hB
           go_wp2_with fail
           refine (HA'.out _).mono ?_
           rintro e Wc ⟨rfl, hc⟩
           go_wp2_with fail
           go_meet
           exact ⟨by rw [HQ.out]; rfl, hc⟩
          | true =>
           rw [b1] at hA
           cases b2 : withinI s.addr s.size 140737488355328 with
           | false =>
            rw [b2] at hB
            have HQ : Hid (q2 = false) := hY (by rw [Hq2.out]; unfold p2B; rw [b2]; simp)
            have A1 := hY a1
            have A2 := hY a2
            have A3 := hY a3
            have A3' := hY a3'
            have A4 := hY a4
            have B1 := hY b1
            have B2 := hY b2
            have HA' := hY hA
            have HB' := hY hB
            clear a1 a2 a3 a3' a4 b1 b2 hA hB
            go_wp2_with fail
            refine (HA'.out _).mono ?_
            rintro e Wc ⟨rfl, hc⟩
            replace y1 := hc.cell y1 (by simp)
            replace y2 := hc.cell y2 (by simp)
            go_wp2_with fail
            refine (HB'.out _).mono ?_
            rintro e Wd ⟨rfl, hd⟩
            go_wp2_with fail
            go_meet
            exact ⟨by rw [HQ.out]; rfl, hc.then hd⟩
           | true =>
            rw [b2] at hB
            have HQ : Hid (q2 = true) := hY (by rw [Hq2.out]; unfold p2B; rw [b1, b2, decide_eq_true a1, decide_eq_true a2, decide_eq_true a3', decide_eq_true (show s.fsize ≤ s.size by omega)]; rfl)
            have A1 := hY a1
            have A2 := hY a2
            have A3 := hY a3
            have A3' := hY a3'
            have A4 := hY a4
            have B1 := hY b1
            have B2 := hY b2
            have HA' := hY hA
            have HB' := hY hB
            clear a1 a2 a3 a3' a4 b1 b2 hA hB
            go_wp2_with fail
            refine (HA'.out _).mono ?_
            rintro e Wc ⟨rfl, hc⟩
            replace y1 := hc.cell y1 (by simp)
            replace y2 := hc.cell y2 (by simp)
            go_wp2_with fail
            refine (HB'.out _).mono ?_
            rintro e Wd ⟨rfl, hd⟩
            go_wp2_with fail
            go_meet
            exact ⟨by rw [HQ.out]; rfl, hc.then hd⟩
       ·have f2 : (s.size.tmod 4096 != 0) = true := by rw [Ht2.out, bne_iff_ne]; exact a2
        have HQ : Hid (q2 = false) := hY (by rw [Hq2.out]; unfold p2B; simp [a2])
        have A1 := hY a1
        have A2 := hY a2
        clear a1 a2
        go_wp2_with fail
        go_meet
        exact ⟨by rw [HQ.out]; rfl, Chg.refl _ _⟩
      ·have f1 : (s.addr.tmod 4096 != 0) = true := by rw [Ht1.out, bne_iff_ne]; exact a1
       have HQ : Hid (q2 = false) := hY (by rw [Hq2.out]; unfold p2B; simp [a1])
       have A1 := hY a1
       clear a1
       go_wp2_with fail
       go_meet
       exact ⟨by rw [HQ.out]; rfl, Chg.refl _ _⟩
     case rest =>
      obtain ⟨rfl, hcb⟩ := hcut
      have CB := hY (hcb)
      clear hcb
      cases q2 with
      | false =>
       have HE : Hid (E = 8) := by
        refine hY ?_
        rw [HEE.out]
        refine segsE_no Haddr.out ?_
        rw [← Hgo.out, placeB_two, ← Hq1.out, ← Hq2.out]
        rfl
       clear y0 y1 y2 y3 y4 y5
       go_wp2
       go_ret
       exact ⟨congrArg (fun z => Ending.returned (.int .i64 z)) HE.out.symm, (R.out.chg.then (K4.out.then CB.out))⟩
      | true =>
       rw [show (!true) = false from rfl]
       have HPL : Hid (placeB n s = true) := hY (by rw [placeB_two, ← Hq1.out, ← Hq2.out]; rfl)
       have hgo2 := Hgo.out
       rw [HPL.out, Bool.true_and] at hgo2
       have Hgo2 := hY hgo2
       clear hgo2
       clear y0 y1 y2 y3 y4 y5 x4
       obtain ⟨wo, rfl⟩ : ∃ wo, wo = wr := ⟨_, rfl⟩
       obtain ⟨wi, rfl⟩ : ∃ wi, wi = wc := ⟨_, rfl⟩
       have KO := hY (K4.out.then CB.out)
       have X5 := hY (X4.out.frame CB.out)
       go_wp2_with fail
       go_loopw [10] (fun s10 wr => ∃ k : Nat, k ≤ i ∧ s10 = .int .i64 (k : Int) ∧ Chg [] wi wr ∧ ((ls.take i).drop k).all (behB s) = (ls.take i).all (behB s)) (fun s10 _ => i - (intOf s10).toNat)
       case atStart => exact ⟨0, Nat.zero_le _, rfl, Chg.refl _ _, rfl⟩
       case round =>
        obtain ⟨k, hk, rfl, hck, hgk⟩ := hrel
        have CK := hY (hck)
        clear hck
        have htl : (ls.take i).length = i := by rw [List.length_take]; omega
        by_cases hkl : k < i
        ·have dlk : decide ((k : Int) < (i : Int)) = true := decide_eq_true (by omega)
         have x4 := Img.c_segs (xbm.out.frame (C1.out.then (KO.out.then CK.out)))
         rw [hv] at x4
         have hq0 := (HIN.out k (by omega)).frame (R.out.chg.then (KO.out.then CK.out))
         rw [drop_getD (ls.take i) k Seg.zero (by rw [htl]; exact hkl)] at hgk
         have hgt : (ls.take i).getD k Seg.zero = ls.getD k Seg.zero := by
          rw [List.getD_eq_getElem?_getD, List.getD_eq_getElem?_getD, List.getElem?_take_of_lt hkl]
         rw [hgt] at hgk
         have hpk := R.out.pl k hkl
         have hqb := Hls.out k (by omega)
         obtain ⟨q, hq⟩ : ∃ q, q = ls.getD k Seg.zero := ⟨_, rfl⟩
         rw [show ls.getD k segL.d = q from hq.symm] at hq0
         rw [← hq] at hgk hpk hqb
         rw [List.all_cons] at hgk
         rw [show segL.n = 7 from rfl] at hq0
         have hend := placeB_end hpk
         have hwq : IntKind.u64.wrap (q.addr + q.size) = q.addr + q.size := by rw [IntKind.wrap_u64]; unfold SegB at hqb; omega
         have hbd : behB s q = (!decide (q.name = s.name) && decide (q.addr + q.size ≤ s.addr)) := rfl
         have hnd := name_dec q.name s.name
         have hlk2 : k < ls.length := by omega
         have hw1 : wrap64 ((k : Int) + 1) = (k : Int) + 1 := by have := Hlen.out; unfold wrap64; omega
         have Hq0 := hY hq0
         have Hq := hY hq
         have Hpk := hY hpk
         have Hqb := hY hqb
         have Hend := hY hend
         have Hgt := hY hgt
         have Htl := hY htl
         have Hlk2 := hY hlk2
         clear hq0 hq hpk hqb hend hgt htl hlk2
         by_cases n1 : q.name = s.name
         ·rw [decide_eq_true n1] at hbd hnd
          rw [Bool.not_true, Bool.false_and] at hbd
          rw [hbd, Bool.false_and] at hgk
          have HE : Hid (E = 8) := by
           refine hY ?_
           rw [HEE.out]
           refine segsE_no Haddr.out ?_
           rw [← Hgo2.out, ← hgk]
           rfl
          have Hbd := hY hbd
          have Hgk := hY hgk
          have N1 := hY n1
          have Hwq := hY hwq
          clear hbd hgk n1 hwq
          go_wp2_with ((with_reducible refine Lay.ldQ Tryz.tSeg q (Hq0.out) ?_ ?_); exact rfl)
          refine hY ?_
          go_wp2_with (with_reducible refine Lay.alQ Tryz.tSeg ?_)
          refine hY fun We bz ebz cbz xbz => ?_
          go_wp2_with ((with_reducible refine Lay.stQ Tryz.tSeg q (xbz.out) ?_ ?_ ?_); exact rfl; exact rfl)
          refine hY fun Wf cWf xWf => ?_
          have K6 : Hid (Chg [] wr Wf) := hY (cbz.out.new cWf.out (by rw [ebz.out]; exact Nat.le_refl _))
          have X6 := hY (X5.out.frame (CK.out.then K6.out))
          have z0 := Seg.c_name xWf.out
          have z1 := Seg.c_addr xWf.out
          have z2 := Seg.c_size xWf.out
          have v0 := Seg.c_name X6.out
          have v1 := Seg.c_addr X6.out
          clear x4
          go_wp2
          go_ret
          exact ⟨congrArg (fun z => Ending.returned (.int .i64 z)) HE.out.symm, R.out.chg.then (KO.out.then (CK.out.then K6.out))⟩
         ·rw [decide_eq_false n1] at hbd hnd
          rw [Bool.not_false, Bool.true_and] at hbd
          by_cases n2 : q.addr + q.size ≤ s.addr
          ·have d2 : decide (s.addr < q.addr + q.size) = false := decide_eq_false (by omega)
           rw [decide_eq_true n2] at hbd
           rw [hbd, Bool.true_and] at hgk
           have Hbd := hY hbd
           have Hgk := hY hgk
           have N1 := hY n1
           have N2 := hY n2
           clear hbd hgk n1 n2
           go_wp2_with ((with_reducible refine Lay.ldQ Tryz.tSeg q (Hq0.out) ?_ ?_); exact rfl)
           refine hY ?_
           go_wp2_with (with_reducible refine Lay.alQ Tryz.tSeg ?_)
           refine hY fun We bz ebz cbz xbz => ?_
           go_wp2_with ((with_reducible refine Lay.stQ Tryz.tSeg q (xbz.out) ?_ ?_ ?_); exact rfl; exact rfl)
           refine hY fun Wf cWf xWf => ?_
           have K6 : Hid (Chg [] wr Wf) := hY (cbz.out.new cWf.out (by rw [ebz.out]; exact Nat.le_refl _))
           have X6 := hY (X5.out.frame (CK.out.then K6.out))
           have z0 := Seg.c_name xWf.out
           have z1 := Seg.c_addr xWf.out
           have z2 := Seg.c_size xWf.out
           have v0 := Seg.c_name X6.out
           have v1 := Seg.c_addr X6.out
           clear x4
           go_wp2
           clear z0 z1 z2 v0 v1
           go_roundw
           case rel => exact ⟨k + 1, hkl, by first | rfl | exact congrArg (Value.int .i64) hw1, CK.out.then K6.out, Hgk.out⟩
           case measure => first | exact meas_w hw1 hkl | exact meas_v hkl
          ·have d2 : decide (s.addr < q.addr + q.size) = true := decide_eq_true (by omega)
           rw [decide_eq_false n2] at hbd
           rw [hbd, Bool.false_and] at hgk
           have HE : Hid (E = 8) := by
            refine hY ?_
            rw [HEE.out]
            refine segsE_no Haddr.out ?_
            rw [← Hgo2.out, ← hgk]
            rfl
           have Hbd := hY hbd
           have Hgk := hY hgk
           have N1 := hY n1
           have N2 := hY n2
           clear hbd hgk n1 n2
           go_wp2_with ((with_reducible refine Lay.ldQ Tryz.tSeg q (Hq0.out) ?_ ?_); exact rfl)
           refine hY ?_
           go_wp2_with (with_reducible refine Lay.alQ Tryz.tSeg ?_)
           refine hY fun We bz ebz cbz xbz => ?_
           go_wp2_with ((with_reducible refine Lay.stQ Tryz.tSeg q (xbz.out) ?_ ?_ ?_); exact rfl; exact rfl)
           refine hY fun Wf cWf xWf => ?_
           have K6 : Hid (Chg [] wr Wf) := hY (cbz.out.new cWf.out (by rw [ebz.out]; exact Nat.le_refl _))
           have X6 := hY (X5.out.frame (CK.out.then K6.out))
           have z0 := Seg.c_name xWf.out
           have z1 := Seg.c_addr xWf.out
           have z2 := Seg.c_size xWf.out
           have v0 := Seg.c_name X6.out
           have v1 := Seg.c_addr X6.out
           clear x4
           go_wp2
           go_ret
           exact ⟨congrArg (fun z => Ending.returned (.int .i64 z)) HE.out.symm, R.out.chg.then (KO.out.then (CK.out.then K6.out))⟩
        ·obtain rfl : k = i := by omega
         have dlk : decide ((k : Int) < (k : Int)) = false := decide_eq_false (by omega)
         rw [List.drop_eq_nil_of_le (by rw [htl]; exact Nat.le_refl _), List.all_nil] at hgk
         have hgo3 := Hgo2.out
         rw [← hgk, Bool.true_and] at hgo3
         have HG3 : Hid (eachB n (ls.take (k + 1)) (ls.drop (k + 1)) = eachB n [] ls) := hY (by rw [seg_take_snoc hlt, ← Hs.out]; exact hgo3)
         have CF := hY (R.out.chg.then (KO.out.then CK.out))
         have CF1 := hY (C1.out.then (KO.out.then CK.out))
         have X6 := hY (X5.out.frame CK.out)
         have hpl : ∀ j, j < k + 1 → placeB n (ls.getD j .zero) = true := fun j hj => by
          by_cases e : j = k
          ·rw [e, ← Hs.out]; exact HPL.out
          ·exact R.out.pl j (by omega)
         have hw1 : wrap64 ((k : Int) + 1) = (k : Int) + 1 := by have := Hlen.out; unfold wrap64; omega
         have Hpl := hY hpl
         have Hgk := hY hgk
         have Hgo3 := hY hgo3
         have Htl := hY htl
         clear hpl hgk hgo3 htl
         by_cases hf : f < 0
         ·have df : decide (f < 0) = true := decide_eq_true hf
          obtain ⟨hq, hhq⟩ : ∃ hq, hq = holeS s := ⟨_, rfl⟩
          have hho := fun w => HHO.out s w
          rw [← hhq] at hho
          have Hho := hY hho
          have Hhq := hY hhq
          have Hf := hY hf
          clear hho hhq hf
          go_upto_region 16 with fail
          go_wp2_with ((with_reducible refine ldG Tryz.tSeg s (X6.out.in) ?_ ?_ ?_); exact rfl; exact rfl; refine Hid.out ?_)
          refine hY ?_
          go_wp2_with fail
          refine (Hho.out _).mono ?_
          rintro e Wh ⟨rfl, hch⟩
          have CH := hY (hch)
          clear hch
          cases hq with
          | true =>
           go_wp2
           go_roundw
           case rel => exact ⟨k + 1, f, hlt, by first | rfl | exact congrArg (Value.int .i64) hw1, rfl, ⟨CF.out.then CH.out, R.out.fst.hole (by rw [← Hs.out]; exact Hhq.out.symm), HG3.out, Hpl.out⟩, CF1.out.then CH.out⟩
           case measure => first | exact meas_w hw1 hlt | exact meas_v hlt
          | false =>
           go_wp2
           go_roundw
           case rel => exact ⟨k + 1, k, hlt, by first | rfl | exact congrArg (Value.int .i64) hw1, rfl, ⟨CF.out.then CH.out, R.out.fst.laid Hf.out (by rw [← Hs.out]; exact Hhq.out.symm), HG3.out, Hpl.out⟩, CF1.out.then CH.out⟩
           case measure => first | exact meas_w hw1 hlt | exact meas_v hlt
         ·have df : decide (f < 0) = false := decide_eq_false hf
          have Hf := hY hf
          clear hf
          go_wp2
          go_roundw
          case rel => exact ⟨k + 1, f, hlt, by first | rfl | exact congrArg (Value.int .i64) hw1, rfl, ⟨CF.out, R.out.fst.had Hf.out, HG3.out, Hpl.out⟩, CF1.out⟩
          case measure => first | exact meas_w hw1 hlt | exact meas_v hlt
  ·obtain rfl : i = ls.length := by omega
   have dlt : decide ((ls.length : Int) < (ls.length : Int)) = false := decide_eq_false (by omega)
   have hgo := R.out.go
   rw [List.drop_eq_nil_of_le (Nat.le_refl _)] at hgo
   rw [show eachB n (ls.take ls.length) [] = true from rfl] at hgo
   have hfi := R.out.fst.idx
   cases hix : idx (fun s => !holeS s) ls with
   | none =>
    rw [hix] at hfi
    have HE : Hid (E = 8) := hY (by rw [HEE.out, segsE_none hix])
    replace hfi : f = -1 := hfi
    subst hfi
    have Hgo := hY hgo
    have Hix := hY hix
    clear hgo hix
    go_wp2
    go_ret
    exact ⟨congrArg (fun z => Ending.returned (.int .i64 z)) HE.out.symm, R.out.chg⟩
   | some q =>
    have hql := idx_lt hix
    rw [hix] at hfi
    replace hfi : f = (q : Int) := hfi
    subst hfi
    have dq : ¬ (q : Int) < 0 := by omega
    have hEq : E = if firstB h (ls.getD q .zero) = true then 0 else 8 := by rw [HEE.out, segsE_some Haddr.out hgo.symm hix]
    obtain ⟨g, o, hao, _, hin⟩ := RD2.out.at (by omega)
    have hi1 := (hin q hql).frame R.out.chg
    have hp := R.out.pl q hql
    obtain ⟨s, hs⟩ : ∃ s, s = ls.getD q Seg.zero := ⟨_, rfl⟩
    rw [show ls.getD q segL.d = s from hs.symm] at hi1
    rw [← hs] at hEq hp
    rw [show segL.n = 7 from rfl] at hi1
    subst hao
    have hpr : 0 ≤ s.prot ∧ s.prot ≤ 7 := by
     unfold placeB at hp
     simp only [Bool.and_eq_true, decide_eq_true_eq] at hp
     exact ⟨hp.1, hp.2.1⟩
    obtain ⟨g1, g2⟩ := prot_bits hpr.1 hpr.2
    unfold firstB at hEq
    rw [g1, g2] at hEq
    have Hgo := hY hgo
    have Hix := hY hix
    have Hql := hY hql
    have Hin := hY hin
    have Hi1 := hY hi1
    have Hp := hY hp
    have Hs := hY hs
    have Hpr := hY hpr
    have G1 := hY g1
    have G2 := hY g2
    clear hgo hix hql hin hi1 hp hs hpr g1 g2
    by_cases b1 : s.off = 0
    ·have c1 : (s.off != 0) = false := by rw [b1]; rfl
     by_cases b2 : s.fsize < h
     ·have c2 : decide (s.fsize < h) = true := decide_eq_true b2
      have HE8 : Hid (E = 8) := hY (by rw [hEq]; simp [b2])
      have HEq := hY hEq
      have B1 := hY b1
      have B2 := hY b2
      clear hEq b1 b2
      go_wp2_with ((with_reducible refine Lay.ldQ Tryz.tSeg s (Hi1.out) ?_ ?_); exact rfl)
      refine hY ?_
      go_wp2_with (with_reducible refine Lay.alQ Tryz.tSeg ?_)
      refine hY fun Wa bx ebx cbx xbx => ?_
      go_wp2_with ((with_reducible refine Lay.stQ Tryz.tSeg s (xbx.out) ?_ ?_ ?_); exact rfl; exact rfl)
      refine hY fun Wb cWb xWb => ?_
      have K4 : Hid (Chg [] wr Wb) := hY (cbx.out.new cWb.out (by rw [ebx.out]; exact Nat.le_refl _))
      have y3 := Seg.c_off xWb.out
      have y4 := Seg.c_fsize xWb.out
      have y5 := Seg.c_prot xWb.out
      clear x4
      go_wp2
      go_ret
      exact ⟨congrArg (fun z => Ending.returned (.int .i64 z)) HE8.out.symm, R.out.chg.then K4.out⟩
     ·have c2 : decide (s.fsize < h) = false := decide_eq_false b2
      cases c3 : (s.prot.tmod 2 == 0) with
      | true =>
       have HE8 : Hid (E = 8) := hY (by rw [hEq, c3]; simp)
       have HEq := hY hEq
       have B1 := hY b1
       have B2 := hY b2
       clear hEq b1 b2
       go_wp2_with ((with_reducible refine Lay.ldQ Tryz.tSeg s (Hi1.out) ?_ ?_); exact rfl)
       refine hY ?_
       go_wp2_with (with_reducible refine Lay.alQ Tryz.tSeg ?_)
       refine hY fun Wa bx ebx cbx xbx => ?_
       go_wp2_with ((with_reducible refine Lay.stQ Tryz.tSeg s (xbx.out) ?_ ?_ ?_); exact rfl; exact rfl)
       refine hY fun Wb cWb xWb => ?_
       have K4 : Hid (Chg [] wr Wb) := hY (cbx.out.new cWb.out (by rw [ebx.out]; exact Nat.le_refl _))
       have y3 := Seg.c_off xWb.out
       have y4 := Seg.c_fsize xWb.out
       have y5 := Seg.c_prot xWb.out
       clear x4
       go_wp2
       go_ret
       exact ⟨congrArg (fun z => Ending.returned (.int .i64 z)) HE8.out.symm, R.out.chg.then K4.out⟩
      | false =>
       cases c4 : ((wrap64 (s.prot.tdiv 2)).tmod 2 == 1) with
       | true =>
        have HE8 : Hid (E = 8) := hY (by rw [hEq, c4]; simp)
        have HEq := hY hEq
        have B1 := hY b1
        have B2 := hY b2
        clear hEq b1 b2
        go_wp2_with ((with_reducible refine Lay.ldQ Tryz.tSeg s (Hi1.out) ?_ ?_); exact rfl)
        refine hY ?_
        go_wp2_with (with_reducible refine Lay.alQ Tryz.tSeg ?_)
        refine hY fun Wa bx ebx cbx xbx => ?_
        go_wp2_with ((with_reducible refine Lay.stQ Tryz.tSeg s (xbx.out) ?_ ?_ ?_); exact rfl; exact rfl)
        refine hY fun Wb cWb xWb => ?_
        have K4 : Hid (Chg [] wr Wb) := hY (cbx.out.new cWb.out (by rw [ebx.out]; exact Nat.le_refl _))
        have y3 := Seg.c_off xWb.out
        have y4 := Seg.c_fsize xWb.out
        have y5 := Seg.c_prot xWb.out
        clear x4
        go_wp2
        go_ret
        exact ⟨congrArg (fun z => Ending.returned (.int .i64 z)) HE8.out.symm, R.out.chg.then K4.out⟩
       | false =>
        have HE8 : Hid (E = 0) := hY (by rw [hEq, c3, c4, c2, decide_eq_true b1]; rfl)
        have HEq := hY hEq
        have B1 := hY b1
        have B2 := hY b2
        clear hEq b1 b2
        go_wp2_with ((with_reducible refine Lay.ldQ Tryz.tSeg s (Hi1.out) ?_ ?_); exact rfl)
        refine hY ?_
        go_wp2_with (with_reducible refine Lay.alQ Tryz.tSeg ?_)
        refine hY fun Wa bx ebx cbx xbx => ?_
        go_wp2_with ((with_reducible refine Lay.stQ Tryz.tSeg s (xbx.out) ?_ ?_ ?_); exact rfl; exact rfl)
        refine hY fun Wb cWb xWb => ?_
        have K4 : Hid (Chg [] wr Wb) := hY (cbx.out.new cWb.out (by rw [ebx.out]; exact Nat.le_refl _))
        have y3 := Seg.c_off xWb.out
        have y4 := Seg.c_fsize xWb.out
        have y5 := Seg.c_prot xWb.out
        clear x4
        go_wp2
        go_ret
        exact ⟨congrArg (fun z => Ending.returned (.int .i64 z)) HE8.out.symm, R.out.chg.then K4.out⟩
    ·have c1 : (s.off != 0) = true := by rw [bne_iff_ne]; exact b1
     have HE8 : Hid (E = 8) := hY (by rw [hEq]; simp [b1])
     have HEq := hY hEq
     have B1 := hY b1
     clear hEq b1
     go_wp2_with ((with_reducible refine Lay.ldQ Tryz.tSeg s (Hi1.out) ?_ ?_); exact rfl)
     refine hY ?_
     go_wp2_with (with_reducible refine Lay.alQ Tryz.tSeg ?_)
     refine hY fun Wa bx ebx cbx xbx => ?_
     go_wp2_with ((with_reducible refine Lay.stQ Tryz.tSeg s (xbx.out) ?_ ?_ ?_); exact rfl; exact rfl)
     refine hY fun Wb cWb xWb => ?_
     have K4 : Hid (Chg [] wr Wb) := hY (cbx.out.new cWb.out (by rw [ebx.out]; exact Nat.le_refl _))
     have y3 := Seg.c_off xWb.out
     have y4 := Seg.c_fsize xWb.out
     have y5 := Seg.c_prot xWb.out
     clear x4
     go_wp2
     go_ret
     exact ⟨congrArg (fun z => Ending.returned (.int .i64 z)) HE8.out.symm, R.out.chg.then K4.out⟩
end Go.Proofs.YtiljokmkiolpgaaGreatDoor
