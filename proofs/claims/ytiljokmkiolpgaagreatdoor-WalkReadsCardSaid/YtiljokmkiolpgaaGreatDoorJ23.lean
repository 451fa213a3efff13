/- Lemmas, laid together: part 23 of 42. Conditions: none but each lemma's own. -/
import Derived.Test.YtiljokmkiolpgaaGreatDoorJ22
import Derived.BigQuiet
import Derived.Deep.QuietTactic
import Derived.Test.YtiljokmkiolpgaaGreatDoorJ11
import Derived.Test.YtiljokmkiolpgaaGreatDoorJ1
namespace Go.Proofs.YtiljokmkiolpgaaGreatDoor
open Go.RowKit
set_option maxRecDepth 100000
theorem namesE_cases (m : Img) : ((m.kind == 6) = true ∧ (m.kind != 6) = false ∧ m.name.toList.isEmpty = true ∧ namesE m = 10) ∨ ((m.kind == 6) = true ∧ (m.kind != 6) = false ∧ m.name.toList.isEmpty = false ∧ namesE m = 0) ∨ ((m.kind == 6) = false ∧ (m.kind != 6) = true ∧ m.name.toList.isEmpty = true ∧ namesE m = 0) ∨ ((m.kind == 6) = false ∧ (m.kind != 6) = true ∧ m.name.toList.isEmpty = false ∧ namesE m = 10) := by
 unfold namesE
 by_cases h1 : m.kind = 6
 ·by_cases h2 : m.name.toList = []
  ·simp [h1, h2]
  ·have : m.name.toList.isEmpty = false := by rw [← Bool.not_eq_true, List.isEmpty_iff]; exact h2
   simp [h1, h2, this]
 ·by_cases h2 : m.name.toList = []
  ·simp [h1, h2]
  ·have : m.name.toList.isEmpty = false := by rw [← Bool.not_eq_true, List.isEmpty_iff]; exact h2
   simp [h1, h2, this]
theorem firstE1 {e : Int} : firstE [e] = e := by unfold firstE; split <;> simp_all [firstE]
set_option maxHeartbeats 8000000 in
theorem rmay_core (m : Img) (ls : List Seg) (hb : SpnsB m) (n h E0 E1 : Int) (hn : n < 18446744073709551616) (w : World) (rd : segL.Rd w m.segs.v ls)
  (h0 : ∀ W, Chg [] w W → Calls Tryz.prog 37 #[imgL.val m, .int .u64 n, .int .u64 h] W fun e w' => e = .returned (.int .i64 E0) ∧ Chg [] W w')
  (h1 : ∀ W, Chg [] w W → Calls Tryz.prog 38 #[imgL.val m] W fun e w' => e = .returned (.int .i64 E1) ∧ Chg [] W w') :
  Calls Tryz.prog 16 #[imgL.val m, .int .u64 n, .int .u64 h] w fun e w' => e = .returned (.int .i64 (firstE [E0, E1, spansE n m ls, namesE m])) ∧ Chg [] w w' := by
 have HHI := hY (rhigh_any m ls)
 have HLO := hY (refLow_any m ls)
 have HNM := hY (namesE_cases m)
 obtain ⟨E, hEE⟩ : ∃ E, E = firstE [E0, E1, spansE n m ls, namesE m] := ⟨_, rfl⟩
 rw [← hEE]
 have Rd := hY rd
 have HEE := hY hEE
 have Hb := hY hb
 have Hn := hY hn
 have H0 := hY h0
 have H1 := hY h1
 clear rd hEE hb hn h0 h1
 go_enter Tryz.func16, Tryz.ntmps16
 go_wp2_with ((with_reducible refine Lay.bxQ (L := imgL) 32 m ?_ ?_); exact rfl)
 refine hY fun W1 bm ebm cbm xbm => ?_
 go_wp2_with ((with_reducible refine Lay.ldQ Tryz.tImg m (xbm.out.in) ?_ ?_); exact rfl)
 refine hY ?_
 go_wp2_with fail
 refine (H0.out _ cbm.out).mono ?_
 rintro e Wa ⟨rfl, hc⟩
 have CA := hY (cbm.out.then hc)
 have XA := hY (xbm.out.frame hc)
 clear hc
 by_cases z0 : E0 = 0
 ·subst z0
  have hee := HEE.out
  rw [firstE_zero] at hee
  go_wp2_with ((with_reducible refine Lay.ldQ Tryz.tImg m (XA.out.in) ?_ ?_); exact rfl)
  refine hY ?_
  go_wp2_with fail
  refine (H1.out _ CA.out).mono ?_
  rintro e Wb ⟨rfl, hc⟩
  have CB := hY (CA.out.then hc)
  have XB := hY (XA.out.frame hc)
  clear hc
  by_cases z1 : E1 = 0
  ·subst z1
   rw [firstE_zero] at hee
   have x1 := Img.c_rbO XB.out
   have x2 := Img.c_rbS XB.out
   have x3 := Img.c_bdO XB.out
   have x4 := Img.c_bdS XB.out
   have x5 := Img.c_wkO XB.out
   have x6 := Img.c_wkS XB.out
   have x7 := Img.c_lzO XB.out
   have x8 := Img.c_lzS XB.out
   have xa := Img.c_trO XB.out
   have xb := Img.c_trS XB.out
   have xc := Img.c_chO XB.out
   have xd := Img.c_chS XB.out
   have xe := Img.c_syO XB.out
   have xf := Img.c_syS XB.out
   have xg := Img.c_stO XB.out
   have xh := Img.c_stS XB.out
   go_wp2_with fail
   clear x1 x2 x3 x4 x5 x6 x7 x8 xa xb xc xd xe xf xg xh
   refine Lay.with_world (fun W => spnL.Rd W (.slice (some ⟨Wb.heap.size, 0, none⟩) 8 8) (spans8 m) ∧ Chg [] Wb W) ⟨Lay.Rd.of_heap (heap_alloc_eq _ _) rfl rfl (show 8 ≤ maxLen by decide), (Chg.refl _ _).alloc _⟩ (fun W2 hW => ?_)
   obtain ⟨g, hg⟩ : ∃ g, g = Wb.heap.size := ⟨_, rfl⟩
   rw [← hg] at hW ⊢
   obtain ⟨h8, hc2⟩ := hW
   obtain ⟨b', o', hao, _, hin⟩ := h8.at (show 8 ≠ 0 by decide)
   cases hao
   have h88 : (spans8 m).length = 8 := rfl
   have C2 := hY (CB.out.then hc2)
   have X2 := hY (XB.out.frame hc2)
   have hse : spansE n m ls = spansE n m ls := rfl
   conv at hse => rhs; unfold spansE
   have H8 := hY h8
   have Hg := hY hg
   have Hin := hY hin
   have H88 := hY h88
   have Hc2 := hY hc2
   have HE3 := hY hee
   have Hse := hY hse
   clear h8 hg hin h88 hc2 hee hse
   go_loopw [10] (fun s10 wr => ∃ j : Nat, j ≤ 8 ∧ s10 = .int .i64 (j : Int) ∧ Chg [] W2 wr ∧ ((spans8 m).drop j).all (spnB n) = (spans8 m).all (spnB n)) (fun s10 _ => 8 - (intOf s10).toNat)
   case atStart => exact ⟨0, Nat.zero_le _, rfl, Chg.refl _ _, rfl⟩
   case round =>
    obtain ⟨j, hj, rfl, hck, hgo⟩ := hrel
    have CK := hY (hck)
    clear hck
    by_cases hlt : j < 8
    ·have dlt : decide ((j : Int) < 8) = true := decide_eq_true (by omega)
     have hlti : (j : Int) < 8 := by omega
     have hi := (Hin.out j (by rw [H88.out]; exact hlt)).frame CK.out
     have hxb := Hb.out j (by rw [H88.out]; exact hlt)
     rw [drop_getD (spans8 m) j Spn.zero (by rw [H88.out]; exact hlt)] at hgo
     obtain ⟨x, hx⟩ : ∃ x, x = (spans8 m).getD j Spn.zero := ⟨_, rfl⟩
     rw [show (spans8 m).getD j spnL.d = x from hx.symm] at hi
     rw [← hx] at hgo hxb
     rw [List.all_cons] at hgo
     rw [show spnL.n = 2 from rfl, Nat.zero_add] at hi
     have hA := fun w => rwithinI_any x.off x.size n hxb.1.1 hxb.2.1 Hn.out w
     have hsb : spnB n x = withinI x.off x.size n := rfl
     rw [hsb] at hgo
     have hw1 : wrap64 ((j : Int) + 1) = (j : Int) + 1 := by unfold wrap64; omega
     obtain ⟨q, hq⟩ : ∃ q, q = withinI x.off x.size n := ⟨_, rfl⟩
     rw [← hq] at hA hgo
     obtain ⟨y0, y1⟩ := Spn.both hi
     have Hi := hY hi
     have Hx := hY hx
     have Hxb := hY hxb
     have HA := hY hA
     have Hsb := hY hsb
     have Hq := hY hq
     clear hi hx hxb hA hsb hq
     cases q with
     | false =>
      rw [Bool.false_and] at hgo
      have HE : Hid (E = 4) := hY (by rw [HE3.out, Hse.out, ← hgo]; rfl)
      have Hgo := hY hgo
      clear hgo
      go_upto_region 11 with fail
      refine wp_region_noPanic ?_
      refine wp_region_held_drew (S := fun w' => Chg [] wr w') (by kernel_rfl) ((Chg.refl _ _).drew) (fun hHeld => ?_)
      refine tkr 0 ?_ hHeld ?_ ?_
      rotate_left
      ·intro w hSw
       go_simp
       try with_reducible rfl
      try simp only [Act.put, aS, aZ, aC]
      refine tkr 1 ?_ hHeld ?_ ?_
      rotate_left
      ·intro w hSw
       go_simp
       try with_reducible rfl
      try simp only [Act.put, aS, aZ, aC]
      refine tkr 2 ?_ hHeld ?_ ?_
      rotate_left
      ·intro w hSw
       go_simp
       try with_reducible rfl
      try simp only [Act.put, aS, aZ, aC]
      refine tkr 3 ?_ hHeld ?_ ?_
      rotate_left
      ·intro w hSw
       go_simp
       try with_reducible rfl
      try simp only [Act.put, aS, aZ, aC]
      refine tkr 4 ?_ hHeld ?_ ?_
      rotate_left
      ·intro w hSw
       have y0 := hSw.cell y0 (by simp)
       go_simp
       try with_reducible rfl
      try simp only [Act.put, aS, aZ, aC]
      refine tkr 5 ?_ hHeld ?_ ?_
      rotate_left
      ·intro w hSw
       go_simp
       try with_reducible rfl
      try simp only [Act.put, aS, aZ, aC]
      refine tkr 6 ?_ hHeld ?_ ?_
      rotate_left
      ·intro w hSw
       go_simp
       try with_reducible rfl
      try simp only [Act.put, aS, aZ, aC]
      refine tkr 7 ?_ hHeld ?_ ?_
      rotate_left
      ·intro w hSw
       go_simp
       try with_reducible rfl
      try simp only [Act.put, aS, aZ, aC]
      refine tkr 8 ?_ hHeld ?_ ?_
      rotate_left
      ·intro w hSw
       go_simp
       try with_reducible rfl
      try simp only [Act.put, aS, aZ, aC]
      refine tkr 9 ?_ hHeld ?_ ?_
      rotate_left
      ·intro w hSw
       have y1 := hSw.cell y1 (by simp)
       go_simp
       try with_reducible rfl
      try simp only [Act.put, aS, aZ, aC]
      refine tkr 10 ?_ hHeld ?_ ?_
      rotate_left
      ·intro w hSw
       go_simp
       try with_reducible rfl
      try simp only [Act.put, aS, aZ, aC]
      refine wpAnyH_ready (rs := [11]) (by kernel_rfl) (by simp) ?_
      refine AllReadyH.cons rfl (fun K hK => ?_) AllReadyH.nil
      go_simp
      refine (HA.out _).mono ?_
      rintro e WQ ⟨rfl, hch⟩
      have C9 : Hid (Chg [] wr WQ) := hY (hHeld.then hch)
      clear hch
      refine hK.out _ _ C9.out ?_
      clear hK hHeld K
      intro hHeld
      try (unfold Act.put; simp only [aS, aZ, aC])
      refine tkr 12 ?_ hHeld ?_ ?_
      rotate_left
      ·intro w hSw
       go_simp
       try with_reducible rfl
      try simp only [Act.put, aS, aZ, aC]
      refine wpAnyH_done (by kernel_rfl) ?_ _
      refine NoPanic.normal ?_
      clear y0 y1
      go_wp2
      go_ret
      exact ⟨congrArg (fun z => Ending.returned (.int .i64 z)) HE.out.symm, C2.out.then (CK.out.then C9.out)⟩
     | true =>
      rw [Bool.true_and] at hgo
      have Hgo := hY hgo
      clear hgo
      go_upto_region 11 with fail
      refine wp_region_noPanic ?_
      refine wp_region_held_drew (S := fun w' => Chg [] wr w') (by kernel_rfl) ((Chg.refl _ _).drew) (fun hHeld => ?_)
      refine tkr 0 ?_ hHeld ?_ ?_
      rotate_left
      ·intro w hSw
       go_simp
       try with_reducible rfl
      try simp only [Act.put, aS, aZ, aC]
      refine tkr 1 ?_ hHeld ?_ ?_
      rotate_left
      ·intro w hSw
       go_simp
       try with_reducible rfl
      try simp only [Act.put, aS, aZ, aC]
      refine tkr 2 ?_ hHeld ?_ ?_
      rotate_left
      ·intro w hSw
       go_simp
       try with_reducible rfl
      try simp only [Act.put, aS, aZ, aC]
      refine tkr 3 ?_ hHeld ?_ ?_
      rotate_left
      ·intro w hSw
       go_simp
       try with_reducible rfl
      try simp only [Act.put, aS, aZ, aC]
      refine tkr 4 ?_ hHeld ?_ ?_
      rotate_left
      ·intro w hSw
       have y0 := hSw.cell y0 (by simp)
       go_simp
       try with_reducible rfl
      try simp only [Act.put, aS, aZ, aC]
      refine tkr 5 ?_ hHeld ?_ ?_
      rotate_left
      ·intro w hSw
       go_simp
       try with_reducible rfl
      try simp only [Act.put, aS, aZ, aC]
      refine tkr 6 ?_ hHeld ?_ ?_
      rotate_left
      ·intro w hSw
       go_simp
       try with_reducible rfl
      try simp only [Act.put, aS, aZ, aC]
      refine tkr 7 ?_ hHeld ?_ ?_
      rotate_left
      ·intro w hSw
       go_simp
       try with_reducible rfl
      try simp only [Act.put, aS, aZ, aC]
      refine tkr 8 ?_ hHeld ?_ ?_
      rotate_left
      ·intro w hSw
       go_simp
       try with_reducible rfl
      try simp only [Act.put, aS, aZ, aC]
      refine tkr 9 ?_ hHeld ?_ ?_
      rotate_left
      ·intro w hSw
       have y1 := hSw.cell y1 (by simp)
       go_simp
       try with_reducible rfl
      try simp only [Act.put, aS, aZ, aC]
      refine tkr 10 ?_ hHeld ?_ ?_
      rotate_left
      ·intro w hSw
       go_simp
       try with_reducible rfl
      try simp only [Act.put, aS, aZ, aC]
      refine wpAnyH_ready (rs := [11]) (by kernel_rfl) (by simp) ?_
      refine AllReadyH.cons rfl (fun K hK => ?_) AllReadyH.nil
      go_simp
      refine (HA.out _).mono ?_
      rintro e WQ ⟨rfl, hch⟩
      have C9 : Hid (Chg [] wr WQ) := hY (hHeld.then hch)
      clear hch
      refine hK.out _ _ C9.out ?_
      clear hK hHeld K
      intro hHeld
      try (unfold Act.put; simp only [aS, aZ, aC])
      refine tkr 12 ?_ hHeld ?_ ?_
      rotate_left
      ·intro w hSw
       go_simp
       try with_reducible rfl
      try simp only [Act.put, aS, aZ, aC]
      refine wpAnyH_done (by kernel_rfl) ?_ _
      refine NoPanic.normal ?_
      clear y0 y1
      go_wp2
      go_roundw
      case rel => exact ⟨j + 1, hlt, by first | rfl | exact congrArg (Value.int .i64) hw1, CK.out.then C9.out, Hgo.out⟩
      case measure => first | exact meas_w hw1 hlt | exact meas_v hlt
    ·obtain rfl : j = 8 := by omega
     have dlt : decide ((8 : Int) < 8) = false := rfl
     rw [List.drop_eq_nil_of_le (by rw [H88.out]; exact Nat.le_refl _)] at hgo
     rw [List.all_nil] at hgo
     have hse := Hse.out
     rw [← hgo, if_pos rfl] at hse
     have hee := HE3.out
     have X3 := hY (X2.out.frame CK.out)
     have y1 := Img.c_syS X3.out
     by_cases h16 : m.syS % 16 = 0
     ·rw [if_pos h16] at hse
      have hsy : 0 ≤ m.syS := (Hb.out 6 (by rw [H88.out]; decide)).2.1
      have d0 : (m.syS.tmod 16 != 0) = false := by rw [Int.tmod_eq_emod_of_nonneg hsy, h16]; rfl
      have y2 := Img.c_has X3.out
      cases hhas : m.has with
      | false =>
       rw [hhas] at hse y2
       rw [if_neg (by decide)] at hse
       rw [hse, firstE_zero, firstE1] at hee
       clear hse
       have Hgo := hY hgo
       have H16 := hY h16
       have Hsy := hY hsy
       have Hhas := hY hhas
       clear hgo h16 hsy hhas
       go_wp2_with fail
       go_quiet (fail)
       have v0 := Img.c_kind (X3.out.frame ((Chg.refl _ _).drewN nq))
       have v1 := Img.c_name (X3.out.frame ((Chg.refl _ _).drewN nq))
       rcases HNM.out with ⟨d1, d1', d2, hnm⟩ | ⟨d1, d1', d2, hnm⟩ | ⟨d1, d1', d2, hnm⟩ | ⟨d1, d1', d2, hnm⟩
       ·rw [hnm] at hee
        have HE := hY (hee)
        clear hee hnm
        go_wp2
        go_ret
        exact ⟨congrArg (fun z => Ending.returned (.int .i64 z)) HE.out.symm, C2.out.then (CK.out.drewN nq)⟩
       ·rw [hnm] at hee
        have HE := hY (hee)
        clear hee hnm
        go_wp2
        go_ret
        exact ⟨congrArg (fun z => Ending.returned (.int .i64 z)) HE.out.symm, C2.out.then (CK.out.drewN nq)⟩
       ·rw [hnm] at hee
        have HE := hY (hee)
        clear hee hnm
        go_wp2
        go_ret
        exact ⟨congrArg (fun z => Ending.returned (.int .i64 z)) HE.out.symm, C2.out.then (CK.out.drewN nq)⟩
       ·rw [hnm] at hee
        have HE := hY (hee)
        clear hee hnm
        go_wp2
        go_ret
        exact ⟨congrArg (fun z => Ending.returned (.int .i64 z)) HE.out.symm, C2.out.then (CK.out.drewN nq)⟩
      | true =>
       rw [hhas] at hse y2
       rw [if_pos rfl] at hse
       have y3 := Img.c_entry X3.out
       obtain ⟨H, hH⟩ : ∃ H, H = highS ls := ⟨_, rfl⟩
       obtain ⟨L, hL⟩ : ∃ L, L = lowS ls := ⟨_, rfl⟩
       rw [← hH, ← hL] at hse
       rw [← hH] at HHI
       rw [← hL] at HLO
       have RD3 := hY (Rd.out.frame (C2.out.then CK.out))
       by_cases hen : IntKind.u64.wrap (H - L) ≤ m.entry
       ·have d3 : decide (IntKind.u64.wrap (H - L) ≤ m.entry) = true := decide_eq_true hen
        rw [if_pos hen] at hse
        rw [hse, firstE_ne (by decide)] at hee
        clear hse
        have HE := hY (hee)
        have Hgo := hY hgo
        have H16 := hY h16
        have Hsy := hY hsy
        have Hhas := hY hhas
        have HH := hY hH
        have HL := hY hL
        have Hen := hY hen
        clear hgo h16 hsy hhas hH hL hen
        clear hee
        go_upto_region 13 with fail
        refine wp_region_noPanic ?_
        refine wp_region_held_drew (S := fun w' => Chg [] wr w') (by kernel_rfl) ((Chg.refl _ _).drew) (fun hHeld => ?_)
        refine tkr 0 ?_ hHeld ?_ ?_
        rotate_left
        ·intro w hSw
         go_simp
         try with_reducible rfl
        try simp only [Act.put, aS, aZ, aC]
        refine tkr 1 ?_ hHeld ?_ ?_
        rotate_left
        ·intro w hSw
         go_simp
         try with_reducible rfl
        try simp only [Act.put, aS, aZ, aC]
        refine tkr 2 ?_ hHeld ?_ ?_
        rotate_left
        ·intro w hSw
         have y1 := hSw.cell y1 (by simp)
         go_simp
         try with_reducible rfl
        try simp only [Act.put, aS, aZ, aC]
        refine tkr 3 ?_ hHeld ?_ ?_
        rotate_left
        ·intro w hSw
         go_simp
         try with_reducible rfl
        try simp only [Act.put, aS, aZ, aC]
        refine tkr 4 ?_ hHeld ?_ ?_
        rotate_left
        ·intro w hSw
         go_simp
         try with_reducible rfl
        try simp only [Act.put, aS, aZ, aC]
        refine tkr 5 ?_ hHeld ?_ ?_
        rotate_left
        ·intro w hSw
         go_simp
         try with_reducible rfl
        try simp only [Act.put, aS, aZ, aC]
        refine tkr 6 ?_ hHeld ?_ ?_
        rotate_left
        ·intro w hSw
         go_simp
         try with_reducible rfl
        try simp only [Act.put, aS, aZ, aC]
        refine tkr 7 ?_ hHeld ?_ ?_
        rotate_left
        ·intro w hSw
         have y2 := hSw.cell y2 (by simp)
         go_simp
         try with_reducible rfl
        try simp only [Act.put, aS, aZ, aC]
        refine tkr 8 ?_ hHeld ?_ ?_
        rotate_left
        ·intro w hSw
         go_simp
         try with_reducible rfl
        try simp only [Act.put, aS, aZ, aC]
        refine tkr 9 ?_ hHeld ?_ ?_
        rotate_left
        ·intro w hSw
         go_simp
         try with_reducible rfl
        try simp only [Act.put, aS, aZ, aC]
        refine tkr 10 ?_ hHeld ?_ ?_
        rotate_left
        ·intro w hSw
         have y3 := hSw.cell y3 (by simp)
         go_simp
         try with_reducible rfl
        try simp only [Act.put, aS, aZ, aC]
        refine tkr 11 ?_ hHeld ?_ ?_
        rotate_left
        ·intro w hSw
         refine Lay.read_ld Tryz.tImg ((X3.out.frame hSw).in) ?_ ?_
         exact rfl
         exact rfl
        try simp only [Act.put, aS, aZ, aC]
        refine tkr 13 ?_ hHeld ?_ ?_
        rotate_left
        ·intro w hSw
         refine Lay.read_ld Tryz.tImg ((X3.out.frame hSw).in) ?_ ?_
         exact rfl
         exact rfl
        try simp only [Act.put, aS, aZ, aC]
        refine wpAnyH_ready (rs := [12]) (by kernel_rfl) (by simp) ?_
        refine AllReadyH.cons rfl (fun K hK => ?_) AllReadyH.nil
        go_simp
        refine (HHI.out _ (RD3.out.frame hHeld)).mono ?_
        rintro e WQ ⟨rfl, hch⟩
        have C12 : Hid (Chg [] wr WQ) := hY (hHeld.then hch)
        clear hch
        refine hK.out _ _ C12.out ?_
        clear hK hHeld K
        intro hHeld
        try (unfold Act.put; simp only [aS, aZ, aC])
        refine wpAnyH_ready (rs := [14]) (by kernel_rfl) (by simp) ?_
        refine AllReadyH.cons rfl (fun K hK => ?_) AllReadyH.nil
        go_simp
        refine (HLO.out _ (RD3.out.frame hHeld)).mono ?_
        rintro e WR ⟨rfl, hch⟩
        have C14 : Hid (Chg [] wr WR) := hY (hHeld.then hch)
        clear hch
        refine hK.out _ _ C14.out ?_
        clear hK hHeld K
        intro hHeld
        try (unfold Act.put; simp only [aS, aZ, aC])
        refine tkr 15 ?_ hHeld ?_ ?_
        rotate_left
        ·intro w hSw
         go_simp
         try with_reducible rfl
        try simp only [Act.put, aS, aZ, aC]
        refine tkr 16 ?_ hHeld ?_ ?_
        rotate_left
        ·intro w hSw
         go_simp
         try with_reducible rfl
        try simp only [Act.put, aS, aZ, aC]
        refine tkr 17 ?_ hHeld ?_ ?_
        rotate_left
        ·intro w hSw
         go_simp
         try with_reducible rfl
        try simp only [Act.put, aS, aZ, aC]
        refine tkr 18 ?_ hHeld ?_ ?_
        rotate_left
        ·intro w hSw
         go_simp
         try with_reducible rfl
        try simp only [Act.put, aS, aZ, aC]
        refine wpAnyH_done (by kernel_rfl) ?_ _
        refine NoPanic.normal ?_
        go_wp2
        go_ret
        exact ⟨congrArg (fun z => Ending.returned (.int .i64 z)) HE.out.symm, C2.out.then (CK.out.then C14.out)⟩
       ·have d3 : decide (IntKind.u64.wrap (H - L) ≤ m.entry) = false := decide_eq_false hen
        rw [if_neg hen] at hse
        rw [hse, firstE_zero, firstE1] at hee
        clear hse
        have Hgo := hY hgo
        have H16 := hY h16
        have Hsy := hY hsy
        have Hhas := hY hhas
        have HH := hY hH
        have HL := hY hL
        have Hen := hY hen
        clear hgo h16 hsy hhas hH hL hen
        go_upto_region 13 with fail
        refine wp_region_noPanic ?_
        refine wp_region_held_drew (S := fun w' => Chg [] wr w') (by kernel_rfl) ((Chg.refl _ _).drew) (fun hHeld => ?_)
        refine tkr 0 ?_ hHeld ?_ ?_
        rotate_left
        ·intro w hSw
         go_simp
         try with_reducible rfl
        try simp only [Act.put, aS, aZ, aC]
        refine tkr 1 ?_ hHeld ?_ ?_
        rotate_left
        ·intro w hSw
         go_simp
         try with_reducible rfl
        try simp only [Act.put, aS, aZ, aC]
        refine tkr 2 ?_ hHeld ?_ ?_
        rotate_left
        ·intro w hSw
         have y1 := hSw.cell y1 (by simp)
         go_simp
         try with_reducible rfl
        try simp only [Act.put, aS, aZ, aC]
        refine tkr 3 ?_ hHeld ?_ ?_
        rotate_left
        ·intro w hSw
         go_simp
         try with_reducible rfl
        try simp only [Act.put, aS, aZ, aC]
        refine tkr 4 ?_ hHeld ?_ ?_
        rotate_left
        ·intro w hSw
         go_simp
         try with_reducible rfl
        try simp only [Act.put, aS, aZ, aC]
        refine tkr 5 ?_ hHeld ?_ ?_
        rotate_left
        ·intro w hSw
         go_simp
         try with_reducible rfl
        try simp only [Act.put, aS, aZ, aC]
        refine tkr 6 ?_ hHeld ?_ ?_
        rotate_left
        ·intro w hSw
         go_simp
         try with_reducible rfl
        try simp only [Act.put, aS, aZ, aC]
        refine tkr 7 ?_ hHeld ?_ ?_
        rotate_left
        ·intro w hSw
         have y2 := hSw.cell y2 (by simp)
         go_simp
         try with_reducible rfl
        try simp only [Act.put, aS, aZ, aC]
        refine tkr 8 ?_ hHeld ?_ ?_
        rotate_left
        ·intro w hSw
         go_simp
         try with_reducible rfl
        try simp only [Act.put, aS, aZ, aC]
        refine tkr 9 ?_ hHeld ?_ ?_
        rotate_left
        ·intro w hSw
         go_simp
         try with_reducible rfl
        try simp only [Act.put, aS, aZ, aC]
        refine tkr 10 ?_ hHeld ?_ ?_
        rotate_left
        ·intro w hSw
         have y3 := hSw.cell y3 (by simp)
         go_simp
         try with_reducible rfl
        try simp only [Act.put, aS, aZ, aC]
        refine tkr 11 ?_ hHeld ?_ ?_
        rotate_left
        ·intro w hSw
         refine Lay.read_ld Tryz.tImg ((X3.out.frame hSw).in) ?_ ?_
         exact rfl
         exact rfl
        try simp only [Act.put, aS, aZ, aC]
        refine tkr 13 ?_ hHeld ?_ ?_
        rotate_left
        ·intro w hSw
         refine Lay.read_ld Tryz.tImg ((X3.out.frame hSw).in) ?_ ?_
         exact rfl
         exact rfl
        try simp only [Act.put, aS, aZ, aC]
        refine wpAnyH_ready (rs := [12]) (by kernel_rfl) (by simp) ?_
        refine AllReadyH.cons rfl (fun K hK => ?_) AllReadyH.nil
        go_simp
        refine (HHI.out _ (RD3.out.frame hHeld)).mono ?_
        rintro e WQ ⟨rfl, hch⟩
        have C12 : Hid (Chg [] wr WQ) := hY (hHeld.then hch)
        clear hch
        refine hK.out _ _ C12.out ?_
        clear hK hHeld K
        intro hHeld
        try (unfold Act.put; simp only [aS, aZ, aC])
        refine wpAnyH_ready (rs := [14]) (by kernel_rfl) (by simp) ?_
        refine AllReadyH.cons rfl (fun K hK => ?_) AllReadyH.nil
        go_simp
        refine (HLO.out _ (RD3.out.frame hHeld)).mono ?_
        rintro e WR ⟨rfl, hch⟩
        have C14 : Hid (Chg [] wr WR) := hY (hHeld.then hch)
        clear hch
        refine hK.out _ _ C14.out ?_
        clear hK hHeld K
        intro hHeld
        try (unfold Act.put; simp only [aS, aZ, aC])
        refine tkr 15 ?_ hHeld ?_ ?_
        rotate_left
        ·intro w hSw
         go_simp
         try with_reducible rfl
        try simp only [Act.put, aS, aZ, aC]
        refine tkr 16 ?_ hHeld ?_ ?_
        rotate_left
        ·intro w hSw
         go_simp
         try with_reducible rfl
        try simp only [Act.put, aS, aZ, aC]
        refine tkr 17 ?_ hHeld ?_ ?_
        rotate_left
        ·intro w hSw
         go_simp
         try with_reducible rfl
        try simp only [Act.put, aS, aZ, aC]
        refine tkr 18 ?_ hHeld ?_ ?_
        rotate_left
        ·intro w hSw
         go_simp
         try with_reducible rfl
        try simp only [Act.put, aS, aZ, aC]
        refine wpAnyH_done (by kernel_rfl) ?_ _
        refine NoPanic.normal ?_
        have v0 := Img.c_kind (X3.out.frame C14.out)
        have v1 := Img.c_name (X3.out.frame C14.out)
        rcases HNM.out with ⟨d1, d1', d2, hnm⟩ | ⟨d1, d1', d2, hnm⟩ | ⟨d1, d1', d2, hnm⟩ | ⟨d1, d1', d2, hnm⟩
        ·rw [hnm] at hee
         have HE := hY (hee)
         clear hee hnm
         go_wp2
         go_ret
         exact ⟨congrArg (fun z => Ending.returned (.int .i64 z)) HE.out.symm, C2.out.then (CK.out.then C14.out)⟩
        ·rw [hnm] at hee
         have HE := hY (hee)
         clear hee hnm
         go_wp2
         go_ret
         exact ⟨congrArg (fun z => Ending.returned (.int .i64 z)) HE.out.symm, C2.out.then (CK.out.then C14.out)⟩
        ·rw [hnm] at hee
         have HE := hY (hee)
         clear hee hnm
         go_wp2
         go_ret
         exact ⟨congrArg (fun z => Ending.returned (.int .i64 z)) HE.out.symm, C2.out.then (CK.out.then C14.out)⟩
        ·rw [hnm] at hee
         have HE := hY (hee)
         clear hee hnm
         go_wp2
         go_ret
         exact ⟨congrArg (fun z => Ending.returned (.int .i64 z)) HE.out.symm, C2.out.then (CK.out.then C14.out)⟩
     ·rw [if_neg h16] at hse
      rw [hse, firstE_ne (by decide)] at hee
      clear hse
      have hsy : 0 ≤ m.syS := (Hb.out 6 (by rw [H88.out]; decide)).2.1
      have d0 : (m.syS.tmod 16 != 0) = true := by rw [Int.tmod_eq_emod_of_nonneg hsy, bne_iff_ne]; exact h16
      have HE := hY (hee)
      have Hgo := hY hgo
      have H16 := hY h16
      have Hsy := hY hsy
      clear hgo h16 hsy
      clear hee
      go_wp2_with fail
      go_quiet (fail)
      go_wp2
      go_ret
      exact ⟨congrArg (fun z => Ending.returned (.int .i64 z)) HE.out.symm, C2.out.then (CK.out.drewN _)⟩
  ·have d1 : (E1 != 0) = true := by rw [bne_iff_ne]; exact z1
   rw [firstE_ne z1] at hee
   have HE := hY (hee)
   have Z1 := hY z1
   clear z1
   clear hee
   go_wp2
   go_ret
   exact ⟨congrArg (fun z => Ending.returned (.int .i64 z)) HE.out.symm, CB.out⟩
 ·have d0 : (E0 != 0) = true := by rw [bne_iff_ne]; exact z0
  have hee := HEE.out
  rw [firstE_ne z0] at hee
  have HE := hY (hee)
  have Z0 := hY z0
  clear z0
  clear hee
  go_wp2
  go_ret
  exact ⟨congrArg (fun z => Ending.returned (.int .i64 z)) HE.out.symm, CA.out⟩
theorem idx_map {f : Seg → Seg} {p : Seg → Bool} (h : ∀ x, p (f x) = p x) : ∀ l : List Seg, idx p (l.map f) = idx p l
 | [] => rfl
 | x :: r => by
  rw [List.map_cons]
  unfold idx
  rw [h, idx_map h r]
theorem goesB_bare (n : Int) : ∀ (xs : List Seg) (a : Int) (N : ByteArray → Bool), goesB n a N (xs.map Seg.bare) = goesB n a N xs
 | [], _, _ => rfl
 | s :: r, a, N => by
  rw [List.map_cons, goes_cons, goes_cons]
  rw [goesB_bare n r]
  rfl
theorem getD_bare (xs : List Seg) (k : Nat) : (xs.map Seg.bare).getD k .zero = (xs.getD k .zero).bare := by
 rw [List.getD_eq_getElem?_getD, List.getD_eq_getElem?_getD, List.getElem?_map]
 cases xs[k]? <;> rfl
theorem segsE_bare (n h : Int) (xs : List Seg) : segsE n h (xs.map Seg.bare) = segsE n h xs := by
 unfold segsE segsB
 rw [idx_map (f := Seg.bare) (fun _ => rfl), goesB_bare]
 cases idx (fun s => !holeS s) xs with
 | none => rfl
 | some f => simp only [getD_bare]; rfl
theorem highS_bare (xs : List Seg) : highS (xs.map Seg.bare) = highS xs := by
 unfold highS
 rw [List.foldl_map]
 rfl
theorem lowS_bare (xs : List Seg) : lowS (xs.map Seg.bare) = lowS xs := by
 unfold lowS
 rw [idx_map (f := Seg.bare) (fun _ => rfl)]
 cases idx (fun s => !holeS s) xs with
 | none => rfl
 | some f => simp only [getD_bare]; rfl
theorem spansE_bare (n : Int) (m : Img) (xs : List Seg) : spansE n m.bare (xs.map Seg.bare) = spansE n m xs := by
 unfold spansE
 rw [highS_bare, lowS_bare]
 rfl
structure PB (p : TP) : Prop where
 im : ImB p.segs
 sp : SpnsB p.m
def mayE (n h : Int) (p : TP) : Int := firstE [segsE n h (p.segs.map SegP.s), secsE p.segs, spansE n p.m (p.segs.map SegP.s), namesE p.m]
theorem segs_bare {w : World} {xs : List Seg} {ps : List SegP} (hl : xs.length = ps.length) (hk : ∀ i, i < xs.length → SegRd w (xs.getD i .zero) (ps.getD i .zero)) : xs.map Seg.bare = ps.map SegP.s := by
 apply List.ext_getElem?
 intro i
 rw [List.getElem?_map, List.getElem?_map]
 by_cases h : i < xs.length
 ·have h2 := (hk i h).1
  rw [List.getD_eq_getElem?_getD, List.getD_eq_getElem?_getD, List.getElem?_eq_getElem h, List.getElem?_eq_getElem (by omega)] at h2
  rw [List.getElem?_eq_getElem h, List.getElem?_eq_getElem (by omega)]
  exact congrArg some h2
 ·rw [List.getElem?_eq_none (by omega), List.getElem?_eq_none (by omega)]
  rfl
theorem mayE_eq {w : World} {m : Img} {p : TP} {xs : List Seg} (n h : Int) (hm : m.bare = p.m) (hl : xs.length = p.segs.length) (hk : ∀ i, i < xs.length → SegRd w (xs.getD i .zero) (p.segs.getD i .zero)) :
  mayE n h p = firstE [segsE n h xs, secsE p.segs, spansE n m xs, namesE m] := by
 unfold mayE
 rw [← segs_bare hl hk, ← hm, segsE_bare, spansE_bare]
 rfl
theorem segsB_of {w : World} {xs : List Seg} {ps : List SegP} (hb : ImB ps) (hl : xs.length = ps.length) (hk : ∀ i, i < xs.length → SegRd w (xs.getD i .zero) (ps.getD i .zero)) : SegsB xs := fun k h => by
 have h1 := hb.seg k (by omega)
 rw [← (hk k h).1] at h1
 exact h1
theorem spnsB_of {m : Img} {p : TP} (hm : m.bare = p.m) (h : SpnsB p.m) : SpnsB m := by
 rw [← hm] at h
 exact h
theorem RMayI_any (m : Img) (p : TP) (n h : Int) (hn0 : 0 ≤ n) (hn : n < 18446744073709551616) (hb : PB p) (w : World) (hd : DRd w m p) :
  Calls Tryz.prog 16 #[imgL.val m, .int .u64 n, .int .u64 h] w fun e w' => e = .returned (.int .i64 (mayE n h p)) ∧ Chg [] w w' := by
 obtain ⟨xs, hm, hs, hl, hk, _⟩ := hd
 rw [mayE_eq n h hm hl hk]
 have hsb := segsB_of hb.im hl hk
 have hsp := spnsB_of hm hb.sp
 exact rmay_core m xs hsp n h _ _ hn w hs
  (fun W hW => rsegments_any m xs hsb n h hn0 hn W (hs.frame hW))
  (fun W hW => rsections_any m xs p.segs hb.im W (hs.frame hW) hl (fun i hi => (hk i hi).frame hW))
theorem goesB_place (n : Int) : ∀ (ls : List Seg) (a : Int) (N : ByteArray → Bool), goesB n a N ls = true → ∀ s ∈ ls, placeB n s = true
 | [], _, _, _, s, hs => by cases hs
 | x :: r, a, N, h, s, hs => by
  rw [goes_cons] at h
  simp only [Bool.and_eq_true] at h
  rcases List.mem_cons.1 hs with e | e
  ·rw [e]; exact h.1
  ·exact goesB_place n r _ _ h.2.2.2 s e
theorem firstE_all {e : Int} {r : List Int} (h : firstE (e :: r) = 0) : e = 0 ∧ firstE r = 0 := by
 by_cases h0 : e = 0
 ·subst h0; exact ⟨rfl, h⟩
 ·rw [firstE_ne h0] at h; exact absurd h h0
theorem may_place {n h : Int} {p : TP} (hm : mayE n h p = 0) : ∀ s ∈ p.segs.map SegP.s, placeB n s = true := by
 have h1 := (firstE_all hm).1
 unfold segsE at h1
 split at h1
 ·rename_i hb
  unfold segsB at hb
  split at hb
  ·exact absurd hb (by decide)
  ·rw [Bool.and_eq_true] at hb
   exact goesB_place n _ _ _ hb.1
 ·exact absurd h1 (by decide)
theorem idx_some_of {α : Type} {p : α → Bool} (d : α) : ∀ {l : List α} {g : Nat}, g < l.length → p (l.getD g d) = true → ∃ k, idx p l = some k
 | [], _, h, _ => absurd h (Nat.not_lt_zero _)
 | x :: r, g, hg, hp => by
  unfold idx
  split
  ·exact ⟨0, rfl⟩
  ·rename_i hx
   cases g with
   | zero => exact absurd hp hx
   | succ g =>
    obtain ⟨k, hk⟩ := idx_some_of d (l := r) (g := g) (Nat.lt_of_succ_lt_succ hg) hp
    exact ⟨k + 1, by rw [hk]; rfl⟩
theorem up_at {ls : List Seg} (hu : SegsUp ls) (g : Nat) (hg : g < ls.length) (hh : holeS (ls.getD g .zero) = false) (p : Int) (h1 : (ls.getD g .zero).addr ≤ p) (h2 : p < (ls.getD g .zero).addr + (ls.getD g .zero).size) : atS ls p = some g := by
 have hin : inS p (ls.getD g .zero) = true := by
  unfold inS
  rw [hh, decide_eq_true h1, decide_eq_true (by omega)]
  rfl
 obtain ⟨k, hk⟩ := idx_some_of Seg.zero hg hin
 have hk1 := idx_lt hk
 have hk2 := idx_true Seg.zero hk
 unfold atS
 rw [hk]
 unfold inS at hk2
 simp only [Bool.and_eq_true, decide_eq_true_eq] at hk2
 obtain ⟨_, h3, h4⟩ := hk2
 rcases Nat.lt_trichotomy k g with h | h | h
 ·have := hu k g h hg
  omega
 ·rw [h]
 ·have := hu g k h hk1
  omega
theorem up_word {ls : List Seg} (l : List UInt8) (hu : SegsUp ls) (g : Nat) (hg : g < ls.length) (hh : holeS (ls.getD g .zero) = false) (p : Int) (h1 : (ls.getD g .zero).addr ≤ p) (h2 : p + 8 ≤ (ls.getD g .zero).addr + (ls.getD g .zero).size) : (wordS ls l p).2 = 0 := by
 unfold wordS
 rw [up_at hu g hg hh p h1 (by omega)]
 dsimp only
 rw [if_neg (by omega)]
theorem goesB_up (n : Int) : ∀ (ls : List Seg) (a : Int) (N : ByteArray → Bool), goesB n a N ls = true → (∀ k, k < ls.length → a ≤ (ls.getD k .zero).addr) ∧ SegsUp ls
 | [], _, _, _ => ⟨fun k hk => absurd hk (Nat.not_lt_zero _), fun j k _ hk => absurd hk (Nat.not_lt_zero _)⟩
 | x :: r, a, N, h => by
  rw [goes_cons] at h
  simp only [Bool.and_eq_true, decide_eq_true_eq] at h
  obtain ⟨h1, h2⟩ := goesB_up n r _ _ h.2.2.2
  have hz := placeB_size h.1
  have ha := h.2.2.1
  refine ⟨fun k hk => ?_, fun j k hjk hk => ?_⟩
  ·cases k with
   | zero => exact ha
   | succ k =>
    have := h1 k (Nat.lt_of_succ_lt_succ hk)
    exact Int.le_trans (by omega) this
  ·cases k with
   | zero => exact absurd hjk (Nat.not_lt_zero _)
   | succ k =>
    cases j with
    | zero => exact h1 k (Nat.lt_of_succ_lt_succ hk)
    | succ j => exact h2 j k (Nat.lt_of_succ_lt_succ hjk) (Nat.lt_of_succ_lt_succ hk)
theorem may_goes {n h : Int} {p : TP} (hm : mayE n h p = 0) : goesB n 0 (fun _ => false) (p.segs.map SegP.s) = true := by
 have h1 := (firstE_all hm).1
 unfold segsE at h1
 split at h1
 ·rename_i hb
  unfold segsB at hb
  split at hb
  ·exact absurd hb (by decide)
  ·rw [Bool.and_eq_true] at hb
   exact hb.1
 ·exact absurd h1 (by decide)
theorem up_of_bare {xs ys : List Seg} (h : xs.map Seg.bare = ys) (hu : SegsUp ys) : SegsUp xs := by
 intro j k hjk hk
 have e : ∀ i, i < xs.length → ys.getD i .zero = (xs.getD i .zero).bare := fun i hi => by
  rw [← h, List.getD_eq_getElem?_getD, List.getElem?_map, List.getD_eq_getElem?_getD, List.getElem?_eq_getElem hi]
  rfl
 have hy : ys.length = xs.length := by rw [← h, List.length_map]
 have h1 := hu j k hjk (by omega)
 rw [e j (by omega), e k hk] at h1
 exact h1
theorem segs_upM {w : World} {m : Img} {p : TP} {n h : Int} (hd : DRd w m p) (hp : PB p) (hm : mayE n h p = 0) :
  ∃ xs, segL.Rd w m.segs.v xs ∧ SegsB xs ∧ xs.length = p.segs.length ∧ (∀ k, k < xs.length → (xs.getD k .zero).addr + (xs.getD k .zero).size ≤ 140737488355328) ∧ SegsUp xs := by
 have hg := (goesB_up n _ _ _ (may_goes hm)).2
 obtain ⟨xs, _, rd, hll, hlk, _⟩ := hd
 have hpl := may_place hm
 have hbare := segs_bare hll hlk
 refine ⟨xs, rd, segsB_of hp.im hll hlk, hll, fun k hk => ?_, up_of_bare hbare hg⟩
 have hmem : (xs.getD k .zero).bare ∈ p.segs.map SegP.s := by
  rw [← hbare]
  refine List.mem_map.2 ⟨xs.getD k .zero, ?_, rfl⟩
  rw [List.getD_eq_getElem?_getD, List.getElem?_eq_getElem hk]
  exact List.getElem_mem hk
 have hp := hpl _ hmem
 unfold placeB withinI at hp
 simp only [Bool.and_eq_true, decide_eq_true_eq] at hp
 have e1 : (xs.getD k .zero).bare.addr = (xs.getD k .zero).addr := rfl
 have e2 : (xs.getD k .zero).bare.size = (xs.getD k .zero).size := rfl
 rw [e1, e2] at hp
 omega
end Go.Proofs.YtiljokmkiolpgaaGreatDoor
