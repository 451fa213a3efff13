/- Lemmas, laid together: part 12 of 46. Conditions: none but each lemma's own. -/
import Derived.Test.YtaipelkegemoeaaGreatDoorJ11
import Derived.BigQuiet
import Derived.Deep.QuietTactic
/- The document's May (of layer 6). -/
namespace Go.Proofs.YtaipelkegemoeaaGreatDoor
open Go.RowKit
set_option maxRecDepth 100000

theorem namesE_cases (m : Img) : ((m.kind == 6) = true ∧ (m.kind != 6) = false ∧ m.name.toList.isEmpty = true ∧ namesE m = 10) ∨ ((m.kind == 6) = true ∧ (m.kind != 6) = false ∧ m.name.toList.isEmpty = false ∧ namesE m = 0) ∨ ((m.kind == 6) = false ∧ (m.kind != 6) = true ∧ m.name.toList.isEmpty = true ∧ namesE m = 0) ∨ ((m.kind == 6) = false ∧ (m.kind != 6) = true ∧ m.name.toList.isEmpty = false ∧ namesE m = 10) := by
  unfold namesE
  by_cases h1 : m.kind = 6
  · by_cases h2 : m.name.toList = []
    · simp [h1, h2]
    · have : m.name.toList.isEmpty = false := by rw [← Bool.not_eq_true, List.isEmpty_iff]; exact h2
      simp [h1, h2, this]
  · by_cases h2 : m.name.toList = []
    · simp [h1, h2]
    · have : m.name.toList.isEmpty = false := by rw [← Bool.not_eq_true, List.isEmpty_iff]; exact h2
      simp [h1, h2, this]
theorem firstE1 {e : Int} : firstE [e] = e := by unfold firstE; split <;> simp_all [firstE]
set_option maxHeartbeats 8000000 in
theorem rmay_core (m : Img) (ls : List Seg) (hb : SpnsB m) (n h E0 E1 : Int) (hn : n < 18446744073709551616) (w : World) (rd : segL.Rd w m.segs.v ls)
    (h0 : ∀ W, Chg [] w W → Calls Tryz.prog 31 #[imgL.val m, .int .u64 n, .int .u64 h] W fun e w' => e = .returned (.int .i64 E0) ∧ Chg [] W w')
    (h1 : ∀ W, Chg [] w W → Calls Tryz.prog 32 #[imgL.val m] W fun e w' => e = .returned (.int .i64 E1) ∧ Chg [] W w') :
    Calls Tryz.prog 12 #[imgL.val m, .int .u64 n, .int .u64 h] w fun e w' => e = .returned (.int .i64 (firstE [E0, E1, spansE n m ls, namesE m])) ∧ Chg [] w w' := by
  have HHI := Lib.hid (rhigh_any m ls)
  have HLO := Lib.hid (refLow_any m ls)
  have HNM := Lib.hid (namesE_cases m)
  obtain ⟨E, hEE⟩ : ∃ E, E = firstE [E0, E1, spansE n m ls, namesE m] := ⟨_, rfl⟩
  rw [← hEE]
  have Rd := Lib.hid rd
  have HEE := Lib.hid hEE
  have Hb := Lib.hid hb
  have Hn := Lib.hid hn
  have H0 := Lib.hid h0
  have H1 := Lib.hid h1
  clear rd hEE hb hn h0 h1
  go_enter Tryz.func12, Tryz.ntmps12
  go_wp2_with ((with_reducible refine Lay.bxL (L := imgL) 32 m ?_ ?_); exact rfl; intro W1 bm ebm cbm xbm; replace ebm := Lib.hid ebm; replace cbm := Lib.hid cbm; replace xbm := Lib.hid xbm; refine Hid.out ?_)
  refine Lib.hid ?_
  go_wp2_with ((with_reducible refine Lay.ldL Tryz.tImg m (xbm.out.in) ?_ ?_); exact rfl; refine Hid.out ?_)
  refine Lib.hid ?_
  go_wp2_with fail
  refine (H0.out _ cbm.out).mono ?_
  rintro e Wa ⟨rfl, hc⟩
  have CA := Lib.hid (cbm.out.then hc)
  have XA := Lib.hid (xbm.out.frame hc)
  clear hc
  by_cases z0 : E0 = 0
  · subst z0
    have hee := HEE.out
    rw [firstE_zero] at hee
    go_wp2_with ((with_reducible refine Lay.ldL Tryz.tImg m (XA.out.in) ?_ ?_); exact rfl; refine Hid.out ?_)
    refine Lib.hid ?_
    go_wp2_with fail
    refine (H1.out _ CA.out).mono ?_
    rintro e Wb ⟨rfl, hc⟩
    have CB := Lib.hid (CA.out.then hc)
    have XB := Lib.hid (XA.out.frame hc)
    clear hc
    by_cases z1 : E1 = 0
    · subst z1
      rw [firstE_zero] at hee
      have x1 := Img.c_rbO XB.out
      have x2 := Img.c_rbS XB.out
      have x3 := Img.c_bdO XB.out
      have x4 := Img.c_bdS XB.out
      have x5 := Img.c_wkO XB.out
      have x6 := Img.c_wkS XB.out
      have x7 := Img.c_lzO XB.out
      have x8 := Img.c_lzS XB.out
      have xa := Img.c_trO XB.out
      have xb := Img.c_trS XB.out
      have xc := Img.c_chO XB.out
      have xd := Img.c_chS XB.out
      have xe := Img.c_syO XB.out
      have xf := Img.c_syS XB.out
      have xg := Img.c_stO XB.out
      have xh := Img.c_stS XB.out
      go_wp2_with fail
      clear x1 x2 x3 x4 x5 x6 x7 x8 xa xb xc xd xe xf xg xh
      refine Lay.with_world (fun W => spnL.Rd W (.slice (some ⟨Wb.heap.size, 0, none⟩) 8 8) (spans8 m) ∧ Chg [] Wb W) ⟨Lay.Rd.of_heap (heap_alloc_eq _ _) rfl rfl (show 8 ≤ maxLen by decide), (Chg.refl _ _).alloc _⟩ (fun W2 hW => ?_)
      obtain ⟨g, hg⟩ : ∃ g, g = Wb.heap.size := ⟨_, rfl⟩
      rw [← hg] at hW ⊢
      obtain ⟨h8, hc2⟩ := hW
      obtain ⟨b', o', hao, _, hin⟩ := h8.at (show 8 ≠ 0 by decide)
      cases hao
      have h88 : (spans8 m).length = 8 := rfl
      have C2 := Lib.hid (CB.out.then hc2)
      have X2 := Lib.hid (XB.out.frame hc2)
      have hse : spansE n m ls = spansE n m ls := rfl
      conv at hse => rhs; unfold spansE
      have H8 := Lib.hid h8
      have Hg := Lib.hid hg
      have Hin := Lib.hid hin
      have H88 := Lib.hid h88
      have Hc2 := Lib.hid hc2
      have HE3 := Lib.hid hee
      have Hse := Lib.hid hse
      clear h8 hg hin h88 hc2 hee hse
      go_loopw [10] (fun s10 wr => ∃ j : Nat, j ≤ 8 ∧ s10 = .int .i64 (j : Int) ∧ Chg [] W2 wr ∧ ((spans8 m).drop j).all (spnB n) = (spans8 m).all (spnB n)) (fun s10 _ => 8 - (intOf s10).toNat)
      case atStart => exact ⟨0, Nat.zero_le _, rfl, Chg.refl _ _, rfl⟩
      case round =>
        obtain ⟨j, hj, rfl, hck, hgo⟩ := hrel
        have CK := Lib.hid (hck)
        clear hck
        by_cases hlt : j < 8
        · have dlt : decide ((j : Int) < 8) = true := decide_eq_true (by omega)
          have hlti : (j : Int) < 8 := by omega
          have hi := (Hin.out j (by rw [H88.out]; exact hlt)).frame CK.out
          have hxb := Hb.out j (by rw [H88.out]; exact hlt)
          rw [drop_getD (spans8 m) j Spn.zero (by rw [H88.out]; exact hlt)] at hgo
          obtain ⟨x, hx⟩ : ∃ x, x = (spans8 m).getD j Spn.zero := ⟨_, rfl⟩
          rw [show (spans8 m).getD j spnL.d = x from hx.symm] at hi
          rw [← hx] at hgo hxb
          rw [List.all_cons] at hgo
          rw [show spnL.n = 2 from rfl, Nat.zero_add] at hi
          have hA := fun w => rwithinI_any x.off x.size n hxb.1.1 hxb.2.1 Hn.out w
          have hsb : spnB n x = withinI x.off x.size n := rfl
          rw [hsb] at hgo
          have hw1 : wrap64 ((j : Int) + 1) = (j : Int) + 1 := by unfold wrap64; omega
          obtain ⟨q, hq⟩ : ∃ q, q = withinI x.off x.size n := ⟨_, rfl⟩
          rw [← hq] at hA hgo
          obtain ⟨y0, y1⟩ := Spn.both hi
          have Hi := Lib.hid hi
          have Hx := Lib.hid hx
          have Hxb := Lib.hid hxb
          have HA := Lib.hid hA
          have Hsb := Lib.hid hsb
          have Hq := Lib.hid hq
          clear hi hx hxb hA hsb hq
          cases q with
          | false =>
            rw [Bool.false_and] at hgo
            have HE : Hid (E = 4) := Lib.hid (by rw [HE3.out, Hse.out, ← hgo]; rfl)
            have Hgo := Lib.hid hgo
            clear hgo
            go_upto_region 11 with fail
            refine wp_region_noPanic ?_
            refine wp_region_held_drew (S := fun w' => Chg [] wr w') (by kernel_rfl) ((Chg.refl _ _).drew) (fun hHeld => ?_)
            refine take_read (i := 0) (v := ?_) (by simp only [List.getElem?_toArray, List.getElem?_cons_zero]; rfl) (by kernel_rfl) (by kernel_rfl) (by kernel_rfl) (fun _ _ _ h => h) hHeld ?_ ?_
            rotate_left
            · intro w hSw
              go_simp
              try with_reducible rfl
            try simp only [Act.put, List.setIfInBounds_toArray, List.set_cons_zero, List.set_cons_succ]
            refine take_read (i := 1) (v := ?_) (by simp only [List.getElem?_toArray, List.getElem?_cons_succ, List.getElem?_cons_zero]; rfl) (by kernel_rfl) (by kernel_rfl) (by kernel_rfl) (fun _ _ _ h => h) hHeld ?_ ?_
            rotate_left
            · intro w hSw
              go_simp
              try with_reducible rfl
            try simp only [Act.put, List.setIfInBounds_toArray, List.set_cons_zero, List.set_cons_succ]
            refine take_read (i := 2) (v := ?_) (by simp only [List.getElem?_toArray, List.getElem?_cons_succ, List.getElem?_cons_zero]; rfl) (by kernel_rfl) (by kernel_rfl) (by kernel_rfl) (fun _ _ _ h => h) hHeld ?_ ?_
            rotate_left
            · intro w hSw
              go_simp
              try with_reducible rfl
            try simp only [Act.put, List.setIfInBounds_toArray, List.set_cons_zero, List.set_cons_succ]
            refine take_read (i := 3) (v := ?_) (by simp only [List.getElem?_toArray, List.getElem?_cons_succ, List.getElem?_cons_zero]; rfl) (by kernel_rfl) (by kernel_rfl) (by kernel_rfl) (fun _ _ _ h => h) hHeld ?_ ?_
            rotate_left
            · intro w hSw
              go_simp
              try with_reducible rfl
            try simp only [Act.put, List.setIfInBounds_toArray, List.set_cons_zero, List.set_cons_succ]
            refine take_read (i := 4) (v := ?_) (by simp only [List.getElem?_toArray, List.getElem?_cons_succ, List.getElem?_cons_zero]; rfl) (by kernel_rfl) (by kernel_rfl) (by kernel_rfl) (fun _ _ _ h => h) hHeld ?_ ?_
            rotate_left
            · intro w hSw
              have y0 := hSw.cell y0 (by simp)
              go_simp
              try with_reducible rfl
            try simp only [Act.put, List.setIfInBounds_toArray, List.set_cons_zero, List.set_cons_succ]
            refine take_read (i := 5) (v := ?_) (by simp only [List.getElem?_toArray, List.getElem?_cons_succ, List.getElem?_cons_zero]; rfl) (by kernel_rfl) (by kernel_rfl) (by kernel_rfl) (fun _ _ _ h => h) hHeld ?_ ?_
            rotate_left
            · intro w hSw
              go_simp
              try with_reducible rfl
            try simp only [Act.put, List.setIfInBounds_toArray, List.set_cons_zero, List.set_cons_succ]
            refine take_read (i := 6) (v := ?_) (by simp only [List.getElem?_toArray, List.getElem?_cons_succ, List.getElem?_cons_zero]; rfl) (by kernel_rfl) (by kernel_rfl) (by kernel_rfl) (fun _ _ _ h => h) hHeld ?_ ?_
            rotate_left
            · intro w hSw
              go_simp
              try with_reducible rfl
            try simp only [Act.put, List.setIfInBounds_toArray, List.set_cons_zero, List.set_cons_succ]
            refine take_read (i := 7) (v := ?_) (by simp only [List.getElem?_toArray, List.getElem?_cons_succ, List.getElem?_cons_zero]; rfl) (by kernel_rfl) (by kernel_rfl) (by kernel_rfl) (fun _ _ _ h => h) hHeld ?_ ?_
            rotate_left
            · intro w hSw
              go_simp
              try with_reducible rfl
            try simp only [Act.put, List.setIfInBounds_toArray, List.set_cons_zero, List.set_cons_succ]
            refine take_read (i := 8) (v := ?_) (by simp only [List.getElem?_toArray, List.getElem?_cons_succ, List.getElem?_cons_zero]; rfl) (by kernel_rfl) (by kernel_rfl) (by kernel_rfl) (fun _ _ _ h => h) hHeld ?_ ?_
            rotate_left
            · intro w hSw
              go_simp
              try with_reducible rfl
            try simp only [Act.put, List.setIfInBounds_toArray, List.set_cons_zero, List.set_cons_succ]
            refine take_read (i := 9) (v := ?_) (by simp only [List.getElem?_toArray, List.getElem?_cons_succ, List.getElem?_cons_zero]; rfl) (by kernel_rfl) (by kernel_rfl) (by kernel_rfl) (fun _ _ _ h => h) hHeld ?_ ?_
            rotate_left
            · intro w hSw
              have y1 := hSw.cell y1 (by simp)
              go_simp
              try with_reducible rfl
            try simp only [Act.put, List.setIfInBounds_toArray, List.set_cons_zero, List.set_cons_succ]
            refine take_read (i := 10) (v := ?_) (by simp only [List.getElem?_toArray, List.getElem?_cons_succ, List.getElem?_cons_zero]; rfl) (by kernel_rfl) (by kernel_rfl) (by kernel_rfl) (fun _ _ _ h => h) hHeld ?_ ?_
            rotate_left
            · intro w hSw
              go_simp
              try with_reducible rfl
            try simp only [Act.put, List.setIfInBounds_toArray, List.set_cons_zero, List.set_cons_succ]
            refine wpAnyH_ready (rs := [11]) (by kernel_rfl) (by simp) ?_
            refine AllReadyH.cons rfl (fun K hK => ?_) AllReadyH.nil
            go_simp
            refine (HA.out _).mono ?_
            rintro e WQ ⟨rfl, hch⟩
            have C9 : Hid (Chg [] wr WQ) := Lib.hid (hHeld.then hch)
            clear hch
            refine hK.out _ _ C9.out (fun hHeld2 => ?_)
            clear hK hHeld K
            have hHeld := hHeld2
            clear hHeld2
            try (unfold Act.put; simp only [List.setIfInBounds_toArray, List.set_cons_zero, List.set_cons_succ])
            refine take_read (i := 12) (v := ?_) (by simp only [List.getElem?_toArray, List.getElem?_cons_succ, List.getElem?_cons_zero]; rfl) (by kernel_rfl) (by kernel_rfl) (by kernel_rfl) (fun _ _ _ h => h) hHeld ?_ ?_
            rotate_left
            · intro w hSw
              go_simp
              try with_reducible rfl
            try simp only [Act.put, List.setIfInBounds_toArray, List.set_cons_zero, List.set_cons_succ]
            refine wpAnyH_done (by kernel_rfl) ?_ _
            refine NoPanic.normal ?_
            clear y0 y1
            go_wp2
            go_ret
            exact ⟨congrArg (fun z => Ending.returned (.int .i64 z)) HE.out.symm, C2.out.then (CK.out.then C9.out)⟩
          | true =>
            rw [Bool.true_and] at hgo
            have Hgo := Lib.hid hgo
            clear hgo
            go_upto_region 11 with fail
            refine wp_region_noPanic ?_
            refine wp_region_held_drew (S := fun w' => Chg [] wr w') (by kernel_rfl) ((Chg.refl _ _).drew) (fun hHeld => ?_)
            refine take_read (i := 0) (v := ?_) (by simp only [List.getElem?_toArray, List.getElem?_cons_zero]; rfl) (by kernel_rfl) (by kernel_rfl) (by kernel_rfl) (fun _ _ _ h => h) hHeld ?_ ?_
            rotate_left
            · intro w hSw
              go_simp
              try with_reducible rfl
            try simp only [Act.put, List.setIfInBounds_toArray, List.set_cons_zero, List.set_cons_succ]
            refine take_read (i := 1) (v := ?_) (by simp only [List.getElem?_toArray, List.getElem?_cons_succ, List.getElem?_cons_zero]; rfl) (by kernel_rfl) (by kernel_rfl) (by kernel_rfl) (fun _ _ _ h => h) hHeld ?_ ?_
            rotate_left
            · intro w hSw
              go_simp
              try with_reducible rfl
            try simp only [Act.put, List.setIfInBounds_toArray, List.set_cons_zero, List.set_cons_succ]
            refine take_read (i := 2) (v := ?_) (by simp only [List.getElem?_toArray, List.getElem?_cons_succ, List.getElem?_cons_zero]; rfl) (by kernel_rfl) (by kernel_rfl) (by kernel_rfl) (fun _ _ _ h => h) hHeld ?_ ?_
            rotate_left
            · intro w hSw
              go_simp
              try with_reducible rfl
            try simp only [Act.put, List.setIfInBounds_toArray, List.set_cons_zero, List.set_cons_succ]
            refine take_read (i := 3) (v := ?_) (by simp only [List.getElem?_toArray, List.getElem?_cons_succ, List.getElem?_cons_zero]; rfl) (by kernel_rfl) (by kernel_rfl) (by kernel_rfl) (fun _ _ _ h => h) hHeld ?_ ?_
            rotate_left
            · intro w hSw
              go_simp
              try with_reducible rfl
            try simp only [Act.put, List.setIfInBounds_toArray, List.set_cons_zero, List.set_cons_succ]
            refine take_read (i := 4) (v := ?_) (by simp only [List.getElem?_toArray, List.getElem?_cons_succ, List.getElem?_cons_zero]; rfl) (by kernel_rfl) (by kernel_rfl) (by kernel_rfl) (fun _ _ _ h => h) hHeld ?_ ?_
            rotate_left
            · intro w hSw
              have y0 := hSw.cell y0 (by simp)
              go_simp
              try with_reducible rfl
            try simp only [Act.put, List.setIfInBounds_toArray, List.set_cons_zero, List.set_cons_succ]
            refine take_read (i := 5) (v := ?_) (by simp only [List.getElem?_toArray, List.getElem?_cons_succ, List.getElem?_cons_zero]; rfl) (by kernel_rfl) (by kernel_rfl) (by kernel_rfl) (fun _ _ _ h => h) hHeld ?_ ?_
            rotate_left
            · intro w hSw
              go_simp
              try with_reducible rfl
            try simp only [Act.put, List.setIfInBounds_toArray, List.set_cons_zero, List.set_cons_succ]
            refine take_read (i := 6) (v := ?_) (by simp only [List.getElem?_toArray, List.getElem?_cons_succ, List.getElem?_cons_zero]; rfl) (by kernel_rfl) (by kernel_rfl) (by kernel_rfl) (fun _ _ _ h => h) hHeld ?_ ?_
            rotate_left
            · intro w hSw
              go_simp
              try with_reducible rfl
            try simp only [Act.put, List.setIfInBounds_toArray, List.set_cons_zero, List.set_cons_succ]
            refine take_read (i := 7) (v := ?_) (by simp only [List.getElem?_toArray, List.getElem?_cons_succ, List.getElem?_cons_zero]; rfl) (by kernel_rfl) (by kernel_rfl) (by kernel_rfl) (fun _ _ _ h => h) hHeld ?_ ?_
            rotate_left
            · intro w hSw
              go_simp
              try with_reducible rfl
            try simp only [Act.put, List.setIfInBounds_toArray, List.set_cons_zero, List.set_cons_succ]
            refine take_read (i := 8) (v := ?_) (by simp only [List.getElem?_toArray, List.getElem?_cons_succ, List.getElem?_cons_zero]; rfl) (by kernel_rfl) (by kernel_rfl) (by kernel_rfl) (fun _ _ _ h => h) hHeld ?_ ?_
            rotate_left
            · intro w hSw
              go_simp
              try with_reducible rfl
            try simp only [Act.put, List.setIfInBounds_toArray, List.set_cons_zero, List.set_cons_succ]
            refine take_read (i := 9) (v := ?_) (by simp only [List.getElem?_toArray, List.getElem?_cons_succ, List.getElem?_cons_zero]; rfl) (by kernel_rfl) (by kernel_rfl) (by kernel_rfl) (fun _ _ _ h => h) hHeld ?_ ?_
            rotate_left
            · intro w hSw
              have y1 := hSw.cell y1 (by simp)
              go_simp
              try with_reducible rfl
            try simp only [Act.put, List.setIfInBounds_toArray, List.set_cons_zero, List.set_cons_succ]
            refine take_read (i := 10) (v := ?_) (by simp only [List.getElem?_toArray, List.getElem?_cons_succ, List.getElem?_cons_zero]; rfl) (by kernel_rfl) (by kernel_rfl) (by kernel_rfl) (fun _ _ _ h => h) hHeld ?_ ?_
            rotate_left
            · intro w hSw
              go_simp
              try with_reducible rfl
            try simp only [Act.put, List.setIfInBounds_toArray, List.set_cons_zero, List.set_cons_succ]
            refine wpAnyH_ready (rs := [11]) (by kernel_rfl) (by simp) ?_
            refine AllReadyH.cons rfl (fun K hK => ?_) AllReadyH.nil
            go_simp
            refine (HA.out _).mono ?_
            rintro e WQ ⟨rfl, hch⟩
            have C9 : Hid (Chg [] wr WQ) := Lib.hid (hHeld.then hch)
            clear hch
            refine hK.out _ _ C9.out (fun hHeld2 => ?_)
            clear hK hHeld K
            have hHeld := hHeld2
            clear hHeld2
            try (unfold Act.put; simp only [List.setIfInBounds_toArray, List.set_cons_zero, List.set_cons_succ])
            refine take_read (i := 12) (v := ?_) (by simp only [List.getElem?_toArray, List.getElem?_cons_succ, List.getElem?_cons_zero]; rfl) (by kernel_rfl) (by kernel_rfl) (by kernel_rfl) (fun _ _ _ h => h) hHeld ?_ ?_
            rotate_left
            · intro w hSw
              go_simp
              try with_reducible rfl
            try simp only [Act.put, List.setIfInBounds_toArray, List.set_cons_zero, List.set_cons_succ]
            refine wpAnyH_done (by kernel_rfl) ?_ _
            refine NoPanic.normal ?_
            clear y0 y1
            go_wp2
            go_roundw
            case rel => exact ⟨j + 1, hlt, by first | rfl | exact congrArg (Value.int .i64) hw1, CK.out.then C9.out, Hgo.out⟩
            case measure => first | exact meas_w hw1 hlt | exact meas_v hlt
        · obtain rfl : j = 8 := by omega
          have dlt : decide ((8 : Int) < 8) = false := rfl
          rw [List.drop_eq_nil_of_le (by rw [H88.out]; exact Nat.le_refl _)] at hgo
          rw [List.all_nil] at hgo
          have hse := Hse.out
          rw [← hgo, if_pos rfl] at hse
          have hee := HE3.out
          have X3 := Lib.hid (X2.out.frame CK.out)
          have y1 := Img.c_syS X3.out
          by_cases h16 : m.syS % 16 = 0
          · rw [if_pos h16] at hse
            have hsy : 0 ≤ m.syS := (Hb.out 6 (by rw [H88.out]; decide)).2.1
            have d0 : (m.syS.tmod 16 != 0) = false := by rw [Int.tmod_eq_emod_of_nonneg hsy, h16]; rfl
            have y2 := Img.c_has X3.out
            cases hhas : m.has with
            | false =>
              rw [hhas] at hse y2
              rw [if_neg (by decide)] at hse
              rw [hse, firstE_zero, firstE1] at hee
              clear hse
              have Hgo := Lib.hid hgo
              have H16 := Lib.hid h16
              have Hsy := Lib.hid hsy
              have Hhas := Lib.hid hhas
              clear hgo h16 hsy hhas
              go_wp2_with fail
              go_quiet (fail)
              have v0 := Img.c_kind (X3.out.frame ((Chg.refl _ _).drewN nq))
              have v1 := Img.c_name (X3.out.frame ((Chg.refl _ _).drewN nq))
              rcases HNM.out with ⟨d1, d1', d2, hnm⟩ | ⟨d1, d1', d2, hnm⟩ | ⟨d1, d1', d2, hnm⟩ | ⟨d1, d1', d2, hnm⟩
              · rw [hnm] at hee
                have HE := Lib.hid (hee)
                clear hee hnm
                go_wp2
                go_ret
                exact ⟨congrArg (fun z => Ending.returned (.int .i64 z)) HE.out.symm, C2.out.then (CK.out.drewN nq)⟩
              · rw [hnm] at hee
                have HE := Lib.hid (hee)
                clear hee hnm
                go_wp2
                go_ret
                exact ⟨congrArg (fun z => Ending.returned (.int .i64 z)) HE.out.symm, C2.out.then (CK.out.drewN nq)⟩
              · rw [hnm] at hee
                have HE := Lib.hid (hee)
                clear hee hnm
                go_wp2
                go_ret
                exact ⟨congrArg (fun z => Ending.returned (.int .i64 z)) HE.out.symm, C2.out.then (CK.out.drewN nq)⟩
              · rw [hnm] at hee
                have HE := Lib.hid (hee)
                clear hee hnm
                go_wp2
                go_ret
                exact ⟨congrArg (fun z => Ending.returned (.int .i64 z)) HE.out.symm, C2.out.then (CK.out.drewN nq)⟩
            | true =>
              rw [hhas] at hse y2
              rw [if_pos rfl] at hse
              have y3 := Img.c_entry X3.out
              obtain ⟨H, hH⟩ : ∃ H, H = highS ls := ⟨_, rfl⟩
              obtain ⟨L, hL⟩ : ∃ L, L = lowS ls := ⟨_, rfl⟩
              rw [← hH, ← hL] at hse
              rw [← hH] at HHI
              rw [← hL] at HLO
              have RD3 := Lib.hid (Rd.out.frame (C2.out.then CK.out))
              by_cases hen : IntKind.u64.wrap (H - L) ≤ m.entry
              · have d3 : decide (IntKind.u64.wrap (H - L) ≤ m.entry) = true := decide_eq_true hen
                rw [if_pos hen] at hse
                rw [hse, firstE_ne (by decide)] at hee
                clear hse
                have HE := Lib.hid (hee)
                have Hgo := Lib.hid hgo
                have H16 := Lib.hid h16
                have Hsy := Lib.hid hsy
                have Hhas := Lib.hid hhas
                have HH := Lib.hid hH
                have HL := Lib.hid hL
                have Hen := Lib.hid hen
                clear hgo h16 hsy hhas hH hL hen
                clear hee
                go_upto_region 13 with fail
                refine wp_region_noPanic ?_
                refine wp_region_held_drew (S := fun w' => Chg [] wr w') (by kernel_rfl) ((Chg.refl _ _).drew) (fun hHeld => ?_)
                refine take_read (i := 0) (v := ?_) (by simp only [List.getElem?_toArray, List.getElem?_cons_zero]; rfl) (by kernel_rfl) (by kernel_rfl) (by kernel_rfl) (fun _ _ _ h => h) hHeld ?_ ?_
                rotate_left
                · intro w hSw
                  go_simp
                  try with_reducible rfl
                try simp only [Act.put, List.setIfInBounds_toArray, List.set_cons_zero, List.set_cons_succ]
                refine take_read (i := 1) (v := ?_) (by simp only [List.getElem?_toArray, List.getElem?_cons_succ, List.getElem?_cons_zero]; rfl) (by kernel_rfl) (by kernel_rfl) (by kernel_rfl) (fun _ _ _ h => h) hHeld ?_ ?_
                rotate_left
                · intro w hSw
                  go_simp
                  try with_reducible rfl
                try simp only [Act.put, List.setIfInBounds_toArray, List.set_cons_zero, List.set_cons_succ]
                refine take_read (i := 2) (v := ?_) (by simp only [List.getElem?_toArray, List.getElem?_cons_succ, List.getElem?_cons_zero]; rfl) (by kernel_rfl) (by kernel_rfl) (by kernel_rfl) (fun _ _ _ h => h) hHeld ?_ ?_
                rotate_left
                · intro w hSw
                  have y1 := hSw.cell y1 (by simp)
                  go_simp
                  try with_reducible rfl
                try simp only [Act.put, List.setIfInBounds_toArray, List.set_cons_zero, List.set_cons_succ]
                refine take_read (i := 3) (v := ?_) (by simp only [List.getElem?_toArray, List.getElem?_cons_succ, List.getElem?_cons_zero]; rfl) (by kernel_rfl) (by kernel_rfl) (by kernel_rfl) (fun _ _ _ h => h) hHeld ?_ ?_
                rotate_left
                · intro w hSw
                  go_simp
                  try with_reducible rfl
                try simp only [Act.put, List.setIfInBounds_toArray, List.set_cons_zero, List.set_cons_succ]
                refine take_read (i := 4) (v := ?_) (by simp only [List.getElem?_toArray, List.getElem?_cons_succ, List.getElem?_cons_zero]; rfl) (by kernel_rfl) (by kernel_rfl) (by kernel_rfl) (fun _ _ _ h => h) hHeld ?_ ?_
                rotate_left
                · intro w hSw
                  go_simp
                  try with_reducible rfl
                try simp only [Act.put, List.setIfInBounds_toArray, List.set_cons_zero, List.set_cons_succ]
                refine take_read (i := 5) (v := ?_) (by simp only [List.getElem?_toArray, List.getElem?_cons_succ, List.getElem?_cons_zero]; rfl) (by kernel_rfl) (by kernel_rfl) (by kernel_rfl) (fun _ _ _ h => h) hHeld ?_ ?_
                rotate_left
                · intro w hSw
                  go_simp
                  try with_reducible rfl
                try simp only [Act.put, List.setIfInBounds_toArray, List.set_cons_zero, List.set_cons_succ]
                refine take_read (i := 6) (v := ?_) (by simp only [List.getElem?_toArray, List.getElem?_cons_succ, List.getElem?_cons_zero]; rfl) (by kernel_rfl) (by kernel_rfl) (by kernel_rfl) (fun _ _ _ h => h) hHeld ?_ ?_
                rotate_left
                · intro w hSw
                  go_simp
                  try with_reducible rfl
                try simp only [Act.put, List.setIfInBounds_toArray, List.set_cons_zero, List.set_cons_succ]
                refine take_read (i := 7) (v := ?_) (by simp only [List.getElem?_toArray, List.getElem?_cons_succ, List.getElem?_cons_zero]; rfl) (by kernel_rfl) (by kernel_rfl) (by kernel_rfl) (fun _ _ _ h => h) hHeld ?_ ?_
                rotate_left
                · intro w hSw
                  have y2 := hSw.cell y2 (by simp)
                  go_simp
                  try with_reducible rfl
                try simp only [Act.put, List.setIfInBounds_toArray, List.set_cons_zero, List.set_cons_succ]
                refine take_read (i := 8) (v := ?_) (by simp only [List.getElem?_toArray, List.getElem?_cons_succ, List.getElem?_cons_zero]; rfl) (by kernel_rfl) (by kernel_rfl) (by kernel_rfl) (fun _ _ _ h => h) hHeld ?_ ?_
                rotate_left
                · intro w hSw
                  go_simp
                  try with_reducible rfl
                try simp only [Act.put, List.setIfInBounds_toArray, List.set_cons_zero, List.set_cons_succ]
                refine take_read (i := 9) (v := ?_) (by simp only [List.getElem?_toArray, List.getElem?_cons_succ, List.getElem?_cons_zero]; rfl) (by kernel_rfl) (by kernel_rfl) (by kernel_rfl) (fun _ _ _ h => h) hHeld ?_ ?_
                rotate_left
                · intro w hSw
                  go_simp
                  try with_reducible rfl
                try simp only [Act.put, List.setIfInBounds_toArray, List.set_cons_zero, List.set_cons_succ]
                refine take_read (i := 10) (v := ?_) (by simp only [List.getElem?_toArray, List.getElem?_cons_succ, List.getElem?_cons_zero]; rfl) (by kernel_rfl) (by kernel_rfl) (by kernel_rfl) (fun _ _ _ h => h) hHeld ?_ ?_
                rotate_left
                · intro w hSw
                  have y3 := hSw.cell y3 (by simp)
                  go_simp
                  try with_reducible rfl
                try simp only [Act.put, List.setIfInBounds_toArray, List.set_cons_zero, List.set_cons_succ]
                refine take_read (i := 11) (v := ?_) (by simp only [List.getElem?_toArray, List.getElem?_cons_succ, List.getElem?_cons_zero]; rfl) (by kernel_rfl) (by kernel_rfl) (by kernel_rfl) (fun _ _ _ h => h) hHeld ?_ ?_
                rotate_left
                · intro w hSw
                  refine Lay.read_ld Tryz.tImg ((X3.out.frame hSw).in) ?_ ?_
                  exact rfl
                  exact rfl
                try simp only [Act.put, List.setIfInBounds_toArray, List.set_cons_zero, List.set_cons_succ]
                refine take_read (i := 13) (v := ?_) (by simp only [List.getElem?_toArray, List.getElem?_cons_succ, List.getElem?_cons_zero]; rfl) (by kernel_rfl) (by kernel_rfl) (by kernel_rfl) (fun _ _ _ h => h) hHeld ?_ ?_
                rotate_left
                · intro w hSw
                  refine Lay.read_ld Tryz.tImg ((X3.out.frame hSw).in) ?_ ?_
                  exact rfl
                  exact rfl
                try simp only [Act.put, List.setIfInBounds_toArray, List.set_cons_zero, List.set_cons_succ]
                refine wpAnyH_ready (rs := [12]) (by kernel_rfl) (by simp) ?_
                refine AllReadyH.cons rfl (fun K hK => ?_) AllReadyH.nil
                go_simp
                refine (HHI.out _ (RD3.out.frame hHeld)).mono ?_
                rintro e WQ ⟨rfl, hch⟩
                have C12 : Hid (Chg [] wr WQ) := Lib.hid (hHeld.then hch)
                clear hch
                refine hK.out _ _ C12.out (fun hHeld2 => ?_)
                clear hK hHeld K
                have hHeld := hHeld2
                clear hHeld2
                try (unfold Act.put; simp only [List.setIfInBounds_toArray, List.set_cons_zero, List.set_cons_succ])
                refine wpAnyH_ready (rs := [14]) (by kernel_rfl) (by simp) ?_
                refine AllReadyH.cons rfl (fun K hK => ?_) AllReadyH.nil
                go_simp
                refine (HLO.out _ (RD3.out.frame hHeld)).mono ?_
                rintro e WR ⟨rfl, hch⟩
                have C14 : Hid (Chg [] wr WR) := Lib.hid (hHeld.then hch)
                clear hch
                refine hK.out _ _ C14.out (fun hHeld2 => ?_)
                clear hK hHeld K
                have hHeld := hHeld2
                clear hHeld2
                try (unfold Act.put; simp only [List.setIfInBounds_toArray, List.set_cons_zero, List.set_cons_succ])
                refine take_read (i := 15) (v := ?_) (by simp only [List.getElem?_toArray, List.getElem?_cons_succ, List.getElem?_cons_zero]; rfl) (by kernel_rfl) (by kernel_rfl) (by kernel_rfl) (fun _ _ _ h => h) hHeld ?_ ?_
                rotate_left
                · intro w hSw
                  go_simp
                  try with_reducible rfl
                try simp only [Act.put, List.setIfInBounds_toArray, List.set_cons_zero, List.set_cons_succ]
                refine take_read (i := 16) (v := ?_) (by simp only [List.getElem?_toArray, List.getElem?_cons_succ, List.getElem?_cons_zero]; rfl) (by kernel_rfl) (by kernel_rfl) (by kernel_rfl) (fun _ _ _ h => h) hHeld ?_ ?_
                rotate_left
                · intro w hSw
                  go_simp
                  try with_reducible rfl
                try simp only [Act.put, List.setIfInBounds_toArray, List.set_cons_zero, List.set_cons_succ]
                refine take_read (i := 17) (v := ?_) (by simp only [List.getElem?_toArray, List.getElem?_cons_succ, List.getElem?_cons_zero]; rfl) (by kernel_rfl) (by kernel_rfl) (by kernel_rfl) (fun _ _ _ h => h) hHeld ?_ ?_
                rotate_left
                · intro w hSw
                  go_simp
                  try with_reducible rfl
                try simp only [Act.put, List.setIfInBounds_toArray, List.set_cons_zero, List.set_cons_succ]
                refine take_read (i := 18) (v := ?_) (by simp only [List.getElem?_toArray, List.getElem?_cons_succ, List.getElem?_cons_zero]; rfl) (by kernel_rfl) (by kernel_rfl) (by kernel_rfl) (fun _ _ _ h => h) hHeld ?_ ?_
                rotate_left
                · intro w hSw
                  go_simp
                  try with_reducible rfl
                try simp only [Act.put, List.setIfInBounds_toArray, List.set_cons_zero, List.set_cons_succ]
                refine wpAnyH_done (by kernel_rfl) ?_ _
                refine NoPanic.normal ?_
                go_wp2
                go_ret
                exact ⟨congrArg (fun z => Ending.returned (.int .i64 z)) HE.out.symm, C2.out.then (CK.out.then C14.out)⟩
              · have d3 : decide (IntKind.u64.wrap (H - L) ≤ m.entry) = false := decide_eq_false hen
                rw [if_neg hen] at hse
                rw [hse, firstE_zero, firstE1] at hee
                clear hse
                have Hgo := Lib.hid hgo
                have H16 := Lib.hid h16
                have Hsy := Lib.hid hsy
                have Hhas := Lib.hid hhas
                have HH := Lib.hid hH
                have HL := Lib.hid hL
                have Hen := Lib.hid hen
                clear hgo h16 hsy hhas hH hL hen
                go_upto_region 13 with fail
                refine wp_region_noPanic ?_
                refine wp_region_held_drew (S := fun w' => Chg [] wr w') (by kernel_rfl) ((Chg.refl _ _).drew) (fun hHeld => ?_)
                refine take_read (i := 0) (v := ?_) (by simp only [List.getElem?_toArray, List.getElem?_cons_zero]; rfl) (by kernel_rfl) (by kernel_rfl) (by kernel_rfl) (fun _ _ _ h => h) hHeld ?_ ?_
                rotate_left
                · intro w hSw
                  go_simp
                  try with_reducible rfl
                try simp only [Act.put, List.setIfInBounds_toArray, List.set_cons_zero, List.set_cons_succ]
                refine take_read (i := 1) (v := ?_) (by simp only [List.getElem?_toArray, List.getElem?_cons_succ, List.getElem?_cons_zero]; rfl) (by kernel_rfl) (by kernel_rfl) (by kernel_rfl) (fun _ _ _ h => h) hHeld ?_ ?_
                rotate_left
                · intro w hSw
                  go_simp
                  try with_reducible rfl
                try simp only [Act.put, List.setIfInBounds_toArray, List.set_cons_zero, List.set_cons_succ]
                refine take_read (i := 2) (v := ?_) (by simp only [List.getElem?_toArray, List.getElem?_cons_succ, List.getElem?_cons_zero]; rfl) (by kernel_rfl) (by kernel_rfl) (by kernel_rfl) (fun _ _ _ h => h) hHeld ?_ ?_
                rotate_left
                · intro w hSw
                  have y1 := hSw.cell y1 (by simp)
                  go_simp
                  try with_reducible rfl
                try simp only [Act.put, List.setIfInBounds_toArray, List.set_cons_zero, List.set_cons_succ]
                refine take_read (i := 3) (v := ?_) (by simp only [List.getElem?_toArray, List.getElem?_cons_succ, List.getElem?_cons_zero]; rfl) (by kernel_rfl) (by kernel_rfl) (by kernel_rfl) (fun _ _ _ h => h) hHeld ?_ ?_
                rotate_left
                · intro w hSw
                  go_simp
                  try with_reducible rfl
                try simp only [Act.put, List.setIfInBounds_toArray, List.set_cons_zero, List.set_cons_succ]
                refine take_read (i := 4) (v := ?_) (by simp only [List.getElem?_toArray, List.getElem?_cons_succ, List.getElem?_cons_zero]; rfl) (by kernel_rfl) (by kernel_rfl) (by kernel_rfl) (fun _ _ _ h => h) hHeld ?_ ?_
                rotate_left
                · intro w hSw
                  go_simp
                  try with_reducible rfl
                try simp only [Act.put, List.setIfInBounds_toArray, List.set_cons_zero, List.set_cons_succ]
                refine take_read (i := 5) (v := ?_) (by simp only [List.getElem?_toArray, List.getElem?_cons_succ, List.getElem?_cons_zero]; rfl) (by kernel_rfl) (by kernel_rfl) (by kernel_rfl) (fun _ _ _ h => h) hHeld ?_ ?_
                rotate_left
                · intro w hSw
                  go_simp
                  try with_reducible rfl
                try simp only [Act.put, List.setIfInBounds_toArray, List.set_cons_zero, List.set_cons_succ]
                refine take_read (i := 6) (v := ?_) (by simp only [List.getElem?_toArray, List.getElem?_cons_succ, List.getElem?_cons_zero]; rfl) (by kernel_rfl) (by kernel_rfl) (by kernel_rfl) (fun _ _ _ h => h) hHeld ?_ ?_
                rotate_left
                · intro w hSw
                  go_simp
                  try with_reducible rfl
                try simp only [Act.put, List.setIfInBounds_toArray, List.set_cons_zero, List.set_cons_succ]
                refine take_read (i := 7) (v := ?_) (by simp only [List.getElem?_toArray, List.getElem?_cons_succ, List.getElem?_cons_zero]; rfl) (by kernel_rfl) (by kernel_rfl) (by kernel_rfl) (fun _ _ _ h => h) hHeld ?_ ?_
                rotate_left
                · intro w hSw
                  have y2 := hSw.cell y2 (by simp)
                  go_simp
                  try with_reducible rfl
                try simp only [Act.put, List.setIfInBounds_toArray, List.set_cons_zero, List.set_cons_succ]
                refine take_read (i := 8) (v := ?_) (by simp only [List.getElem?_toArray, List.getElem?_cons_succ, List.getElem?_cons_zero]; rfl) (by kernel_rfl) (by kernel_rfl) (by kernel_rfl) (fun _ _ _ h => h) hHeld ?_ ?_
                rotate_left
                · intro w hSw
                  go_simp
                  try with_reducible rfl
                try simp only [Act.put, List.setIfInBounds_toArray, List.set_cons_zero, List.set_cons_succ]
                refine take_read (i := 9) (v := ?_) (by simp only [List.getElem?_toArray, List.getElem?_cons_succ, List.getElem?_cons_zero]; rfl) (by kernel_rfl) (by kernel_rfl) (by kernel_rfl) (fun _ _ _ h => h) hHeld ?_ ?_
                rotate_left
                · intro w hSw
                  go_simp
                  try with_reducible rfl
                try simp only [Act.put, List.setIfInBounds_toArray, List.set_cons_zero, List.set_cons_succ]
                refine take_read (i := 10) (v := ?_) (by simp only [List.getElem?_toArray, List.getElem?_cons_succ, List.getElem?_cons_zero]; rfl) (by kernel_rfl) (by kernel_rfl) (by kernel_rfl) (fun _ _ _ h => h) hHeld ?_ ?_
                rotate_left
                · intro w hSw
                  have y3 := hSw.cell y3 (by simp)
                  go_simp
                  try with_reducible rfl
                try simp only [Act.put, List.setIfInBounds_toArray, List.set_cons_zero, List.set_cons_succ]
                refine take_read (i := 11) (v := ?_) (by simp only [List.getElem?_toArray, List.getElem?_cons_succ, List.getElem?_cons_zero]; rfl) (by kernel_rfl) (by kernel_rfl) (by kernel_rfl) (fun _ _ _ h => h) hHeld ?_ ?_
                rotate_left
                · intro w hSw
                  refine Lay.read_ld Tryz.tImg ((X3.out.frame hSw).in) ?_ ?_
                  exact rfl
                  exact rfl
                try simp only [Act.put, List.setIfInBounds_toArray, List.set_cons_zero, List.set_cons_succ]
                refine take_read (i := 13) (v := ?_) (by simp only [List.getElem?_toArray, List.getElem?_cons_succ, List.getElem?_cons_zero]; rfl) (by kernel_rfl) (by kernel_rfl) (by kernel_rfl) (fun _ _ _ h => h) hHeld ?_ ?_
                rotate_left
                · intro w hSw
                  refine Lay.read_ld Tryz.tImg ((X3.out.frame hSw).in) ?_ ?_
                  exact rfl
                  exact rfl
                try simp only [Act.put, List.setIfInBounds_toArray, List.set_cons_zero, List.set_cons_succ]
                refine wpAnyH_ready (rs := [12]) (by kernel_rfl) (by simp) ?_
                refine AllReadyH.cons rfl (fun K hK => ?_) AllReadyH.nil
                go_simp
                refine (HHI.out _ (RD3.out.frame hHeld)).mono ?_
                rintro e WQ ⟨rfl, hch⟩
                have C12 : Hid (Chg [] wr WQ) := Lib.hid (hHeld.then hch)
                clear hch
                refine hK.out _ _ C12.out (fun hHeld2 => ?_)
                clear hK hHeld K
                have hHeld := hHeld2
                clear hHeld2
                try (unfold Act.put; simp only [List.setIfInBounds_toArray, List.set_cons_zero, List.set_cons_succ])
                refine wpAnyH_ready (rs := [14]) (by kernel_rfl) (by simp) ?_
                refine AllReadyH.cons rfl (fun K hK => ?_) AllReadyH.nil
                go_simp
                refine (HLO.out _ (RD3.out.frame hHeld)).mono ?_
                rintro e WR ⟨rfl, hch⟩
                have C14 : Hid (Chg [] wr WR) := Lib.hid (hHeld.then hch)
                clear hch
                refine hK.out _ _ C14.out (fun hHeld2 => ?_)
                clear hK hHeld K
                have hHeld := hHeld2
                clear hHeld2
                try (unfold Act.put; simp only [List.setIfInBounds_toArray, List.set_cons_zero, List.set_cons_succ])
                refine take_read (i := 15) (v := ?_) (by simp only [List.getElem?_toArray, List.getElem?_cons_succ, List.getElem?_cons_zero]; rfl) (by kernel_rfl) (by kernel_rfl) (by kernel_rfl) (fun _ _ _ h => h) hHeld ?_ ?_
                rotate_left
                · intro w hSw
                  go_simp
                  try with_reducible rfl
                try simp only [Act.put, List.setIfInBounds_toArray, List.set_cons_zero, List.set_cons_succ]
                refine take_read (i := 16) (v := ?_) (by simp only [List.getElem?_toArray, List.getElem?_cons_succ, List.getElem?_cons_zero]; rfl) (by kernel_rfl) (by kernel_rfl) (by kernel_rfl) (fun _ _ _ h => h) hHeld ?_ ?_
                rotate_left
                · intro w hSw
                  go_simp
                  try with_reducible rfl
                try simp only [Act.put, List.setIfInBounds_toArray, List.set_cons_zero, List.set_cons_succ]
                refine take_read (i := 17) (v := ?_) (by simp only [List.getElem?_toArray, List.getElem?_cons_succ, List.getElem?_cons_zero]; rfl) (by kernel_rfl) (by kernel_rfl) (by kernel_rfl) (fun _ _ _ h => h) hHeld ?_ ?_
                rotate_left
                · intro w hSw
                  go_simp
                  try with_reducible rfl
                try simp only [Act.put, List.setIfInBounds_toArray, List.set_cons_zero, List.set_cons_succ]
                refine take_read (i := 18) (v := ?_) (by simp only [List.getElem?_toArray, List.getElem?_cons_succ, List.getElem?_cons_zero]; rfl) (by kernel_rfl) (by kernel_rfl) (by kernel_rfl) (fun _ _ _ h => h) hHeld ?_ ?_
                rotate_left
                · intro w hSw
                  go_simp
                  try with_reducible rfl
                try simp only [Act.put, List.setIfInBounds_toArray, List.set_cons_zero, List.set_cons_succ]
                refine wpAnyH_done (by kernel_rfl) ?_ _
                refine NoPanic.normal ?_
                have v0 := Img.c_kind (X3.out.frame C14.out)
                have v1 := Img.c_name (X3.out.frame C14.out)
                rcases HNM.out with ⟨d1, d1', d2, hnm⟩ | ⟨d1, d1', d2, hnm⟩ | ⟨d1, d1', d2, hnm⟩ | ⟨d1, d1', d2, hnm⟩
                · rw [hnm] at hee
                  have HE := Lib.hid (hee)
                  clear hee hnm
                  go_wp2
                  go_ret
                  exact ⟨congrArg (fun z => Ending.returned (.int .i64 z)) HE.out.symm, C2.out.then (CK.out.then C14.out)⟩
                · rw [hnm] at hee
                  have HE := Lib.hid (hee)
                  clear hee hnm
                  go_wp2
                  go_ret
                  exact ⟨congrArg (fun z => Ending.returned (.int .i64 z)) HE.out.symm, C2.out.then (CK.out.then C14.out)⟩
                · rw [hnm] at hee
                  have HE := Lib.hid (hee)
                  clear hee hnm
                  go_wp2
                  go_ret
                  exact ⟨congrArg (fun z => Ending.returned (.int .i64 z)) HE.out.symm, C2.out.then (CK.out.then C14.out)⟩
                · rw [hnm] at hee
                  have HE := Lib.hid (hee)
                  clear hee hnm
                  go_wp2
                  go_ret
                  exact ⟨congrArg (fun z => Ending.returned (.int .i64 z)) HE.out.symm, C2.out.then (CK.out.then C14.out)⟩
          · rw [if_neg h16] at hse
            rw [hse, firstE_ne (by decide)] at hee
            clear hse
            have hsy : 0 ≤ m.syS := (Hb.out 6 (by rw [H88.out]; decide)).2.1
            have d0 : (m.syS.tmod 16 != 0) = true := by rw [Int.tmod_eq_emod_of_nonneg hsy, bne_iff_ne]; exact h16
            have HE := Lib.hid (hee)
            have Hgo := Lib.hid hgo
            have H16 := Lib.hid h16
            have Hsy := Lib.hid hsy
            clear hgo h16 hsy
            clear hee
            go_wp2_with fail
            go_quiet (fail)
            go_wp2
            go_ret
            exact ⟨congrArg (fun z => Ending.returned (.int .i64 z)) HE.out.symm, C2.out.then (CK.out.drewN _)⟩
    · have d1 : (E1 != 0) = true := by rw [bne_iff_ne]; exact z1
      rw [firstE_ne z1] at hee
      have HE := Lib.hid (hee)
      have Z1 := Lib.hid z1
      clear z1
      clear hee
      go_wp2
      go_ret
      exact ⟨congrArg (fun z => Ending.returned (.int .i64 z)) HE.out.symm, CB.out⟩
  · have d0 : (E0 != 0) = true := by rw [bne_iff_ne]; exact z0
    have hee := HEE.out
    rw [firstE_ne z0] at hee
    have HE := Lib.hid (hee)
    have Z0 := Lib.hid z0
    clear z0
    clear hee
    go_wp2
    go_ret
    exact ⟨congrArg (fun z => Ending.returned (.int .i64 z)) HE.out.symm, CA.out⟩
end Go.Proofs.YtaipelkegemoeaaGreatDoor
