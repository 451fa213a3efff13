/- clevislaw03.FatReads. -/
import Derived.Test.YtchkombikjcokaaDoorFatRp
import Derived.Test.YtchkombikjcokaaDoorRSlicA
import Derived.Test.YtchkombikjcokaaDoorSame
import Derived.Test.YtchkombikjcokaaDoorKnown3
namespace Go.Proofs.YtchkombikjcokaaDoor
open Go.RowKit
set_option maxRecDepth 100000

set_option maxHeartbeats 2000000 in
theorem FatReads_walk (w : World) (hg : Env w) (l : List UInt8) (a : Option Addr) (cap : Nat) (rd : Rd w (.slice a l.length cap) (bytesV l)) (arch : Int) (_ : (Lit.int .i64 arch).wf = true) :
    Calls Tryd.prog 4 #[.slice a l.length cap, .int .i64 arch] w fun e w' => e = .returned (.bool true) ∧ Chg [] w w' := by
  have HG := Lib.hid hg
  have HR := Lib.hid rd
  clear hg rd
  by_cases hl : 40000 < l.length
  · have k1 : decide ((40000 : Int) < (l.length : Int)) = true := by simp; omega
    clear hl
    go_enter Tryd.func4, Tryd.ntmps4
    go_wp2_with fail
    refine (known3 w HG.out).mono ?_
    rintro e w1 ⟨rfl, hch⟩
    have Hch := Lib.hid hch
    clear hch
    go_wp2
    go_ret
    exact ⟨rfl, Hch.out⟩
  · have k1 : decide ((40000 : Int) < (l.length : Int)) = false := by simp; omega
    have hlen : l.length ≤ 70368744177664 := by omega
    clear hl
    go_enter Tryd.func4, Tryd.ntmps4
    go_wp2_with (at_builtin; refine app_buf rfl _ _ rfl w.heap.size (.slice none 0 0) [] rfl (Buf.nil _ _) _ rfl l HR.out (by simp; omega) (Nat.le_refl _) ?_; intro va wa hoa hga haa; refine Hid.out ?_)
    refine Lib.hid ?_
    have HB : Hid (Buf wa w.heap.size va l) := Lib.hid (hoa)
    have C0 : Hid (Chg [] w wa) := Lib.hid ((Chg.refl [] w).trans (Chg.of_grown hga) (fun i hm _ => by simp [Value.ownBlock] at hm))
    clear hoa hga haa
    obtain ⟨a1, cap1, rfl⟩ := HB.out.form
    go_wp2_with fail
    refine (Slices_any l a1 cap1 wa (HG.out.frame C0.out (by simp)) HB.out.rd hlen).mono ?_
    rintro e w1 ⟨v1, rfl, hs1, hn1, hch⟩
    have S1 := Lib.hid (hs1)
    have N1 := Lib.hid (hn1)
    have D1 := Lib.hid (hch)
    have C1 := Lib.hid (C0.out.then hch)
    clear hs1 hn1 hch
    go_wp2_with fail
    refine (RSlices_any l a cap w1 (HR.out.frame C1.out (fun _ _ hm => by cases hm))).mono ?_
    rintro e w2 ⟨v2, rfl, hs2, hn2, hch⟩
    have S2 := Lib.hid (hs2)
    have N2 := Lib.hid (hn2)
    have D2 := Lib.hid (hch)
    have C2 := Lib.hid (C1.out.then hch)
    clear hs2 hn2 hch
    have TI := Lib.hid (taken_in arch l)
    have HS1 := Lib.hid (fun w hg rd => Slice_any arch l a1 cap1 w hg rd hlen)
    have HS2 := Lib.hid (fun w rd => RSlice_any arch l a cap w rd hlen)
    rw [takenV_eq] at HS1 HS2
    generalize takenO arch l = O at TI HS1 HS2
    generalize takenZ arch l = Z at TI HS1 HS2
    generalize takenE arch l = E at HS1 HS2
    unfold spanV at HS1 HS2
    go_wp2_with fail
    refine (HS1.out w2 (HG.out.frame C2.out (by simp)) (HB.out.pure (D1.out.then D2.out)).rd).mono ?_
    rintro e w3 ⟨rfl, hch⟩
    have F3 := Lib.hid (hch)
    have C3 := Lib.hid (C2.out.then hch)
    clear hch
    go_wp2_with fail
    obtain ⟨X, hX⟩ : ∃ q, q = w3.heap.size := ⟨_, rfl⟩
    obtain ⟨v3, hv3⟩ : ∃ q, q = w3.alloc (.cells #[.int .u64 O, .int .u64 Z] 44) := ⟨_, rfl⟩
    have BX : Hid (v3.heap[X]? = some (.cells #[.int .u64 O, .int .u64 Z] 44 (0, 0))) := Lib.hid (by rw [hv3, hX]; exact heap_alloc_eq _ _)
    have Cv3 : Hid (Chg [] w3 v3) := Lib.hid (by rw [hv3]; exact (Chg.refl _ _).alloc _)
    rw [← hX, ← hv3]
    clear hX hv3
    refine (HS2.out v3 (HR.out.frame (C3.out.then Cv3.out) (fun _ _ hm => by cases hm))).mono ?_
    rintro e w4 ⟨rfl, hch⟩
    have E4 := Lib.hid (hch)
    have C4 := Lib.hid ((C3.out.then Cv3.out).then hch)
    clear hch
    go_wp2_with fail
    obtain ⟨Y, hY⟩ : ∃ q, q = w4.heap.size := ⟨_, rfl⟩
    obtain ⟨v4, hv4⟩ : ∃ q, q = w4.alloc (.cells #[.int .u64 O, .int .u64 Z] 44) := ⟨_, rfl⟩
    have BY : Hid (v4.heap[Y]? = some (.cells #[.int .u64 O, .int .u64 Z] 44 (0, 0))) := Lib.hid (by rw [hv4, hY]; exact heap_alloc_eq _ _)
    have Cv4 : Hid (Chg [] w4 v4) := Lib.hid (by rw [hv4]; exact (Chg.refl _ _).alloc _)
    rw [← hY, ← hv4]
    clear hY hv4
    have CV := Lib.hid (C4.out.then Cv4.out)
    have F2 := Lib.hid (F3.out.then (Cv3.out.then (E4.out.then Cv4.out)))
    obtain ⟨LS, hLS⟩ : ∃ LS, LS = if sliceE l = 0 then sliceL l else [] := ⟨_, rfl⟩
    have SL1 : Hid (SlRd v4 v1 LS) := by
      refine Lib.hid ?_
      rw [hLS]
      by_cases h0 : sliceE l = 0
      · rw [if_pos h0]; exact (S1.out h0).frame (D2.out.then F2.out)
      · rw [if_neg h0, N1.out h0]; exact ⟨none, 0, 0, rfl, rfl, Nat.le_refl _, Nat.zero_le _, fun h => absurd rfl h⟩
    have SL2 : Hid (SlRd v4 v2 LS) := by
      refine Lib.hid ?_
      rw [hLS]
      by_cases h0 : sliceE l = 0
      · rw [if_pos h0]; exact (S2.out h0).frame F2.out
      · rw [if_neg h0, N2.out h0]; exact ⟨none, 0, 0, rfl, rfl, Nat.le_refl _, Nat.zero_le _, fun h => absurd rfl h⟩
    have hLL : LS.length ≤ 4294967296 := by
      rw [hLS]
      split
      · exact sliceL_len l
      · exact Nat.zero_le _
    have HIN : Hid (∀ s ∈ LS, s.off + s.size ≤ l.length) := by
      refine Lib.hid ?_
      rw [hLS]
      intro s hs
      split at hs
      · rename_i h0; exact sliceL_in l h0 s hs
      · cases hs
    clear hLS
    generalize sliceE l = Q at *
    refine (same_refl LS v1 v2 v4 SL1.out SL2.out (by omega)).mono ?_
    rintro e w5 ⟨rfl, hch⟩
    have C5 := Lib.hid (CV.out.then hch)
    have bx := (Cv3.out |> fun _ => (E4.out.then (Cv4.out.then hch)).heap BX.out (by simp))
    have by' := hch.heap BY.out (by simp)
    have x0 := cell_of_heap bx 0
    have x1 := cell_of_heap bx 1
    have y0 := cell_of_heap by' 0
    have y1 := cell_of_heap by' 1
    simp at x0 x1 y0 y1
    have t1 : (convert 24 9 (.slice a1 l.length cap1)).run Tryd.prog w5 = .ok (.string ⟨l.toArray⟩) w5 := run_str (HB.out.pure ((D1.out.then D2.out).then (F2.out.then hch))).rd
    have t2 : (convert 24 9 (.slice a l.length cap)).run Tryd.prog w5 = .ok (.string ⟨l.toArray⟩) w5 := run_str (HR.out.frame C5.out (fun _ _ hm => by cases hm))
    have K5 := Lib.hid (hch)
    clear bx by' hch
    obtain ⟨a2, n2, c2, rfl, rfl, hc21, hc22, hx2⟩ := SL1.out
    unfold maxLen at hc22
    have HX2 := Lib.hid hx2
    clear hx2
    go_wp2_with fail
    clear t1 t2
    go_loopw [14] (fun s14 wr => ∃ k : Nat, k ≤ LS.length ∧ s14 = .int .i64 (k : Int) ∧ Chg [] w5 wr) (fun s14 _ => LS.length - (intOf s14).toNat)
    case atStart => exact ⟨0, Nat.zero_le _, rfl, Chg.refl _ _⟩
    case round =>
      obtain ⟨k, hk, rfl, hch⟩ := hrel
      have Hch := Lib.hid hch
      clear hch
      by_cases hlt : k < LS.length
      · obtain ⟨b, off, rfl, _, hcell⟩ := HX2.out (by rintro rfl; simp at hlt)
        obtain ⟨_, _, h3, h4, _⟩ := hcell k hlt
        obtain ⟨s, hs⟩ : ∃ s, s = LS.getD k .zero := ⟨_, rfl⟩
        have hin := HIN.out s (by rw [hs]; simp [List.getD_eq_getElem?_getD, hlt])
        rw [← hs] at h3 h4
        have k3 := (K5.out.then Hch.out).cell h3 (by simp)
        have k4 := (K5.out.then Hch.out).cell h4 (by simp)
        clear hcell hs h3 h4
        have HWI := Lib.hid (fun w => RefWithin_any s.off s.size l.length (by omega) w)
        rw [decide_eq_true hin] at HWI
        clear hin
        have wl : IntKind.u64.wrap (l.length : Int) = (l.length : Int) := by rw [IntKind.wrap_u64]; omega
        go_wp2_with fail
        refine wp_region_noPanic ?_
        refine wp_region_held_drew (S := fun w' => Chg [] wr w') (by kernel_rfl) ((Chg.refl _ _).drew) (fun hHeld => ?_)
        refine take_read (i := 0) (v := ?_) (by simp only [List.getElem?_toArray, List.getElem?_cons_zero]; rfl) (by kernel_rfl) (by kernel_rfl) (by kernel_rfl) (fun _ _ _ h => h) hHeld ?_ ?_
        rotate_left
        · intro w hSw
          go_simp
          try with_reducible rfl
        try simp only [Act.put, List.setIfInBounds_toArray, List.set_cons_zero, List.set_cons_succ]
        refine take_read (i := 1) (v := ?_) (by simp only [List.getElem?_toArray, List.getElem?_cons_succ, List.getElem?_cons_zero]; rfl) (by kernel_rfl) (by kernel_rfl) (by kernel_rfl) (fun _ _ _ h => h) hHeld ?_ ?_
        rotate_left
        · intro w hSw
          go_simp
          try with_reducible rfl
        try simp only [Act.put, List.setIfInBounds_toArray, List.set_cons_zero, List.set_cons_succ]
        refine take_read (i := 2) (v := ?_) (by simp only [List.getElem?_toArray, List.getElem?_cons_succ, List.getElem?_cons_zero]; rfl) (by kernel_rfl) (by kernel_rfl) (by kernel_rfl) (fun _ _ _ h => h) hHeld ?_ ?_
        rotate_left
        · intro w hSw
          go_simp
          try with_reducible rfl
        try simp only [Act.put, List.setIfInBounds_toArray, List.set_cons_zero, List.set_cons_succ]
        refine take_read (i := 3) (v := ?_) (by simp only [List.getElem?_toArray, List.getElem?_cons_succ, List.getElem?_cons_zero]; rfl) (by kernel_rfl) (by kernel_rfl) (by kernel_rfl) (fun _ _ _ h => h) hHeld ?_ ?_
        rotate_left
        · intro w hSw
          go_simp
          try with_reducible rfl
        try simp only [Act.put, List.setIfInBounds_toArray, List.set_cons_zero, List.set_cons_succ]
        refine take_read (i := 4) (v := ?_) (by simp only [List.getElem?_toArray, List.getElem?_cons_succ, List.getElem?_cons_zero]; rfl) (by kernel_rfl) (by kernel_rfl) (by kernel_rfl) (fun _ _ _ h => h) hHeld ?_ ?_
        rotate_left
        · intro w hSw
          go_simp
          try with_reducible rfl
        try simp only [Act.put, List.setIfInBounds_toArray, List.set_cons_zero, List.set_cons_succ]
        refine take_read (i := 5) (v := ?_) (by simp only [List.getElem?_toArray, List.getElem?_cons_succ, List.getElem?_cons_zero]; rfl) (by kernel_rfl) (by kernel_rfl) (by kernel_rfl) (fun _ _ _ h => h) hHeld ?_ ?_
        rotate_left
        · intro w hSw
          have k3 := hSw.cell k3 (by simp)
          go_simp
          try with_reducible rfl
        try simp only [Act.put, List.setIfInBounds_toArray, List.set_cons_zero, List.set_cons_succ]
        refine take_read (i := 6) (v := ?_) (by simp only [List.getElem?_toArray, List.getElem?_cons_succ, List.getElem?_cons_zero]; rfl) (by kernel_rfl) (by kernel_rfl) (by kernel_rfl) (fun _ _ _ h => h) hHeld ?_ ?_
        rotate_left
        · intro w hSw
          go_simp
          try with_reducible rfl
        try simp only [Act.put, List.setIfInBounds_toArray, List.set_cons_zero, List.set_cons_succ]
        refine take_read (i := 7) (v := ?_) (by simp only [List.getElem?_toArray, List.getElem?_cons_succ, List.getElem?_cons_zero]; rfl) (by kernel_rfl) (by kernel_rfl) (by kernel_rfl) (fun _ _ _ h => h) hHeld ?_ ?_
        rotate_left
        · intro w hSw
          go_simp
          try with_reducible rfl
        try simp only [Act.put, List.setIfInBounds_toArray, List.set_cons_zero, List.set_cons_succ]
        refine take_read (i := 8) (v := ?_) (by simp only [List.getElem?_toArray, List.getElem?_cons_succ, List.getElem?_cons_zero]; rfl) (by kernel_rfl) (by kernel_rfl) (by kernel_rfl) (fun _ _ _ h => h) hHeld ?_ ?_
        rotate_left
        · intro w hSw
          go_simp
          try with_reducible rfl
        try simp only [Act.put, List.setIfInBounds_toArray, List.set_cons_zero, List.set_cons_succ]
        refine take_read (i := 9) (v := ?_) (by simp only [List.getElem?_toArray, List.getElem?_cons_succ, List.getElem?_cons_zero]; rfl) (by kernel_rfl) (by kernel_rfl) (by kernel_rfl) (fun _ _ _ h => h) hHeld ?_ ?_
        rotate_left
        · intro w hSw
          go_simp
          try with_reducible rfl
        try simp only [Act.put, List.setIfInBounds_toArray, List.set_cons_zero, List.set_cons_succ]
        refine take_read (i := 10) (v := ?_) (by simp only [List.getElem?_toArray, List.getElem?_cons_succ, List.getElem?_cons_zero]; rfl) (by kernel_rfl) (by kernel_rfl) (by kernel_rfl) (fun _ _ _ h => h) hHeld ?_ ?_
        rotate_left
        · intro w hSw
          go_simp
          try with_reducible rfl
        try simp only [Act.put, List.setIfInBounds_toArray, List.set_cons_zero, List.set_cons_succ]
        refine take_read (i := 11) (v := ?_) (by simp only [List.getElem?_toArray, List.getElem?_cons_succ, List.getElem?_cons_zero]; rfl) (by kernel_rfl) (by kernel_rfl) (by kernel_rfl) (fun _ _ _ h => h) hHeld ?_ ?_
        rotate_left
        · intro w hSw
          have k4 := hSw.cell k4 (by simp)
          go_simp
          try with_reducible rfl
        try simp only [Act.put, List.setIfInBounds_toArray, List.set_cons_zero, List.set_cons_succ]
        refine take_read (i := 12) (v := ?_) (by simp only [List.getElem?_toArray, List.getElem?_cons_succ, List.getElem?_cons_zero]; rfl) (by kernel_rfl) (by kernel_rfl) (by kernel_rfl) (fun _ _ _ h => h) hHeld ?_ ?_
        rotate_left
        · intro w hSw
          go_simp
          try with_reducible rfl
        try simp only [Act.put, List.setIfInBounds_toArray, List.set_cons_zero, List.set_cons_succ]
        refine take_read (i := 13) (v := ?_) (by simp only [List.getElem?_toArray, List.getElem?_cons_succ, List.getElem?_cons_zero]; rfl) (by kernel_rfl) (by kernel_rfl) (by kernel_rfl) (fun _ _ _ h => h) hHeld ?_ ?_
        rotate_left
        · intro w hSw
          go_simp
          try with_reducible rfl
        try simp only [Act.put, List.setIfInBounds_toArray, List.set_cons_zero, List.set_cons_succ]
        refine take_read (i := 14) (v := ?_) (by simp only [List.getElem?_toArray, List.getElem?_cons_succ, List.getElem?_cons_zero]; rfl) (by kernel_rfl) (by kernel_rfl) (by kernel_rfl) (fun _ _ _ h => h) hHeld ?_ ?_
        rotate_left
        · intro w hSw
          go_simp
          try with_reducible rfl
        try simp only [Act.put, List.setIfInBounds_toArray, List.set_cons_zero, List.set_cons_succ]
        refine wpAnyH_ready (rs := [15]) (by kernel_rfl) (by simp) ?_
        refine AllReadyH.cons rfl (fun K hK => ?_) AllReadyH.nil
        go_simp
        refine (HWI.out _).mono ?_
        rintro e w6 ⟨rfl, rfl⟩
        refine hK.out _ _ (show Chg [] wr wr.drew from (Chg.refl _ _).drew) (fun _ => ?_)
        clear hK hHeld K
        have hHeld := (show Chg [] wr wr.drew from (Chg.refl _ _).drew)
        try (unfold Act.put; simp only [List.setIfInBounds_toArray, List.set_cons_zero, List.set_cons_succ])
        refine take_read (i := 16) (v := ?_) (by simp only [List.getElem?_toArray, List.getElem?_cons_succ, List.getElem?_cons_zero]; rfl) (by kernel_rfl) (by kernel_rfl) (by kernel_rfl) (fun _ _ _ h => h) hHeld ?_ ?_
        rotate_left
        · intro w hSw
          go_simp
          try with_reducible rfl
        try simp only [Act.put, List.setIfInBounds_toArray, List.set_cons_zero, List.set_cons_succ]
        refine wpAnyH_done (by kernel_rfl) ?_ _
        refine NoPanic.normal ?_
        go_wp2
        go_roundw
        case rel => exact ⟨k + 1, hlt, by go_num, Hch.out.drew⟩
        case measure => simp [intOf]; omega
      · obtain rfl : k = LS.length := by omega
        replace x0 := Hch.out.cell x0 (by simp)
        replace x1 := Hch.out.cell x1 (by simp)
        have HWI := Lib.hid (fun w => RefWithin_any O Z l.length (by omega) w)
        rw [decide_eq_true TI.out] at HWI
        have HEN := Lib.hid (HG.out.frame (C5.out.then Hch.out) (by simp))
        go_wp2_with fail
        refine (HWI.out wr).mono ?_
        rintro e w6 ⟨rfl, rfl⟩
        go_wp2_with fail
        refine (known3 _ HEN.out).mono ?_
        rintro e w7 ⟨rfl, hch⟩
        have C7 := Lib.hid ((C5.out.then Hch.out).then hch)
        clear hch
        go_wp2
        go_ret
        exact ⟨rfl, C7.out⟩
end Go.Proofs.YtchkombikjcokaaDoor
