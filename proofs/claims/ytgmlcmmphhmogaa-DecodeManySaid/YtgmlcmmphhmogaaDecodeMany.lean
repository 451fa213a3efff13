/- clevislaw17.DecodeMany, walked. -/
import Derived.Test.YtgmlcmmphhmogaaDm9
namespace Go.Proofs.Ytgmlcmmphhmogaa
open Go.RowKit
set_option maxRecDepth 100000

theorem fb2 {W : World} {o p : Obj} {n : Nat} {l : List Fx} (h : FB (((W.alloc o).drew).alloc p) (W.alloc o).drew.heap.size (.slice (some ⟨(W.alloc o).drew.heap.size, 0, none⟩) n n) l) : FB (((W.alloc o).drew).alloc p) W.heap.size (.slice (some ⟨W.heap.size + 1, 0, none⟩) n n) l := by
  have e : (W.alloc o).drew.heap.size = W.heap.size + 1 := Array.size_push ..
  rw [e] at h
  exact h.mono (Nat.le_succ _)
theorem with_any {Q : World → Prop} {W : World} (R : World → Prop) (hR : R W) (k : ∀ W', R W' → Q W') : Q W := k W hR
set_option maxHeartbeats 8000000 in
theorem DecodeMany_walk (w : World) (f : Fx) (hat : 0 ≤ f.at_ ∧ f.at_ < 18446744073709551616) (a1 : Int) (w1 : (Lit.int .i64 a1).wf = true) (a2 : Int) (w2 : (Lit.int .i64 a2).wf = true) :
    Calls Try.prog 3 #[fxl.val f, .int .i64 a1, .int .i64 a2] w fun e w' => e = .returned (.bool true) ∧ Chg [] w w' := by
  have HK := Lib.hid (known17)
  have hb1 := int_i64 _ w1
  have hb2 := int_i64 _ w2
  by_cases h1 : a1 < 0
  · have d1 : decide (a1 < (0 : Int)) = true := by simpa using h1
    go_enter Try.func3, Try.ntmps3
    go_wp2_with ((with_reducible refine Lay.bxL (L := fxl) 25 f ?_ ?_); exact rfl; intro W1 bx ebx cbx xbx; replace ebx := Lib.hid ebx; replace cbx := Lib.hid cbx; replace xbx := Lib.hid xbx; refine Hid.out ?_)
    refine Lib.hid ?_
    go_wp2_with fail
    refine (HK.out _).mono ?_
    rintro e W2 ⟨rfl, hc⟩
    have Hc := Lib.hid hc
    clear hc
    go_wp2
    go_ret
    exact ⟨rfl, cbx.out.then Hc.out⟩
  have d1 : decide (a1 < (0 : Int)) = false := by simp; omega
  by_cases h2 : 20010 < a1
  · have d2 : decide ((20010 : Int) < a1) = true := by simpa using h2
    go_enter Try.func3, Try.ntmps3
    go_wp2_with ((with_reducible refine Lay.bxL (L := fxl) 25 f ?_ ?_); exact rfl; intro W1 bx ebx cbx xbx; replace ebx := Lib.hid ebx; replace cbx := Lib.hid cbx; replace xbx := Lib.hid xbx; refine Hid.out ?_)
    refine Lib.hid ?_
    go_wp2_with fail
    refine (HK.out _).mono ?_
    rintro e W2 ⟨rfl, hc⟩
    have Hc := Lib.hid hc
    clear hc
    go_wp2
    go_ret
    exact ⟨rfl, cbx.out.then Hc.out⟩
  have d2 : decide ((20010 : Int) < a1) = false := by simp; omega
  by_cases h3 : a2 < 0
  · have d3 : decide (a2 < (0 : Int)) = true := by simpa using h3
    go_enter Try.func3, Try.ntmps3
    go_wp2_with ((with_reducible refine Lay.bxL (L := fxl) 25 f ?_ ?_); exact rfl; intro W1 bx ebx cbx xbx; replace ebx := Lib.hid ebx; replace cbx := Lib.hid cbx; replace xbx := Lib.hid xbx; refine Hid.out ?_)
    refine Lib.hid ?_
    go_wp2_with fail
    refine (HK.out _).mono ?_
    rintro e W2 ⟨rfl, hc⟩
    have Hc := Lib.hid hc
    clear hc
    go_wp2
    go_ret
    exact ⟨rfl, cbx.out.then Hc.out⟩
  have d3 : decide (a2 < (0 : Int)) = false := by simp; omega
  by_cases h4 : 20 < a2
  · have d4 : decide ((20 : Int) < a2) = true := by simpa using h4
    go_enter Try.func3, Try.ntmps3
    go_wp2_with ((with_reducible refine Lay.bxL (L := fxl) 25 f ?_ ?_); exact rfl; intro W1 bx ebx cbx xbx; replace ebx := Lib.hid ebx; replace cbx := Lib.hid cbx; replace xbx := Lib.hid xbx; refine Hid.out ?_)
    refine Lib.hid ?_
    go_wp2_with fail
    refine (HK.out _).mono ?_
    rintro e W2 ⟨rfl, hc⟩
    have Hc := Lib.hid hc
    clear hc
    go_wp2
    go_ret
    exact ⟨rfl, cbx.out.then Hc.out⟩
  have d4 : decide ((20 : Int) < a2) = false := by simp; omega
  obtain ⟨M, rfl⟩ : ∃ N : Nat, a1 = N := ⟨a1.toNat, by omega⟩
  obtain ⟨R, rfl⟩ : ∃ N : Nat, a2 = N := ⟨a2.toNat, by omega⟩
  have hM : M ≤ 20010 := by omega
  have hR : R ≤ 20 := by omega
  clear h1 h2 h3 h4 w1 w2 hb1 hb2
  have HMY := Lib.hid (rmay12_some f)
  obtain ⟨oM, hmM⟩ := makeF M (by omega)
  obtain ⟨oR, hmR⟩ := makeF R (by omega)
  have rM := fun w => (hmM w).1
  have rR := fun w => (hmR w).1
  have HmM := Lib.hid hmM
  have HmR := Lib.hid hmR
  have RM := Lib.hid rM
  have RR := Lib.hid rR
  clear hmM hmR rM rR
  go_enter Try.func3, Try.ntmps3
  go_wp2_with ((with_reducible refine Lay.bxL (L := fxl) 25 f ?_ ?_); exact rfl; intro W1 bx ebx cbx xbx; replace ebx := Lib.hid ebx; replace cbx := Lib.hid cbx; replace xbx := Lib.hid xbx; refine Hid.out ?_)
  refine Lib.hid ?_
  go_wp2_with ((with_reducible refine Lay.ldG2 Try.tFx f (xbx.out.in) ?_ ?_ ?_); exact rfl; exact rfl; refine Hid.out ?_)
  refine Lib.hid ?_
  go_wp2_with fail
  refine (HMY.out _).mono ?_
  rintro e W2 ⟨⟨b, rfl⟩, hc⟩
  have C2 := Lib.hid (cbx.out.then hc)
  have X2 := Lib.hid (xbx.out.frame hc)
  clear hc cbx xbx ebx
  cases b with
  | false =>
    go_wp2_with fail
    refine (HK.out _).mono ?_
    rintro e W3 ⟨rfl, hc⟩
    have Hc := Lib.hid hc
    clear hc
    go_wp2
    go_ret
    exact ⟨rfl, C2.out.then Hc.out⟩
  | true =>
    go_upto_region 3 with fail
    refine wp_region_noPanic ?_
    refine wp_region_held_drew (S := fun w' => Chg [] W2 w') (by kernel_rfl) ((Chg.refl _ _).drew) (fun hHeld => ?_)
    refine take_read (i := 0) (v := ?_) (by simp only [List.getElem?_toArray, List.getElem?_cons_zero]; rfl) (by kernel_rfl) (by kernel_rfl) (by kernel_rfl) (fun _ _ _ h => h) hHeld ?_ ?_
    rotate_left
    · intro w hSw
      go_simp
      try with_reducible rfl
    try simp only [Act.put, List.setIfInBounds_toArray, List.set_cons_zero, List.set_cons_succ]
    refine take_read (i := 2) (v := ?_) (by simp only [List.getElem?_toArray, List.getElem?_cons_succ, List.getElem?_cons_zero]; rfl) (by kernel_rfl) (by kernel_rfl) (by kernel_rfl) (fun _ _ _ h => h) hHeld ?_ ?_
    rotate_left
    · intro w hSw
      go_simp
      try with_reducible rfl
    try simp only [Act.put, List.setIfInBounds_toArray, List.set_cons_zero, List.set_cons_succ]
    refine wpAnyH_ready (rs := [1, 3]) (by kernel_rfl) (by simp) ?_
    refine AllReadyH.cons rfl (fun K hK => ?_) (AllReadyH.cons rfl (fun K hK => ?_) AllReadyH.nil)
    · go_simp
      rw [RM.out]
      simp only [Result.andThen_ok]
      rw [Oper.upon_value]
      refine hK.out _ _ (hHeld.alloc _) (fun hHeld2 => ?_)
      clear hK hHeld K
      have hHeld := hHeld2
      clear hHeld2
      try (unfold Act.put; simp only [List.setIfInBounds_toArray, List.set_cons_zero, List.set_cons_succ])
      refine take_read (i := 4) (v := ?_) (by simp only [List.getElem?_toArray, List.getElem?_cons_succ, List.getElem?_cons_zero]; rfl) (by kernel_rfl) (by kernel_rfl) (by kernel_rfl) (fun _ _ _ h => h) hHeld ?_ ?_
      rotate_left
      · intro w hSw
        go_simp
        try with_reducible rfl
      try simp only [Act.put, List.setIfInBounds_toArray, List.set_cons_zero, List.set_cons_succ]
      refine wpAnyH_ready (rs := [3]) (by kernel_rfl) (by simp) ?_
      refine AllReadyH.cons rfl (fun K hK => ?_) AllReadyH.nil
      go_simp
      rw [RR.out]
      simp only [Result.andThen_ok]
      rw [Oper.upon_value]
      refine hK.out _ _ (hHeld.alloc _) (fun hHeld2 => ?_)
      clear hK hHeld K
      have hHeld := hHeld2
      clear hHeld2
      try (unfold Act.put; simp only [List.setIfInBounds_toArray, List.set_cons_zero, List.set_cons_succ])
      refine take_read (i := 5) (v := ?_) (by simp only [List.getElem?_toArray, List.getElem?_cons_succ, List.getElem?_cons_zero]; rfl) (by kernel_rfl) (by kernel_rfl) (by kernel_rfl) (fun _ _ _ h => h) hHeld ?_ ?_
      rotate_left
      · intro w hSw
        go_simp
        try with_reducible rfl
      try simp only [Act.put, List.setIfInBounds_toArray, List.set_cons_zero, List.set_cons_succ]
      refine wpAnyH_done (by kernel_rfl) ?_ _
      refine NoPanic.normal ?_
      obtain ⟨ga, ega⟩ : ∃ x, x = W2.heap.size := ⟨_, rfl⟩
      obtain ⟨gb, egb⟩ : ∃ x, x = W2.heap.size + 1 := ⟨_, rfl⟩
      generalize (W2.alloc oM).drew.heap.size = gz; rw [← egb, ← ega]
      refine with_any (Q := Exit.then _ _ _ _) (fun W => FB W W2.heap.size (.slice (some ⟨ga, 0, none⟩) M M) (parF 0 M f) ∧ FB W W2.heap.size (.slice (some ⟨gb, 0, none⟩) R R) (parF 0 R f) ∧ Chg [] W2 W) ⟨?_, ?_, hHeld⟩ (fun W3 hW => ?_)
      · rw [parF_none, ega]
        exact (HmM.out W2).2.pure (((Chg.refl _ _).drew).alloc _)
      · rw [parF_none, egb]
        exact fb2 (HmR.out (W2.alloc oM).drew).2
      obtain ⟨fa, fb, hc3⟩ := hW
      have hga : W2.heap.size ≤ ga := by omega
      have hgb : W2.heap.size ≤ gb := by omega
      have hne : ga ≠ gb := by omega
      have hbx : bx < W2.heap.size := X2.out.lt
      have hw2 : w.heap.size ≤ W2.heap.size := C2.out.size
      clear ega egb hHeld
      have FA := Lib.hid (fa)
      have FBB := Lib.hid (fb)
      have C3 := Lib.hid (C2.out.then hc3)
      have X3 := Lib.hid (X2.out.frame hc3)
      clear fa fb hc3 C2 X2
      go_wp2_with fail
      go_loopw [9] (fun s9 wr => ∃ k : Nat, k ≤ M ∧ s9 = .int .i64 (k : Int) ∧ FB wr W2.heap.size (.slice (some ⟨ga, 0, none⟩) M M) (parF k M f) ∧ Chg [ga] W3 wr) (fun s9 _ => M - (intOf s9).toNat)
      case atStart => exact ⟨0, Nat.zero_le _, rfl, FA.out, Chg.refl _ _⟩
      case round =>
        obtain ⟨k, hk, rfl, hfb, hch⟩ := hrel
        by_cases hlt : k < M
        · have hpl := parF_len k M f hk
          have hI : fxl.In wr ga (k * 7) ((parF k M f).getD k .zero) := by
            obtain ⟨b, off, he, _, hcell⟩ := hfb.rd.at (by omega)
            cases he
            have := hcell k (by omega)
            rwa [Nat.zero_add] at this
          have hf : ∀ j, wr.frozen? ⟨ga, j, none⟩ = false := by
            obtain ⟨g', c', he, _, _, _, _, _, hfz, _⟩ := hfb.at (by omega)
            injection he with he1 _ _
            cases he1
            exact hfz
          have hx : fxl.In wr bx 0 f := (X3.out.frameS hch (by simp; omega)).in
          have Hfb := Lib.hid hfb
          have Hch := Lib.hid hch
          have HI := Lib.hid hI
          have Hf := Lib.hid hf
          have Hx := Lib.hid hx
          have Hpl := Lib.hid hpl
          clear hfb hch hI hf hx hpl
          go_wp2_with ((with_reducible refine Lay.ldL Try.tFx f (Hx.out) ?_ ?_); exact rfl; refine Hid.out ?_)
          refine Lib.hid ?_
          go_wp2_with ((with_reducible refine stIn Try.tFx f (HI.out) Hf.out ?_ ?_ ?_); exact rfl; exact rfl; intro wn ewn; replace ewn := Lib.hid ewn; refine Hid.out ?_)
          refine Lib.hid ?_
          have BN : Hid (FB wn W2.heap.size (.slice (some ⟨ga, 0, none⟩) M M) (parF (k + 1) M f)) := by
            refine Lib.hid ?_
            rw [ewn.out, ← parF_set k M f hlt]
            exact Hfb.out.put rfl k (by rw [Hpl.out]; exact hlt) f
          have CN : Hid (Chg [ga] W3 wn) := by
            refine Lib.hid ?_
            rw [ewn.out]
            exact Hch.out.same (Lay.setW_chg ga _ _ (k * 7))
          go_wp2
          go_roundw
          case rel => exact ⟨k + 1, hlt, by go_num, BN.out, CN.out⟩
          case measure => simp [intOf]; omega
        · obtain rfl : M = k := by omega
          rw [parF_all] at hfb
          have Hfb := Lib.hid hfb
          have Hch := Lib.hid hch
          clear hfb hch
          obtain ⟨W4, rfl⟩ : ∃ x, x = wr := ⟨_, rfl⟩
          have FA4 := Lib.hid (Hfb.out)
          have FB4 := Lib.hid (FBB.out.frame Hch.out (fun b hb hm => by cases hb; simp at hm; omega))
          have X4 := Lib.hid (X3.out.frameS Hch.out (by simp; omega))
          have C4 : Hid (Chg [] w W4) := Lib.hid (C3.out.trans Hch.out (fun i hi hw => by simp at hi; omega))
          clear FA FBB X3 C3 Hfb Hch
          go_wp2_with fail
          go_loopw [10] (fun s9 wr => ∃ k : Nat, k ≤ R ∧ s9 = .int .i64 (k : Int) ∧ FB wr W2.heap.size (.slice (some ⟨gb, 0, none⟩) R R) (parF k R f) ∧ Chg [gb] W4 wr) (fun s9 _ => R - (intOf s9).toNat)
          case atStart => exact ⟨0, Nat.zero_le _, rfl, FB4.out, Chg.refl _ _⟩
          case round =>
            obtain ⟨k, hk, rfl, hfb, hch⟩ := hrel
            by_cases hlt : k < R
            · have hpl := parF_len k R f hk
              have hI : fxl.In wr gb (k * 7) ((parF k R f).getD k .zero) := by
                obtain ⟨b, off, he, _, hcell⟩ := hfb.rd.at (by omega)
                cases he
                have := hcell k (by omega)
                rwa [Nat.zero_add] at this
              have hf : ∀ j, wr.frozen? ⟨gb, j, none⟩ = false := by
                obtain ⟨g', c', he, _, _, _, _, _, hfz, _⟩ := hfb.at (by omega)
                injection he with he1 _ _
                cases he1
                exact hfz
              have hx : fxl.In wr bx 0 f := (X4.out.frameS hch (by simp; omega)).in
              have Hfb := Lib.hid hfb
              have Hch := Lib.hid hch
              have HI := Lib.hid hI
              have Hf := Lib.hid hf
              have Hx := Lib.hid hx
              have Hpl := Lib.hid hpl
              clear hfb hch hI hf hx hpl
              go_wp2_with ((with_reducible refine Lay.ldL Try.tFx f (Hx.out) ?_ ?_); exact rfl; refine Hid.out ?_)
              refine Lib.hid ?_
              go_wp2_with ((with_reducible refine stIn Try.tFx f (HI.out) Hf.out ?_ ?_ ?_); exact rfl; exact rfl; intro wn ewn; replace ewn := Lib.hid ewn; refine Hid.out ?_)
              refine Lib.hid ?_
              have BN : Hid (FB wn W2.heap.size (.slice (some ⟨gb, 0, none⟩) R R) (parF (k + 1) R f)) := by
                refine Lib.hid ?_
                rw [ewn.out, ← parF_set k R f hlt]
                exact Hfb.out.put rfl k (by rw [Hpl.out]; exact hlt) f
              have CN : Hid (Chg [gb] W4 wn) := by
                refine Lib.hid ?_
                rw [ewn.out]
                exact Hch.out.same (Lay.setW_chg gb _ _ (k * 7))
              go_wp2
              go_roundw
              case rel => exact ⟨k + 1, hlt, by go_num, BN.out, CN.out⟩
              case measure => simp [intOf]; omega
            · obtain rfl : R = k := by omega
              rw [parF_all] at hfb
              have Hfb := Lib.hid hfb
              have Hch := Lib.hid hch
              clear hfb hch
              obtain ⟨W5, rfl⟩ : ∃ x, x = wr := ⟨_, rfl⟩
              have FA5 := Lib.hid (FA4.out.frame Hch.out (fun b hb hm => by cases hb; simp at hm; omega))
              have FB5 := Lib.hid (Hfb.out)
              have C5 : Hid (Chg [] w W5) := Lib.hid (C4.out.trans Hch.out (fun i hi hw => by simp at hi; omega))
              clear FA4 FB4 X4 C4 Hfb Hch
              by_cases big : 20000 < M + R
              · have d5 : decide ((20000 : Int) < (M : Int) + (R : Int)) = true := by simp; omega
                go_wp2_with fail
                refine (merge_rep_big ⟨some ⟨ga, 0, none⟩, M, M⟩ ⟨some ⟨gb, 0, none⟩, R, R⟩ M R f _ _ (Lay.Rd.of_heap (heap_alloc_eq _ _) rfl rfl (show 2 ≤ maxLen by decide)) (two_rd (v1 := ⟨some ⟨ga, 0, none⟩, M, M⟩) (v2 := ⟨some ⟨gb, 0, none⟩, R, R⟩) FA5.out.rd FB5.out.rd ((Chg.refl _ _).alloc _)) (by omega) big).mono ?_
                rintro e W6 ⟨rfl, hc⟩
                have C6 := Lib.hid ((C5.out.alloc _).then hc)
                clear hc
                go_wp2_with fail
                refine (HK.out _).mono ?_
                rintro e W7 ⟨rfl, hc⟩
                have Hc := Lib.hid hc
                clear hc
                go_wp2
                go_ret
                exact ⟨rfl, C6.out.then Hc.out⟩
              · have d5 : decide ((20000 : Int) < (M : Int) + (R : Int)) = false := by simp; omega
                go_wp2_with fail
                refine (merge_rep ⟨some ⟨ga, 0, none⟩, M, M⟩ ⟨some ⟨gb, 0, none⟩, R, R⟩ M R f hat _ _ (Lay.Rd.of_heap (heap_alloc_eq _ _) rfl rfl (show 2 ≤ maxLen by decide)) (two_rd (v1 := ⟨some ⟨ga, 0, none⟩, M, M⟩) (v2 := ⟨some ⟨gb, 0, none⟩, R, R⟩) FA5.out.rd FB5.out.rd ((Chg.refl _ _).alloc _)) (by omega)).mono ?_
                rintro e W6 ⟨⟨a6, c6, rfl⟩, hc⟩
                have C6 := Lib.hid ((C5.out.alloc _).then hc)
                clear hc
                have d6 : ((min (M + R) 1 : Nat) : Int) = min ((M : Int) + (R : Int)) 1 := by omega
                go_wp2_with fail
                refine (HK.out _).mono ?_
                rintro e W7 ⟨rfl, hc⟩
                have Hc := Lib.hid hc
                clear hc
                go_wp2
                go_ret
                exact ⟨rfl, C6.out.then Hc.out⟩
    · go_simp
      rw [RR.out]
      simp only [Result.andThen_ok]
      rw [Oper.upon_value]
      refine hK.out _ _ (hHeld.alloc _) (fun hHeld2 => ?_)
      clear hK hHeld K
      have hHeld := hHeld2
      clear hHeld2
      try (unfold Act.put; simp only [List.setIfInBounds_toArray, List.set_cons_zero, List.set_cons_succ])
      refine wpAnyH_ready (rs := [1]) (by kernel_rfl) (by simp) ?_
      refine AllReadyH.cons rfl (fun K hK => ?_) AllReadyH.nil
      go_simp
      rw [RM.out]
      simp only [Result.andThen_ok]
      rw [Oper.upon_value]
      refine hK.out _ _ (hHeld.alloc _) (fun hHeld2 => ?_)
      clear hK hHeld K
      have hHeld := hHeld2
      clear hHeld2
      try (unfold Act.put; simp only [List.setIfInBounds_toArray, List.set_cons_zero, List.set_cons_succ])
      refine take_read (i := 4) (v := ?_) (by simp only [List.getElem?_toArray, List.getElem?_cons_succ, List.getElem?_cons_zero]; rfl) (by kernel_rfl) (by kernel_rfl) (by kernel_rfl) (fun _ _ _ h => h) hHeld ?_ ?_
      rotate_left
      · intro w hSw
        go_simp
        try with_reducible rfl
      try simp only [Act.put, List.setIfInBounds_toArray, List.set_cons_zero, List.set_cons_succ]
      refine take_read (i := 5) (v := ?_) (by simp only [List.getElem?_toArray, List.getElem?_cons_succ, List.getElem?_cons_zero]; rfl) (by kernel_rfl) (by kernel_rfl) (by kernel_rfl) (fun _ _ _ h => h) hHeld ?_ ?_
      rotate_left
      · intro w hSw
        go_simp
        try with_reducible rfl
      try simp only [Act.put, List.setIfInBounds_toArray, List.set_cons_zero, List.set_cons_succ]
      refine wpAnyH_done (by kernel_rfl) ?_ _
      refine NoPanic.normal ?_
      obtain ⟨ga, ega⟩ : ∃ x, x = W2.heap.size + 1 := ⟨_, rfl⟩
      obtain ⟨gb, egb⟩ : ∃ x, x = W2.heap.size := ⟨_, rfl⟩
      generalize (W2.alloc oR).drew.heap.size = gz; rw [← ega, ← egb]
      refine with_any (Q := Exit.then _ _ _ _) (fun W => FB W W2.heap.size (.slice (some ⟨ga, 0, none⟩) M M) (parF 0 M f) ∧ FB W W2.heap.size (.slice (some ⟨gb, 0, none⟩) R R) (parF 0 R f) ∧ Chg [] W2 W) ⟨?_, ?_, hHeld⟩ (fun W3 hW => ?_)
      · rw [parF_none, ega]
        exact fb2 (HmM.out (W2.alloc oR).drew).2
      · rw [parF_none, egb]
        exact (HmR.out W2).2.pure (((Chg.refl _ _).drew).alloc _)
      obtain ⟨fa, fb, hc3⟩ := hW
      have hga : W2.heap.size ≤ ga := by omega
      have hgb : W2.heap.size ≤ gb := by omega
      have hne : ga ≠ gb := by omega
      have hbx : bx < W2.heap.size := X2.out.lt
      have hw2 : w.heap.size ≤ W2.heap.size := C2.out.size
      clear ega egb hHeld
      have FA := Lib.hid (fa)
      have FBB := Lib.hid (fb)
      have C3 := Lib.hid (C2.out.then hc3)
      have X3 := Lib.hid (X2.out.frame hc3)
      clear fa fb hc3 C2 X2
      go_wp2_with fail
      go_loopw [9] (fun s9 wr => ∃ k : Nat, k ≤ M ∧ s9 = .int .i64 (k : Int) ∧ FB wr W2.heap.size (.slice (some ⟨ga, 0, none⟩) M M) (parF k M f) ∧ Chg [ga] W3 wr) (fun s9 _ => M - (intOf s9).toNat)
      case atStart => exact ⟨0, Nat.zero_le _, rfl, FA.out, Chg.refl _ _⟩
      case round =>
        obtain ⟨k, hk, rfl, hfb, hch⟩ := hrel
        by_cases hlt : k < M
        · have hpl := parF_len k M f hk
          have hI : fxl.In wr ga (k * 7) ((parF k M f).getD k .zero) := by
            obtain ⟨b, off, he, _, hcell⟩ := hfb.rd.at (by omega)
            cases he
            have := hcell k (by omega)
            rwa [Nat.zero_add] at this
          have hf : ∀ j, wr.frozen? ⟨ga, j, none⟩ = false := by
            obtain ⟨g', c', he, _, _, _, _, _, hfz, _⟩ := hfb.at (by omega)
            injection he with he1 _ _
            cases he1
            exact hfz
          have hx : fxl.In wr bx 0 f := (X3.out.frameS hch (by simp; omega)).in
          have Hfb := Lib.hid hfb
          have Hch := Lib.hid hch
          have HI := Lib.hid hI
          have Hf := Lib.hid hf
          have Hx := Lib.hid hx
          have Hpl := Lib.hid hpl
          clear hfb hch hI hf hx hpl
          go_wp2_with ((with_reducible refine Lay.ldL Try.tFx f (Hx.out) ?_ ?_); exact rfl; refine Hid.out ?_)
          refine Lib.hid ?_
          go_wp2_with ((with_reducible refine stIn Try.tFx f (HI.out) Hf.out ?_ ?_ ?_); exact rfl; exact rfl; intro wn ewn; replace ewn := Lib.hid ewn; refine Hid.out ?_)
          refine Lib.hid ?_
          have BN : Hid (FB wn W2.heap.size (.slice (some ⟨ga, 0, none⟩) M M) (parF (k + 1) M f)) := by
            refine Lib.hid ?_
            rw [ewn.out, ← parF_set k M f hlt]
            exact Hfb.out.put rfl k (by rw [Hpl.out]; exact hlt) f
          have CN : Hid (Chg [ga] W3 wn) := by
            refine Lib.hid ?_
            rw [ewn.out]
            exact Hch.out.same (Lay.setW_chg ga _ _ (k * 7))
          go_wp2
          go_roundw
          case rel => exact ⟨k + 1, hlt, by go_num, BN.out, CN.out⟩
          case measure => simp [intOf]; omega
        · obtain rfl : M = k := by omega
          rw [parF_all] at hfb
          have Hfb := Lib.hid hfb
          have Hch := Lib.hid hch
          clear hfb hch
          obtain ⟨W4, rfl⟩ : ∃ x, x = wr := ⟨_, rfl⟩
          have FA4 := Lib.hid (Hfb.out)
          have FB4 := Lib.hid (FBB.out.frame Hch.out (fun b hb hm => by cases hb; simp at hm; omega))
          have X4 := Lib.hid (X3.out.frameS Hch.out (by simp; omega))
          have C4 : Hid (Chg [] w W4) := Lib.hid (C3.out.trans Hch.out (fun i hi hw => by simp at hi; omega))
          clear FA FBB X3 C3 Hfb Hch
          go_wp2_with fail
          go_loopw [10] (fun s9 wr => ∃ k : Nat, k ≤ R ∧ s9 = .int .i64 (k : Int) ∧ FB wr W2.heap.size (.slice (some ⟨gb, 0, none⟩) R R) (parF k R f) ∧ Chg [gb] W4 wr) (fun s9 _ => R - (intOf s9).toNat)
          case atStart => exact ⟨0, Nat.zero_le _, rfl, FB4.out, Chg.refl _ _⟩
          case round =>
            obtain ⟨k, hk, rfl, hfb, hch⟩ := hrel
            by_cases hlt : k < R
            · have hpl := parF_len k R f hk
              have hI : fxl.In wr gb (k * 7) ((parF k R f).getD k .zero) := by
                obtain ⟨b, off, he, _, hcell⟩ := hfb.rd.at (by omega)
                cases he
                have := hcell k (by omega)
                rwa [Nat.zero_add] at this
              have hf : ∀ j, wr.frozen? ⟨gb, j, none⟩ = false := by
                obtain ⟨g', c', he, _, _, _, _, _, hfz, _⟩ := hfb.at (by omega)
                injection he with he1 _ _
                cases he1
                exact hfz
              have hx : fxl.In wr bx 0 f := (X4.out.frameS hch (by simp; omega)).in
              have Hfb := Lib.hid hfb
              have Hch := Lib.hid hch
              have HI := Lib.hid hI
              have Hf := Lib.hid hf
              have Hx := Lib.hid hx
              have Hpl := Lib.hid hpl
              clear hfb hch hI hf hx hpl
              go_wp2_with ((with_reducible refine Lay.ldL Try.tFx f (Hx.out) ?_ ?_); exact rfl; refine Hid.out ?_)
              refine Lib.hid ?_
              go_wp2_with ((with_reducible refine stIn Try.tFx f (HI.out) Hf.out ?_ ?_ ?_); exact rfl; exact rfl; intro wn ewn; replace ewn := Lib.hid ewn; refine Hid.out ?_)
              refine Lib.hid ?_
              have BN : Hid (FB wn W2.heap.size (.slice (some ⟨gb, 0, none⟩) R R) (parF (k + 1) R f)) := by
                refine Lib.hid ?_
                rw [ewn.out, ← parF_set k R f hlt]
                exact Hfb.out.put rfl k (by rw [Hpl.out]; exact hlt) f
              have CN : Hid (Chg [gb] W4 wn) := by
                refine Lib.hid ?_
                rw [ewn.out]
                exact Hch.out.same (Lay.setW_chg gb _ _ (k * 7))
              go_wp2
              go_roundw
              case rel => exact ⟨k + 1, hlt, by go_num, BN.out, CN.out⟩
              case measure => simp [intOf]; omega
            · obtain rfl : R = k := by omega
              rw [parF_all] at hfb
              have Hfb := Lib.hid hfb
              have Hch := Lib.hid hch
              clear hfb hch
              obtain ⟨W5, rfl⟩ : ∃ x, x = wr := ⟨_, rfl⟩
              have FA5 := Lib.hid (FA4.out.frame Hch.out (fun b hb hm => by cases hb; simp at hm; omega))
              have FB5 := Lib.hid (Hfb.out)
              have C5 : Hid (Chg [] w W5) := Lib.hid (C4.out.trans Hch.out (fun i hi hw => by simp at hi; omega))
              clear FA4 FB4 X4 C4 Hfb Hch
              by_cases big : 20000 < M + R
              · have d5 : decide ((20000 : Int) < (M : Int) + (R : Int)) = true := by simp; omega
                go_wp2_with fail
                refine (merge_rep_big ⟨some ⟨ga, 0, none⟩, M, M⟩ ⟨some ⟨gb, 0, none⟩, R, R⟩ M R f _ _ (Lay.Rd.of_heap (heap_alloc_eq _ _) rfl rfl (show 2 ≤ maxLen by decide)) (two_rd (v1 := ⟨some ⟨ga, 0, none⟩, M, M⟩) (v2 := ⟨some ⟨gb, 0, none⟩, R, R⟩) FA5.out.rd FB5.out.rd ((Chg.refl _ _).alloc _)) (by omega) big).mono ?_
                rintro e W6 ⟨rfl, hc⟩
                have C6 := Lib.hid ((C5.out.alloc _).then hc)
                clear hc
                go_wp2_with fail
                refine (HK.out _).mono ?_
                rintro e W7 ⟨rfl, hc⟩
                have Hc := Lib.hid hc
                clear hc
                go_wp2
                go_ret
                exact ⟨rfl, C6.out.then Hc.out⟩
              · have d5 : decide ((20000 : Int) < (M : Int) + (R : Int)) = false := by simp; omega
                go_wp2_with fail
                refine (merge_rep ⟨some ⟨ga, 0, none⟩, M, M⟩ ⟨some ⟨gb, 0, none⟩, R, R⟩ M R f hat _ _ (Lay.Rd.of_heap (heap_alloc_eq _ _) rfl rfl (show 2 ≤ maxLen by decide)) (two_rd (v1 := ⟨some ⟨ga, 0, none⟩, M, M⟩) (v2 := ⟨some ⟨gb, 0, none⟩, R, R⟩) FA5.out.rd FB5.out.rd ((Chg.refl _ _).alloc _)) (by omega)).mono ?_
                rintro e W6 ⟨⟨a6, c6, rfl⟩, hc⟩
                have C6 := Lib.hid ((C5.out.alloc _).then hc)
                clear hc
                have d6 : ((min (M + R) 1 : Nat) : Int) = min ((M : Int) + (R : Int)) 1 := by omega
                go_wp2_with fail
                refine (HK.out _).mono ?_
                rintro e W7 ⟨rfl, hc⟩
                have Hc := Lib.hid hc
                clear hc
                go_wp2
                go_ret
                exact ⟨rfl, C6.out.then Hc.out⟩
end Go.Proofs.Ytgmlcmmphhmogaa
