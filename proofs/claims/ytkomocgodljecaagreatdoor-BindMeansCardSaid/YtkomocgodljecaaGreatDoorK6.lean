/- Lemmas, laid together: part 6 of 41. Conditions: none but each lemma's own. -/
import Derived.Test.YtkomocgodljecaaGreatDoorK5
/- parts$7, fixup.Order, clevisref12.Less: walked. -/
namespace Go.Proofs.YtkomocgodljecaaGreatDoor
open Go.RowKit
set_option maxRecDepth 100000

set_option maxHeartbeats 2000000 in
theorem part_7 (a b : Fx) (w : World) : Calls Tryz.prog 90 #[a.v, b.v] w fun e w' => e = .returned (.int .i64 (cmpI (wt a.weak) (wt b.weak))) ∧ Gr w w' := by
  have HWA : Hid (∀ w : World, Calls Tryz.prog 91 #[.agg #[.int .u64 a.at_, .int .i64 a.kind, .int .u64 a.tgt, .int .i64 a.ord, .string a.sym, .int .i64 a.add, .bool a.weak]] w fun e w' => e = .returned (.int .i64 (wt a.weak)) ∧ Gr w w') := Lib.hid (weight_any a)
  have HWB : Hid (∀ w : World, Calls Tryz.prog 91 #[.agg #[.int .u64 b.at_, .int .i64 b.kind, .int .u64 b.tgt, .int .i64 b.ord, .string b.sym, .int .i64 b.add, .bool b.weak]] w fun e w' => e = .returned (.int .i64 (wt b.weak)) ∧ Gr w w') := Lib.hid (weight_any b)
  have HCM := Lib.hid (fun w => cmp_i (wt a.weak) (wt b.weak) w)
  generalize wt a.weak = A at *
  generalize wt b.weak = B at *
  unfold Fx.v
  go_enter Tryz.func90, Tryz.ntmps90
  go_upto_region 1 with fail
  obtain ⟨ra, hra⟩ : ∃ x, x = w.heap.size := ⟨_, rfl⟩
  obtain ⟨rb, hrb⟩ : ∃ x, x = w.heap.size + 1 := ⟨_, rfl⟩
  rw [← hrb, ← hra]
  generalize hw1 : (w.alloc _).alloc _ = w1
  have HC1 : Hid (Gr w w1) := Lib.hid (by rw [← hw1]; exact ((Gr.refl _).alloc _).alloc _)
  have ha : w1.heap[ra]? = some (.cells #[.int .u64 a.at_, .int .i64 a.kind, .int .u64 a.tgt, .int .i64 a.ord, .string a.sym, .int .i64 a.add, .bool a.weak] 53 (0, 0)) := by
    rw [← hw1, hra]
    exact ((Chg.refl [] (w.alloc _)).alloc _).heap (heap_alloc_new w _) (by simp)
  have hb : w1.heap[rb]? = some (.cells #[.int .u64 b.at_, .int .i64 b.kind, .int .u64 b.tgt, .int .i64 b.ord, .string b.sym, .int .i64 b.add, .bool b.weak] 53 (0, 0)) := by
    rw [← hw1, hrb]
    have := heap_alloc_new (w.alloc (.cells #[.int .u64 a.at_, .int .i64 a.kind, .int .u64 a.tgt, .int .i64 a.ord, .string a.sym, .int .i64 a.add, .bool a.weak] 53)) (.cells #[.int .u64 b.at_, .int .i64 b.kind, .int .u64 b.tgt, .int .i64 b.ord, .string b.sym, .int .i64 b.add, .bool b.weak] 53)
    simpa using this
  clear hw1 hra hrb
  have x0 := cell_of_heap ha 0
  have x1 := cell_of_heap ha 1
  have x2 := cell_of_heap ha 2
  have x3 := cell_of_heap ha 3
  have x4 := cell_of_heap ha 4
  have x5 := cell_of_heap ha 5
  have x6 := cell_of_heap ha 6
  have y0 := cell_of_heap hb 0
  have y1 := cell_of_heap hb 1
  have y2 := cell_of_heap hb 2
  have y3 := cell_of_heap hb 3
  have y4 := cell_of_heap hb 4
  have y5 := cell_of_heap hb 5
  have y6 := cell_of_heap hb 6
  simp at x0 x1 x2 x3 x4 x5 x6 y0 y1 y2 y3 y4 y5 y6
  clear ha hb
  refine wp_region_noPanic ?_
  refine wp_region_held_drew (S := fun w' => Chg [] w1 w') (by kernel_rfl) ((Chg.refl _ _).drew) (fun hHeld => ?_)
  refine take_read (i := 0) (v := ?_) (by simp only [List.getElem?_toArray, List.getElem?_cons_zero]; rfl) (by kernel_rfl) (by kernel_rfl) (by kernel_rfl) (fun _ _ _ h => h) hHeld ?_ ?_
  rotate_left
  · intro w hSw
    have x0 := hSw.cell x0 (by simp); have x1 := hSw.cell x1 (by simp); have x2 := hSw.cell x2 (by simp); have x3 := hSw.cell x3 (by simp); have x4 := hSw.cell x4 (by simp); have x5 := hSw.cell x5 (by simp); have x6 := hSw.cell x6 (by simp)
    go_simp
    try with_reducible rfl
  try simp only [Act.put, List.setIfInBounds_toArray, List.set_cons_zero, List.set_cons_succ]
  refine take_read (i := 2) (v := ?_) (by simp only [List.getElem?_toArray, List.getElem?_cons_succ, List.getElem?_cons_zero]; rfl) (by kernel_rfl) (by kernel_rfl) (by kernel_rfl) (fun _ _ _ h => h) hHeld ?_ ?_
  rotate_left
  · intro w hSw
    have y0 := hSw.cell y0 (by simp); have y1 := hSw.cell y1 (by simp); have y2 := hSw.cell y2 (by simp); have y3 := hSw.cell y3 (by simp); have y4 := hSw.cell y4 (by simp); have y5 := hSw.cell y5 (by simp); have y6 := hSw.cell y6 (by simp)
    go_simp
    try with_reducible rfl
  try simp only [Act.put, List.setIfInBounds_toArray, List.set_cons_zero, List.set_cons_succ]
  refine wpAnyH_ready (rs := [1]) (by kernel_rfl) (by simp) ?_
  refine AllReadyH.cons rfl (fun K hK => ?_) AllReadyH.nil
  go_simp
  refine (HWA.out w1.drew).mono ?_
  rintro e w2 ⟨rfl, h2⟩
  have H2 := Lib.hid (h2)
  clear h2
  refine hK.out _ _ (show Chg [] w1 w2 from ((Chg.refl _ _).drew).then H2.out.chg) (fun hHeld2 => ?_)
  clear hK hHeld K
  have hHeld := hHeld2
  clear hHeld2
  try (unfold Act.put; simp only [List.setIfInBounds_toArray, List.set_cons_zero, List.set_cons_succ])
  refine wpAnyH_ready (rs := [3]) (by kernel_rfl) (by simp) ?_
  refine AllReadyH.cons rfl (fun K hK => ?_) AllReadyH.nil
  go_simp
  refine (HWB.out w2).mono ?_
  rintro e w3 ⟨rfl, h3⟩
  have H3 := Lib.hid (h3)
  clear h3
  refine hK.out _ _ (show Chg [] w1 w3 from (((Chg.refl _ _).drew).then H2.out.chg).then H3.out.chg) (fun hHeld2 => ?_)
  clear hK hHeld K
  have hHeld := hHeld2
  clear hHeld2
  try (unfold Act.put; simp only [List.setIfInBounds_toArray, List.set_cons_zero, List.set_cons_succ])
  refine wpAnyH_ready (rs := [4]) (by kernel_rfl) (by simp) ?_
  refine AllReadyH.cons rfl (fun K hK => ?_) AllReadyH.nil
  go_simp
  refine (HCM.out w3).mono ?_
  rintro e w4 ⟨rfl, rfl⟩
  refine hK.out _ _ (show Chg [] w1 w3 from (((Chg.refl _ _).drew).then H2.out.chg).then H3.out.chg) (fun hHeld2 => ?_)
  clear hK hHeld K
  have hHeld := hHeld2
  clear hHeld2
  try (unfold Act.put; simp only [List.setIfInBounds_toArray, List.set_cons_zero, List.set_cons_succ])
  refine take_read (i := 5) (v := ?_) (by simp only [List.getElem?_toArray, List.getElem?_cons_succ, List.getElem?_cons_zero]; rfl) (by kernel_rfl) (by kernel_rfl) (by kernel_rfl) (fun _ _ _ h => h) hHeld ?_ ?_
  rotate_left
  · intro w hSw
    go_simp
    try with_reducible rfl
  try simp only [Act.put, List.setIfInBounds_toArray, List.set_cons_zero, List.set_cons_succ]
  refine wpAnyH_done (by kernel_rfl) ?_ _
  refine NoPanic.normal ?_
  go_wp2
  go_ret
  exact ⟨rfl, HC1.out.trans (((Gr.refl _).drew.trans H2.out).trans H3.out)⟩
theorem parts_any (w : World) : Calls Tryz.prog 66 #[] w fun e w' => ∃ q, e = .returned (.slice (some ⟨q, 0, none⟩) 7 7) ∧ w'.heap[q]? = some (.cells #[.func (.func 79) #[] #[], .func (.func 81) #[] #[], .func (.func 83) #[] #[], .func (.func 84) #[] #[], .func (.func 86) #[] #[], .func (.func 88) #[] #[], .func (.func 90) #[] #[]] 83 (0, 0)) ∧ Gr w w' := by
  go_enter Tryz.func66, Tryz.ntmps66
  go_wp2
  go_ret
  exact ⟨_, rfl, heap_alloc_eq _ _, (Gr.refl _).alloc _⟩

set_option maxHeartbeats 4000000 in
theorem Order_g (a b : Fx) (w : World) : Calls Tryz.prog 36 #[a.v, b.v] w fun e w' => e = .returned (.int .i64 (ordF a b)) ∧ Gr w w' := by
  have P1 : Hid (∀ w : World, Calls Tryz.prog 79 #[.agg #[.int .u64 a.at_, .int .i64 a.kind, .int .u64 a.tgt, .int .i64 a.ord, .string a.sym, .int .i64 a.add, .bool a.weak], .agg #[.int .u64 b.at_, .int .i64 b.kind, .int .u64 b.tgt, .int .i64 b.ord, .string b.sym, .int .i64 b.add, .bool b.weak]] w fun e w' => e = .returned (.int .i64 (cmpI a.at_ b.at_)) ∧ Gr w w') := Lib.hid (part_1 a b)
  have P2 : Hid (∀ w : World, Calls Tryz.prog 81 #[.agg #[.int .u64 a.at_, .int .i64 a.kind, .int .u64 a.tgt, .int .i64 a.ord, .string a.sym, .int .i64 a.add, .bool a.weak], .agg #[.int .u64 b.at_, .int .i64 b.kind, .int .u64 b.tgt, .int .i64 b.ord, .string b.sym, .int .i64 b.add, .bool b.weak]] w fun e w' => e = .returned (.int .i64 (cmpI a.kind b.kind)) ∧ Gr w w') := Lib.hid (part_2 a b)
  have P3 : Hid (∀ w : World, Calls Tryz.prog 83 #[.agg #[.int .u64 a.at_, .int .i64 a.kind, .int .u64 a.tgt, .int .i64 a.ord, .string a.sym, .int .i64 a.add, .bool a.weak], .agg #[.int .u64 b.at_, .int .i64 b.kind, .int .u64 b.tgt, .int .i64 b.ord, .string b.sym, .int .i64 b.add, .bool b.weak]] w fun e w' => e = .returned (.int .i64 (cmpI a.tgt b.tgt)) ∧ Gr w w') := Lib.hid (part_3 a b)
  have P4 : Hid (∀ w : World, Calls Tryz.prog 84 #[.agg #[.int .u64 a.at_, .int .i64 a.kind, .int .u64 a.tgt, .int .i64 a.ord, .string a.sym, .int .i64 a.add, .bool a.weak], .agg #[.int .u64 b.at_, .int .i64 b.kind, .int .u64 b.tgt, .int .i64 b.ord, .string b.sym, .int .i64 b.add, .bool b.weak]] w fun e w' => e = .returned (.int .i64 (cmpI a.ord b.ord)) ∧ Gr w w') := Lib.hid (part_4 a b)
  have P5 : Hid (∀ w : World, Calls Tryz.prog 86 #[.agg #[.int .u64 a.at_, .int .i64 a.kind, .int .u64 a.tgt, .int .i64 a.ord, .string a.sym, .int .i64 a.add, .bool a.weak], .agg #[.int .u64 b.at_, .int .i64 b.kind, .int .u64 b.tgt, .int .i64 b.ord, .string b.sym, .int .i64 b.add, .bool b.weak]] w fun e w' => e = .returned (.int .i64 (cmpS a.sym b.sym)) ∧ Gr w w') := Lib.hid (part_5 a b)
  have P6 : Hid (∀ w : World, Calls Tryz.prog 88 #[.agg #[.int .u64 a.at_, .int .i64 a.kind, .int .u64 a.tgt, .int .i64 a.ord, .string a.sym, .int .i64 a.add, .bool a.weak], .agg #[.int .u64 b.at_, .int .i64 b.kind, .int .u64 b.tgt, .int .i64 b.ord, .string b.sym, .int .i64 b.add, .bool b.weak]] w fun e w' => e = .returned (.int .i64 (cmpI a.add b.add)) ∧ Gr w w') := Lib.hid (part_6 a b)
  have P7 : Hid (∀ w : World, Calls Tryz.prog 90 #[.agg #[.int .u64 a.at_, .int .i64 a.kind, .int .u64 a.tgt, .int .i64 a.ord, .string a.sym, .int .i64 a.add, .bool a.weak], .agg #[.int .u64 b.at_, .int .i64 b.kind, .int .u64 b.tgt, .int .i64 b.ord, .string b.sym, .int .i64 b.add, .bool b.weak]] w fun e w' => e = .returned (.int .i64 (cmpI (wt a.weak) (wt b.weak))) ∧ Gr w w') := Lib.hid (part_7 a b)
  unfold ordF
  generalize cmpI a.at_ b.at_ = c1 at *
  generalize cmpI a.kind b.kind = c2 at *
  generalize cmpI a.tgt b.tgt = c3 at *
  generalize cmpI a.ord b.ord = c4 at *
  generalize cmpS a.sym b.sym = c5 at *
  generalize cmpI a.add b.add = c6 at *
  generalize cmpI (wt a.weak) (wt b.weak) = c7 at *
  unfold Fx.v
  go_enter Tryz.func36, Tryz.ntmps36
  go_upto_region 1 with fail
  obtain ⟨ra, hra⟩ : ∃ x, x = w.heap.size := ⟨_, rfl⟩
  obtain ⟨rb, hrb⟩ : ∃ x, x = w.heap.size + 1 := ⟨_, rfl⟩
  rw [← hrb, ← hra]
  generalize hw1 : (w.alloc _).alloc _ = w1
  have HC1 : Hid (Chg [] w w1) := Lib.hid (by rw [← hw1]; exact ((Chg.refl _ _).alloc _).alloc _)
  have HA : Hid (w1.heap[ra]? = some (.cells #[.int .u64 a.at_, .int .i64 a.kind, .int .u64 a.tgt, .int .i64 a.ord, .string a.sym, .int .i64 a.add, .bool a.weak] 53 (0, 0))) := by
    refine Lib.hid ?_
    rw [← hw1, hra]
    exact ((Chg.refl [] (w.alloc _)).alloc _).heap (heap_alloc_new w _) (by simp)
  have HB : Hid (w1.heap[rb]? = some (.cells #[.int .u64 b.at_, .int .i64 b.kind, .int .u64 b.tgt, .int .i64 b.ord, .string b.sym, .int .i64 b.add, .bool b.weak] 53 (0, 0))) := by
    refine Lib.hid ?_
    rw [← hw1, hrb]
    have := heap_alloc_new (w.alloc (.cells #[.int .u64 a.at_, .int .i64 a.kind, .int .u64 a.tgt, .int .i64 a.ord, .string a.sym, .int .i64 a.add, .bool a.weak] 53)) (.cells #[.int .u64 b.at_, .int .i64 b.kind, .int .u64 b.tgt, .int .i64 b.ord, .string b.sym, .int .i64 b.add, .bool b.weak] 53)
    simpa using this
  have HG1 : Hid (Gr w w1) := Lib.hid (by rw [← hw1]; exact ((Gr.refl _).alloc _).alloc _)
  clear hw1 hra hrb
  go_wp2_with fail
  refine (parts_any w1).mono ?_
  rintro e w2 ⟨q, rfl, hq, hch⟩
  have HC2 : Hid (Gr w w2) := Lib.hid (HG1.out.trans hch)
  have q0 := cell_of_heap hq 0
  have q1 := cell_of_heap hq 1
  have q2 := cell_of_heap hq 2
  have q3 := cell_of_heap hq 3
  have q4 := cell_of_heap hq 4
  have q5 := cell_of_heap hq 5
  have q6 := cell_of_heap hq 6
  simp at q0 q1 q2 q3 q4 q5 q6
  have ha := (hch.chg).heap HA.out (by simp)
  have hb := (hch.chg).heap HB.out (by simp)
  have x0 := cell_of_heap ha 0
  have x1 := cell_of_heap ha 1
  have x2 := cell_of_heap ha 2
  have x3 := cell_of_heap ha 3
  have x4 := cell_of_heap ha 4
  have x5 := cell_of_heap ha 5
  have x6 := cell_of_heap ha 6
  have y0 := cell_of_heap hb 0
  have y1 := cell_of_heap hb 1
  have y2 := cell_of_heap hb 2
  have y3 := cell_of_heap hb 3
  have y4 := cell_of_heap hb 4
  have y5 := cell_of_heap hb 5
  have y6 := cell_of_heap hb 6
  simp at x0 x1 x2 x3 x4 x5 x6 y0 y1 y2 y3 y4 y5 y6
  clear ha hb
  clear hch
  go_wp2_with fail
  refine wp_loop_rounds 8 ?_
  rw [rounds_succ]
  go_wp2_with fail
  refine ((P1).out w2).mono ?_
  rintro e w3 ⟨rfl, hch⟩
  have HC3 : Hid (Gr w w3) := Lib.hid ((HC2).out.trans hch)
  replace q0 := hch.chg.cell q0 (by simp)
  replace q1 := hch.chg.cell q1 (by simp)
  replace q2 := hch.chg.cell q2 (by simp)
  replace q3 := hch.chg.cell q3 (by simp)
  replace q4 := hch.chg.cell q4 (by simp)
  replace q5 := hch.chg.cell q5 (by simp)
  replace q6 := hch.chg.cell q6 (by simp)
  replace x0 := hch.chg.cell x0 (by simp)
  replace x1 := hch.chg.cell x1 (by simp)
  replace x2 := hch.chg.cell x2 (by simp)
  replace x3 := hch.chg.cell x3 (by simp)
  replace x4 := hch.chg.cell x4 (by simp)
  replace x5 := hch.chg.cell x5 (by simp)
  replace x6 := hch.chg.cell x6 (by simp)
  replace y0 := hch.chg.cell y0 (by simp)
  replace y1 := hch.chg.cell y1 (by simp)
  replace y2 := hch.chg.cell y2 (by simp)
  replace y3 := hch.chg.cell y3 (by simp)
  replace y4 := hch.chg.cell y4 (by simp)
  replace y5 := hch.chg.cell y5 (by simp)
  replace y6 := hch.chg.cell y6 (by simp)
  clear hch
  by_cases h0 : c1 = 0
  case neg =>
    have ht : (c1 != 0) = true := by rw [bne_iff_ne]; exact h0
    have HZ := Lib.hid h0
    clear h0
    go_wp2
    go_ret
    exact ⟨by simp [th, HZ.out], (HC3).out⟩
  subst h0
  go_wp2_with fail
  rw [rounds_succ]
  go_wp2_with fail
  refine ((P2).out w3).mono ?_
  rintro e w4 ⟨rfl, hch⟩
  have HC4 : Hid (Gr w w4) := Lib.hid ((HC3).out.trans hch)
  replace q0 := hch.chg.cell q0 (by simp)
  replace q1 := hch.chg.cell q1 (by simp)
  replace q2 := hch.chg.cell q2 (by simp)
  replace q3 := hch.chg.cell q3 (by simp)
  replace q4 := hch.chg.cell q4 (by simp)
  replace q5 := hch.chg.cell q5 (by simp)
  replace q6 := hch.chg.cell q6 (by simp)
  replace x0 := hch.chg.cell x0 (by simp)
  replace x1 := hch.chg.cell x1 (by simp)
  replace x2 := hch.chg.cell x2 (by simp)
  replace x3 := hch.chg.cell x3 (by simp)
  replace x4 := hch.chg.cell x4 (by simp)
  replace x5 := hch.chg.cell x5 (by simp)
  replace x6 := hch.chg.cell x6 (by simp)
  replace y0 := hch.chg.cell y0 (by simp)
  replace y1 := hch.chg.cell y1 (by simp)
  replace y2 := hch.chg.cell y2 (by simp)
  replace y3 := hch.chg.cell y3 (by simp)
  replace y4 := hch.chg.cell y4 (by simp)
  replace y5 := hch.chg.cell y5 (by simp)
  replace y6 := hch.chg.cell y6 (by simp)
  clear hch
  by_cases h0 : c2 = 0
  case neg =>
    have ht : (c2 != 0) = true := by rw [bne_iff_ne]; exact h0
    have HZ := Lib.hid h0
    clear h0
    go_wp2
    go_ret
    exact ⟨by simp [th, HZ.out], (HC4).out⟩
  subst h0
  go_wp2_with fail
  rw [rounds_succ]
  go_wp2_with fail
  refine ((P3).out w4).mono ?_
  rintro e w5 ⟨rfl, hch⟩
  have HC5 : Hid (Gr w w5) := Lib.hid ((HC4).out.trans hch)
  replace q0 := hch.chg.cell q0 (by simp)
  replace q1 := hch.chg.cell q1 (by simp)
  replace q2 := hch.chg.cell q2 (by simp)
  replace q3 := hch.chg.cell q3 (by simp)
  replace q4 := hch.chg.cell q4 (by simp)
  replace q5 := hch.chg.cell q5 (by simp)
  replace q6 := hch.chg.cell q6 (by simp)
  replace x0 := hch.chg.cell x0 (by simp)
  replace x1 := hch.chg.cell x1 (by simp)
  replace x2 := hch.chg.cell x2 (by simp)
  replace x3 := hch.chg.cell x3 (by simp)
  replace x4 := hch.chg.cell x4 (by simp)
  replace x5 := hch.chg.cell x5 (by simp)
  replace x6 := hch.chg.cell x6 (by simp)
  replace y0 := hch.chg.cell y0 (by simp)
  replace y1 := hch.chg.cell y1 (by simp)
  replace y2 := hch.chg.cell y2 (by simp)
  replace y3 := hch.chg.cell y3 (by simp)
  replace y4 := hch.chg.cell y4 (by simp)
  replace y5 := hch.chg.cell y5 (by simp)
  replace y6 := hch.chg.cell y6 (by simp)
  clear hch
  by_cases h0 : c3 = 0
  case neg =>
    have ht : (c3 != 0) = true := by rw [bne_iff_ne]; exact h0
    have HZ := Lib.hid h0
    clear h0
    go_wp2
    go_ret
    exact ⟨by simp [th, HZ.out], (HC5).out⟩
  subst h0
  go_wp2_with fail
  rw [rounds_succ]
  go_wp2_with fail
  refine ((P4).out w5).mono ?_
  rintro e w6 ⟨rfl, hch⟩
  have HC6 : Hid (Gr w w6) := Lib.hid ((HC5).out.trans hch)
  replace q0 := hch.chg.cell q0 (by simp)
  replace q1 := hch.chg.cell q1 (by simp)
  replace q2 := hch.chg.cell q2 (by simp)
  replace q3 := hch.chg.cell q3 (by simp)
  replace q4 := hch.chg.cell q4 (by simp)
  replace q5 := hch.chg.cell q5 (by simp)
  replace q6 := hch.chg.cell q6 (by simp)
  replace x0 := hch.chg.cell x0 (by simp)
  replace x1 := hch.chg.cell x1 (by simp)
  replace x2 := hch.chg.cell x2 (by simp)
  replace x3 := hch.chg.cell x3 (by simp)
  replace x4 := hch.chg.cell x4 (by simp)
  replace x5 := hch.chg.cell x5 (by simp)
  replace x6 := hch.chg.cell x6 (by simp)
  replace y0 := hch.chg.cell y0 (by simp)
  replace y1 := hch.chg.cell y1 (by simp)
  replace y2 := hch.chg.cell y2 (by simp)
  replace y3 := hch.chg.cell y3 (by simp)
  replace y4 := hch.chg.cell y4 (by simp)
  replace y5 := hch.chg.cell y5 (by simp)
  replace y6 := hch.chg.cell y6 (by simp)
  clear hch
  by_cases h0 : c4 = 0
  case neg =>
    have ht : (c4 != 0) = true := by rw [bne_iff_ne]; exact h0
    have HZ := Lib.hid h0
    clear h0
    go_wp2
    go_ret
    exact ⟨by simp [th, HZ.out], (HC6).out⟩
  subst h0
  go_wp2_with fail
  rw [rounds_succ]
  go_wp2_with fail
  refine ((P5).out w6).mono ?_
  rintro e w7 ⟨rfl, hch⟩
  have HC7 : Hid (Gr w w7) := Lib.hid ((HC6).out.trans hch)
  replace q0 := hch.chg.cell q0 (by simp)
  replace q1 := hch.chg.cell q1 (by simp)
  replace q2 := hch.chg.cell q2 (by simp)
  replace q3 := hch.chg.cell q3 (by simp)
  replace q4 := hch.chg.cell q4 (by simp)
  replace q5 := hch.chg.cell q5 (by simp)
  replace q6 := hch.chg.cell q6 (by simp)
  replace x0 := hch.chg.cell x0 (by simp)
  replace x1 := hch.chg.cell x1 (by simp)
  replace x2 := hch.chg.cell x2 (by simp)
  replace x3 := hch.chg.cell x3 (by simp)
  replace x4 := hch.chg.cell x4 (by simp)
  replace x5 := hch.chg.cell x5 (by simp)
  replace x6 := hch.chg.cell x6 (by simp)
  replace y0 := hch.chg.cell y0 (by simp)
  replace y1 := hch.chg.cell y1 (by simp)
  replace y2 := hch.chg.cell y2 (by simp)
  replace y3 := hch.chg.cell y3 (by simp)
  replace y4 := hch.chg.cell y4 (by simp)
  replace y5 := hch.chg.cell y5 (by simp)
  replace y6 := hch.chg.cell y6 (by simp)
  clear hch
  by_cases h0 : c5 = 0
  case neg =>
    have ht : (c5 != 0) = true := by rw [bne_iff_ne]; exact h0
    have HZ := Lib.hid h0
    clear h0
    go_wp2
    go_ret
    exact ⟨by simp [th, HZ.out], (HC7).out⟩
  subst h0
  go_wp2_with fail
  rw [rounds_succ]
  go_wp2_with fail
  refine ((P6).out w7).mono ?_
  rintro e w8 ⟨rfl, hch⟩
  have HC8 : Hid (Gr w w8) := Lib.hid ((HC7).out.trans hch)
  replace q0 := hch.chg.cell q0 (by simp)
  replace q1 := hch.chg.cell q1 (by simp)
  replace q2 := hch.chg.cell q2 (by simp)
  replace q3 := hch.chg.cell q3 (by simp)
  replace q4 := hch.chg.cell q4 (by simp)
  replace q5 := hch.chg.cell q5 (by simp)
  replace q6 := hch.chg.cell q6 (by simp)
  replace x0 := hch.chg.cell x0 (by simp)
  replace x1 := hch.chg.cell x1 (by simp)
  replace x2 := hch.chg.cell x2 (by simp)
  replace x3 := hch.chg.cell x3 (by simp)
  replace x4 := hch.chg.cell x4 (by simp)
  replace x5 := hch.chg.cell x5 (by simp)
  replace x6 := hch.chg.cell x6 (by simp)
  replace y0 := hch.chg.cell y0 (by simp)
  replace y1 := hch.chg.cell y1 (by simp)
  replace y2 := hch.chg.cell y2 (by simp)
  replace y3 := hch.chg.cell y3 (by simp)
  replace y4 := hch.chg.cell y4 (by simp)
  replace y5 := hch.chg.cell y5 (by simp)
  replace y6 := hch.chg.cell y6 (by simp)
  clear hch
  by_cases h0 : c6 = 0
  case neg =>
    have ht : (c6 != 0) = true := by rw [bne_iff_ne]; exact h0
    have HZ := Lib.hid h0
    clear h0
    go_wp2
    go_ret
    exact ⟨by simp [th, HZ.out], (HC8).out⟩
  subst h0
  go_wp2_with fail
  rw [rounds_succ]
  go_wp2_with fail
  refine ((P7).out w8).mono ?_
  rintro e w9 ⟨rfl, hch⟩
  have HC9 : Hid (Gr w w9) := Lib.hid ((HC8).out.trans hch)
  replace q0 := hch.chg.cell q0 (by simp)
  replace q1 := hch.chg.cell q1 (by simp)
  replace q2 := hch.chg.cell q2 (by simp)
  replace q3 := hch.chg.cell q3 (by simp)
  replace q4 := hch.chg.cell q4 (by simp)
  replace q5 := hch.chg.cell q5 (by simp)
  replace q6 := hch.chg.cell q6 (by simp)
  replace x0 := hch.chg.cell x0 (by simp)
  replace x1 := hch.chg.cell x1 (by simp)
  replace x2 := hch.chg.cell x2 (by simp)
  replace x3 := hch.chg.cell x3 (by simp)
  replace x4 := hch.chg.cell x4 (by simp)
  replace x5 := hch.chg.cell x5 (by simp)
  replace x6 := hch.chg.cell x6 (by simp)
  replace y0 := hch.chg.cell y0 (by simp)
  replace y1 := hch.chg.cell y1 (by simp)
  replace y2 := hch.chg.cell y2 (by simp)
  replace y3 := hch.chg.cell y3 (by simp)
  replace y4 := hch.chg.cell y4 (by simp)
  replace y5 := hch.chg.cell y5 (by simp)
  replace y6 := hch.chg.cell y6 (by simp)
  clear hch
  by_cases h0 : c7 = 0
  case neg =>
    have ht : (c7 != 0) = true := by rw [bne_iff_ne]; exact h0
    have HZ := Lib.hid h0
    clear h0
    go_wp2
    go_ret
    exact ⟨by simp [th], (HC9).out⟩
  subst h0
  go_wp2_with fail
  rw [rounds_succ]
  go_wp2_with fail
  go_ret
  exact ⟨by simp [th], HC9.out⟩
theorem th_lt {x y z : Int} (h : ¬ x = y) : decide (th (cmpI x y) z < 0) = decide (x < y) := by
  unfold th cmpI
  by_cases h1 : x < y
  · simp [h1]
  · have h2 : y < x := by omega
    simp [h1, h2]
theorem th_same {x y z : Int} (h : x = y) : th (cmpI x y) z = z := by
  unfold th
  rw [if_pos (cmpI_eq.2 h)]
theorem ths_lt {x y : ByteArray} {z : Int} (h : ¬ x = y) : decide (th (cmpS x y) z < 0) = Op.bytesLess x.toList y.toList := by
  have h0 : ¬ cmpS x y = 0 := fun e => h (cmpS_eq.1 e)
  unfold th
  rw [if_neg h0]
  unfold cmpS
  cases e1 : Op.bytesLess x.toList y.toList with
  | true => simp
  | false => cases e2 : Op.bytesLess y.toList x.toList <;> simp
theorem ths_same {x y : ByteArray} {z : Int} (h : x = y) : th (cmpS x y) z = z := by
  unfold th
  rw [if_pos (cmpS_eq.2 h)]
theorem wt_lt (x y : Bool) : decide (cmpI (wt x) (wt y) < 0) = (!x && y) := by cases x <;> cases y <;> decide
set_option maxHeartbeats 4000000 in
theorem RLess_any (a b : Fx) (w : World) : Calls Tryz.prog 34 #[a.v, b.v] w fun e w' => e = .returned (.bool (decide (ordF a b < 0))) ∧ Chg [] w w' := by
  obtain ⟨r, hr⟩ : ∃ r, r = decide (ordF a b < 0) := ⟨_, rfl⟩
  rw [← hr]
  unfold ordF at hr
  unfold Fx.v
  by_cases h0 : a.at_ = b.at_
  case neg =>
    have d0 : (a.at_ != b.at_) = true := by rw [bne_iff_ne]; exact h0
    rw [th_lt h0] at hr
    have HR2 := Lib.hid hr
    have H0 := Lib.hid h0
    clear hr h0
    go_enter Tryz.func34, Tryz.ntmps34
    go_upto_region 1 with fail
    obtain ⟨ra, hra⟩ : ∃ x, x = w.heap.size := ⟨_, rfl⟩
    obtain ⟨rb, hrb⟩ : ∃ x, x = w.heap.size + 1 := ⟨_, rfl⟩
    rw [← hrb, ← hra]
    generalize hw1 : (w.alloc _).alloc _ = w1
    have HC1 : Hid (Chg [] w w1) := Lib.hid (by rw [← hw1]; exact ((Chg.refl _ _).alloc _).alloc _)
    have HA : Hid (w1.heap[ra]? = some (.cells #[.int .u64 a.at_, .int .i64 a.kind, .int .u64 a.tgt, .int .i64 a.ord, .string a.sym, .int .i64 a.add, .bool a.weak] 53 (0, 0))) := by
      refine Lib.hid ?_
      rw [← hw1, hra]
      exact ((Chg.refl [] (w.alloc _)).alloc _).heap (heap_alloc_new w _) (by simp)
    have HB : Hid (w1.heap[rb]? = some (.cells #[.int .u64 b.at_, .int .i64 b.kind, .int .u64 b.tgt, .int .i64 b.ord, .string b.sym, .int .i64 b.add, .bool b.weak] 53 (0, 0))) := by
      refine Lib.hid ?_
      rw [← hw1, hrb]
      have := heap_alloc_new (w.alloc (.cells #[.int .u64 a.at_, .int .i64 a.kind, .int .u64 a.tgt, .int .i64 a.ord, .string a.sym, .int .i64 a.add, .bool a.weak] 53)) (.cells #[.int .u64 b.at_, .int .i64 b.kind, .int .u64 b.tgt, .int .i64 b.ord, .string b.sym, .int .i64 b.add, .bool b.weak] 53)
      simpa using this
    have HG1 : Hid (Gr w w1) := Lib.hid (by rw [← hw1]; exact ((Gr.refl _).alloc _).alloc _)
    clear hw1 hra hrb
    have ha := ((Chg.refl [] w1)).heap HA.out (by simp)
    have hb := ((Chg.refl [] w1)).heap HB.out (by simp)
    have x0 := cell_of_heap ha 0
    have x1 := cell_of_heap ha 1
    have x2 := cell_of_heap ha 2
    have x3 := cell_of_heap ha 3
    have x4 := cell_of_heap ha 4
    have x5 := cell_of_heap ha 5
    have x6 := cell_of_heap ha 6
    have y0 := cell_of_heap hb 0
    have y1 := cell_of_heap hb 1
    have y2 := cell_of_heap hb 2
    have y3 := cell_of_heap hb 3
    have y4 := cell_of_heap hb 4
    have y5 := cell_of_heap hb 5
    have y6 := cell_of_heap hb 6
    simp at x0 x1 x2 x3 x4 x5 x6 y0 y1 y2 y3 y4 y5 y6
    clear ha hb
    go_wp2
    go_ret
    exact ⟨by rw [HR2.out] <;> rfl, HC1.out⟩
  have d0 : (a.at_ != b.at_) = false := by rw [h0]; simp
  rw [th_same h0] at hr
  have H0 := Lib.hid h0
  clear h0
  by_cases h1 : a.kind = b.kind
  case neg =>
    have d1 : (a.kind != b.kind) = true := by rw [bne_iff_ne]; exact h1
    rw [th_lt h1] at hr
    have HR2 := Lib.hid hr
    have H1 := Lib.hid h1
    clear hr h1
    go_enter Tryz.func34, Tryz.ntmps34
    go_upto_region 1 with fail
    obtain ⟨ra, hra⟩ : ∃ x, x = w.heap.size := ⟨_, rfl⟩
    obtain ⟨rb, hrb⟩ : ∃ x, x = w.heap.size + 1 := ⟨_, rfl⟩
    rw [← hrb, ← hra]
    generalize hw1 : (w.alloc _).alloc _ = w1
    have HC1 : Hid (Chg [] w w1) := Lib.hid (by rw [← hw1]; exact ((Chg.refl _ _).alloc _).alloc _)
    have HA : Hid (w1.heap[ra]? = some (.cells #[.int .u64 a.at_, .int .i64 a.kind, .int .u64 a.tgt, .int .i64 a.ord, .string a.sym, .int .i64 a.add, .bool a.weak] 53 (0, 0))) := by
      refine Lib.hid ?_
      rw [← hw1, hra]
      exact ((Chg.refl [] (w.alloc _)).alloc _).heap (heap_alloc_new w _) (by simp)
    have HB : Hid (w1.heap[rb]? = some (.cells #[.int .u64 b.at_, .int .i64 b.kind, .int .u64 b.tgt, .int .i64 b.ord, .string b.sym, .int .i64 b.add, .bool b.weak] 53 (0, 0))) := by
      refine Lib.hid ?_
      rw [← hw1, hrb]
      have := heap_alloc_new (w.alloc (.cells #[.int .u64 a.at_, .int .i64 a.kind, .int .u64 a.tgt, .int .i64 a.ord, .string a.sym, .int .i64 a.add, .bool a.weak] 53)) (.cells #[.int .u64 b.at_, .int .i64 b.kind, .int .u64 b.tgt, .int .i64 b.ord, .string b.sym, .int .i64 b.add, .bool b.weak] 53)
      simpa using this
    have HG1 : Hid (Gr w w1) := Lib.hid (by rw [← hw1]; exact ((Gr.refl _).alloc _).alloc _)
    clear hw1 hra hrb
    have ha := ((Chg.refl [] w1)).heap HA.out (by simp)
    have hb := ((Chg.refl [] w1)).heap HB.out (by simp)
    have x0 := cell_of_heap ha 0
    have x1 := cell_of_heap ha 1
    have x2 := cell_of_heap ha 2
    have x3 := cell_of_heap ha 3
    have x4 := cell_of_heap ha 4
    have x5 := cell_of_heap ha 5
    have x6 := cell_of_heap ha 6
    have y0 := cell_of_heap hb 0
    have y1 := cell_of_heap hb 1
    have y2 := cell_of_heap hb 2
    have y3 := cell_of_heap hb 3
    have y4 := cell_of_heap hb 4
    have y5 := cell_of_heap hb 5
    have y6 := cell_of_heap hb 6
    simp at x0 x1 x2 x3 x4 x5 x6 y0 y1 y2 y3 y4 y5 y6
    clear ha hb
    go_wp2
    go_ret
    exact ⟨by rw [HR2.out] <;> rfl, HC1.out⟩
  have d1 : (a.kind != b.kind) = false := by rw [h1]; simp
  rw [th_same h1] at hr
  have H1 := Lib.hid h1
  clear h1
  by_cases h2 : a.tgt = b.tgt
  case neg =>
    have d2 : (a.tgt != b.tgt) = true := by rw [bne_iff_ne]; exact h2
    rw [th_lt h2] at hr
    have HR2 := Lib.hid hr
    have H2 := Lib.hid h2
    clear hr h2
    go_enter Tryz.func34, Tryz.ntmps34
    go_upto_region 1 with fail
    obtain ⟨ra, hra⟩ : ∃ x, x = w.heap.size := ⟨_, rfl⟩
    obtain ⟨rb, hrb⟩ : ∃ x, x = w.heap.size + 1 := ⟨_, rfl⟩
    rw [← hrb, ← hra]
    generalize hw1 : (w.alloc _).alloc _ = w1
    have HC1 : Hid (Chg [] w w1) := Lib.hid (by rw [← hw1]; exact ((Chg.refl _ _).alloc _).alloc _)
    have HA : Hid (w1.heap[ra]? = some (.cells #[.int .u64 a.at_, .int .i64 a.kind, .int .u64 a.tgt, .int .i64 a.ord, .string a.sym, .int .i64 a.add, .bool a.weak] 53 (0, 0))) := by
      refine Lib.hid ?_
      rw [← hw1, hra]
      exact ((Chg.refl [] (w.alloc _)).alloc _).heap (heap_alloc_new w _) (by simp)
    have HB : Hid (w1.heap[rb]? = some (.cells #[.int .u64 b.at_, .int .i64 b.kind, .int .u64 b.tgt, .int .i64 b.ord, .string b.sym, .int .i64 b.add, .bool b.weak] 53 (0, 0))) := by
      refine Lib.hid ?_
      rw [← hw1, hrb]
      have := heap_alloc_new (w.alloc (.cells #[.int .u64 a.at_, .int .i64 a.kind, .int .u64 a.tgt, .int .i64 a.ord, .string a.sym, .int .i64 a.add, .bool a.weak] 53)) (.cells #[.int .u64 b.at_, .int .i64 b.kind, .int .u64 b.tgt, .int .i64 b.ord, .string b.sym, .int .i64 b.add, .bool b.weak] 53)
      simpa using this
    have HG1 : Hid (Gr w w1) := Lib.hid (by rw [← hw1]; exact ((Gr.refl _).alloc _).alloc _)
    clear hw1 hra hrb
    have ha := ((Chg.refl [] w1)).heap HA.out (by simp)
    have hb := ((Chg.refl [] w1)).heap HB.out (by simp)
    have x0 := cell_of_heap ha 0
    have x1 := cell_of_heap ha 1
    have x2 := cell_of_heap ha 2
    have x3 := cell_of_heap ha 3
    have x4 := cell_of_heap ha 4
    have x5 := cell_of_heap ha 5
    have x6 := cell_of_heap ha 6
    have y0 := cell_of_heap hb 0
    have y1 := cell_of_heap hb 1
    have y2 := cell_of_heap hb 2
    have y3 := cell_of_heap hb 3
    have y4 := cell_of_heap hb 4
    have y5 := cell_of_heap hb 5
    have y6 := cell_of_heap hb 6
    simp at x0 x1 x2 x3 x4 x5 x6 y0 y1 y2 y3 y4 y5 y6
    clear ha hb
    go_wp2
    go_ret
    exact ⟨by rw [HR2.out] <;> rfl, HC1.out⟩
  have d2 : (a.tgt != b.tgt) = false := by rw [h2]; simp
  rw [th_same h2] at hr
  have H2 := Lib.hid h2
  clear h2
  by_cases h3 : a.ord = b.ord
  case neg =>
    have d3 : (a.ord != b.ord) = true := by rw [bne_iff_ne]; exact h3
    rw [th_lt h3] at hr
    have HR2 := Lib.hid hr
    have H3 := Lib.hid h3
    clear hr h3
    go_enter Tryz.func34, Tryz.ntmps34
    go_upto_region 1 with fail
    obtain ⟨ra, hra⟩ : ∃ x, x = w.heap.size := ⟨_, rfl⟩
    obtain ⟨rb, hrb⟩ : ∃ x, x = w.heap.size + 1 := ⟨_, rfl⟩
    rw [← hrb, ← hra]
    generalize hw1 : (w.alloc _).alloc _ = w1
    have HC1 : Hid (Chg [] w w1) := Lib.hid (by rw [← hw1]; exact ((Chg.refl _ _).alloc _).alloc _)
    have HA : Hid (w1.heap[ra]? = some (.cells #[.int .u64 a.at_, .int .i64 a.kind, .int .u64 a.tgt, .int .i64 a.ord, .string a.sym, .int .i64 a.add, .bool a.weak] 53 (0, 0))) := by
      refine Lib.hid ?_
      rw [← hw1, hra]
      exact ((Chg.refl [] (w.alloc _)).alloc _).heap (heap_alloc_new w _) (by simp)
    have HB : Hid (w1.heap[rb]? = some (.cells #[.int .u64 b.at_, .int .i64 b.kind, .int .u64 b.tgt, .int .i64 b.ord, .string b.sym, .int .i64 b.add, .bool b.weak] 53 (0, 0))) := by
      refine Lib.hid ?_
      rw [← hw1, hrb]
      have := heap_alloc_new (w.alloc (.cells #[.int .u64 a.at_, .int .i64 a.kind, .int .u64 a.tgt, .int .i64 a.ord, .string a.sym, .int .i64 a.add, .bool a.weak] 53)) (.cells #[.int .u64 b.at_, .int .i64 b.kind, .int .u64 b.tgt, .int .i64 b.ord, .string b.sym, .int .i64 b.add, .bool b.weak] 53)
      simpa using this
    have HG1 : Hid (Gr w w1) := Lib.hid (by rw [← hw1]; exact ((Gr.refl _).alloc _).alloc _)
    clear hw1 hra hrb
    have ha := ((Chg.refl [] w1)).heap HA.out (by simp)
    have hb := ((Chg.refl [] w1)).heap HB.out (by simp)
    have x0 := cell_of_heap ha 0
    have x1 := cell_of_heap ha 1
    have x2 := cell_of_heap ha 2
    have x3 := cell_of_heap ha 3
    have x4 := cell_of_heap ha 4
    have x5 := cell_of_heap ha 5
    have x6 := cell_of_heap ha 6
    have y0 := cell_of_heap hb 0
    have y1 := cell_of_heap hb 1
    have y2 := cell_of_heap hb 2
    have y3 := cell_of_heap hb 3
    have y4 := cell_of_heap hb 4
    have y5 := cell_of_heap hb 5
    have y6 := cell_of_heap hb 6
    simp at x0 x1 x2 x3 x4 x5 x6 y0 y1 y2 y3 y4 y5 y6
    clear ha hb
    go_wp2
    go_ret
    exact ⟨by rw [HR2.out] <;> rfl, HC1.out⟩
  have d3 : (a.ord != b.ord) = false := by rw [h3]; simp
  rw [th_same h3] at hr
  have H3 := Lib.hid h3
  clear h3
  by_cases h4 : a.sym = b.sym
  case neg =>
    have d4 : (a.sym.toList == b.sym.toList) = false := by
      refine beq_eq_false_iff_ne.2 (fun e => h4 ?_)
      rw [Lib.toList_data, Lib.toList_data] at e
      exact ByteArray.ext (Array.toList_inj.1 e)
    rw [ths_lt h4] at hr
    have HR2 := Lib.hid hr
    have H4 := Lib.hid h4
    clear hr h4
    go_enter Tryz.func34, Tryz.ntmps34
    go_upto_region 1 with fail
    obtain ⟨ra, hra⟩ : ∃ x, x = w.heap.size := ⟨_, rfl⟩
    obtain ⟨rb, hrb⟩ : ∃ x, x = w.heap.size + 1 := ⟨_, rfl⟩
    rw [← hrb, ← hra]
    generalize hw1 : (w.alloc _).alloc _ = w1
    have HC1 : Hid (Chg [] w w1) := Lib.hid (by rw [← hw1]; exact ((Chg.refl _ _).alloc _).alloc _)
    have HA : Hid (w1.heap[ra]? = some (.cells #[.int .u64 a.at_, .int .i64 a.kind, .int .u64 a.tgt, .int .i64 a.ord, .string a.sym, .int .i64 a.add, .bool a.weak] 53 (0, 0))) := by
      refine Lib.hid ?_
      rw [← hw1, hra]
      exact ((Chg.refl [] (w.alloc _)).alloc _).heap (heap_alloc_new w _) (by simp)
    have HB : Hid (w1.heap[rb]? = some (.cells #[.int .u64 b.at_, .int .i64 b.kind, .int .u64 b.tgt, .int .i64 b.ord, .string b.sym, .int .i64 b.add, .bool b.weak] 53 (0, 0))) := by
      refine Lib.hid ?_
      rw [← hw1, hrb]
      have := heap_alloc_new (w.alloc (.cells #[.int .u64 a.at_, .int .i64 a.kind, .int .u64 a.tgt, .int .i64 a.ord, .string a.sym, .int .i64 a.add, .bool a.weak] 53)) (.cells #[.int .u64 b.at_, .int .i64 b.kind, .int .u64 b.tgt, .int .i64 b.ord, .string b.sym, .int .i64 b.add, .bool b.weak] 53)
      simpa using this
    have HG1 : Hid (Gr w w1) := Lib.hid (by rw [← hw1]; exact ((Gr.refl _).alloc _).alloc _)
    clear hw1 hra hrb
    have ha := ((Chg.refl [] w1)).heap HA.out (by simp)
    have hb := ((Chg.refl [] w1)).heap HB.out (by simp)
    have x0 := cell_of_heap ha 0
    have x1 := cell_of_heap ha 1
    have x2 := cell_of_heap ha 2
    have x3 := cell_of_heap ha 3
    have x4 := cell_of_heap ha 4
    have x5 := cell_of_heap ha 5
    have x6 := cell_of_heap ha 6
    have y0 := cell_of_heap hb 0
    have y1 := cell_of_heap hb 1
    have y2 := cell_of_heap hb 2
    have y3 := cell_of_heap hb 3
    have y4 := cell_of_heap hb 4
    have y5 := cell_of_heap hb 5
    have y6 := cell_of_heap hb 6
    simp at x0 x1 x2 x3 x4 x5 x6 y0 y1 y2 y3 y4 y5 y6
    clear ha hb
    go_wp2
    go_ret
    exact ⟨by rw [HR2.out] <;> rfl, HC1.out⟩
  have d4 : (a.sym.toList == b.sym.toList) = true := by rw [h4]; simp
  rw [ths_same h4] at hr
  have H4 := Lib.hid h4
  clear h4
  by_cases h5 : a.add = b.add
  case neg =>
    have d5 : (a.add != b.add) = true := by rw [bne_iff_ne]; exact h5
    rw [th_lt h5] at hr
    have HR2 := Lib.hid hr
    have H5 := Lib.hid h5
    clear hr h5
    go_enter Tryz.func34, Tryz.ntmps34
    go_upto_region 1 with fail
    obtain ⟨ra, hra⟩ : ∃ x, x = w.heap.size := ⟨_, rfl⟩
    obtain ⟨rb, hrb⟩ : ∃ x, x = w.heap.size + 1 := ⟨_, rfl⟩
    rw [← hrb, ← hra]
    generalize hw1 : (w.alloc _).alloc _ = w1
    have HC1 : Hid (Chg [] w w1) := Lib.hid (by rw [← hw1]; exact ((Chg.refl _ _).alloc _).alloc _)
    have HA : Hid (w1.heap[ra]? = some (.cells #[.int .u64 a.at_, .int .i64 a.kind, .int .u64 a.tgt, .int .i64 a.ord, .string a.sym, .int .i64 a.add, .bool a.weak] 53 (0, 0))) := by
      refine Lib.hid ?_
      rw [← hw1, hra]
      exact ((Chg.refl [] (w.alloc _)).alloc _).heap (heap_alloc_new w _) (by simp)
    have HB : Hid (w1.heap[rb]? = some (.cells #[.int .u64 b.at_, .int .i64 b.kind, .int .u64 b.tgt, .int .i64 b.ord, .string b.sym, .int .i64 b.add, .bool b.weak] 53 (0, 0))) := by
      refine Lib.hid ?_
      rw [← hw1, hrb]
      have := heap_alloc_new (w.alloc (.cells #[.int .u64 a.at_, .int .i64 a.kind, .int .u64 a.tgt, .int .i64 a.ord, .string a.sym, .int .i64 a.add, .bool a.weak] 53)) (.cells #[.int .u64 b.at_, .int .i64 b.kind, .int .u64 b.tgt, .int .i64 b.ord, .string b.sym, .int .i64 b.add, .bool b.weak] 53)
      simpa using this
    have HG1 : Hid (Gr w w1) := Lib.hid (by rw [← hw1]; exact ((Gr.refl _).alloc _).alloc _)
    clear hw1 hra hrb
    have ha := ((Chg.refl [] w1)).heap HA.out (by simp)
    have hb := ((Chg.refl [] w1)).heap HB.out (by simp)
    have x0 := cell_of_heap ha 0
    have x1 := cell_of_heap ha 1
    have x2 := cell_of_heap ha 2
    have x3 := cell_of_heap ha 3
    have x4 := cell_of_heap ha 4
    have x5 := cell_of_heap ha 5
    have x6 := cell_of_heap ha 6
    have y0 := cell_of_heap hb 0
    have y1 := cell_of_heap hb 1
    have y2 := cell_of_heap hb 2
    have y3 := cell_of_heap hb 3
    have y4 := cell_of_heap hb 4
    have y5 := cell_of_heap hb 5
    have y6 := cell_of_heap hb 6
    simp at x0 x1 x2 x3 x4 x5 x6 y0 y1 y2 y3 y4 y5 y6
    clear ha hb
    go_wp2
    go_ret
    exact ⟨by rw [HR2.out] <;> rfl, HC1.out⟩
  have d5 : (a.add != b.add) = false := by rw [h5]; simp
  rw [th_same h5] at hr
  have H5 := Lib.hid h5
  clear h5
  rw [wt_lt] at hr
  rcases Bool.eq_false_or_eq_true a.weak with hA | hA
  · rw [hA] at hr
    have HR2 := Lib.hid hr
    have HAW := Lib.hid hA
    clear hr hA
    go_enter Tryz.func34, Tryz.ntmps34
    go_upto_region 1 with fail
    obtain ⟨ra, hra⟩ : ∃ x, x = w.heap.size := ⟨_, rfl⟩
    obtain ⟨rb, hrb⟩ : ∃ x, x = w.heap.size + 1 := ⟨_, rfl⟩
    rw [← hrb, ← hra]
    generalize hw1 : (w.alloc _).alloc _ = w1
    have HC1 : Hid (Chg [] w w1) := Lib.hid (by rw [← hw1]; exact ((Chg.refl _ _).alloc _).alloc _)
    have HA : Hid (w1.heap[ra]? = some (.cells #[.int .u64 a.at_, .int .i64 a.kind, .int .u64 a.tgt, .int .i64 a.ord, .string a.sym, .int .i64 a.add, .bool a.weak] 53 (0, 0))) := by
      refine Lib.hid ?_
      rw [← hw1, hra]
      exact ((Chg.refl [] (w.alloc _)).alloc _).heap (heap_alloc_new w _) (by simp)
    have HB : Hid (w1.heap[rb]? = some (.cells #[.int .u64 b.at_, .int .i64 b.kind, .int .u64 b.tgt, .int .i64 b.ord, .string b.sym, .int .i64 b.add, .bool b.weak] 53 (0, 0))) := by
      refine Lib.hid ?_
      rw [← hw1, hrb]
      have := heap_alloc_new (w.alloc (.cells #[.int .u64 a.at_, .int .i64 a.kind, .int .u64 a.tgt, .int .i64 a.ord, .string a.sym, .int .i64 a.add, .bool a.weak] 53)) (.cells #[.int .u64 b.at_, .int .i64 b.kind, .int .u64 b.tgt, .int .i64 b.ord, .string b.sym, .int .i64 b.add, .bool b.weak] 53)
      simpa using this
    have HG1 : Hid (Gr w w1) := Lib.hid (by rw [← hw1]; exact ((Gr.refl _).alloc _).alloc _)
    clear hw1 hra hrb
    have ha := ((Chg.refl [] w1)).heap HA.out (by simp)
    have hb := ((Chg.refl [] w1)).heap HB.out (by simp)
    have x0 := cell_of_heap ha 0
    have x1 := cell_of_heap ha 1
    have x2 := cell_of_heap ha 2
    have x3 := cell_of_heap ha 3
    have x4 := cell_of_heap ha 4
    have x5 := cell_of_heap ha 5
    have x6 := cell_of_heap ha 6
    have y0 := cell_of_heap hb 0
    have y1 := cell_of_heap hb 1
    have y2 := cell_of_heap hb 2
    have y3 := cell_of_heap hb 3
    have y4 := cell_of_heap hb 4
    have y5 := cell_of_heap hb 5
    have y6 := cell_of_heap hb 6
    simp at x0 x1 x2 x3 x4 x5 x6 y0 y1 y2 y3 y4 y5 y6
    clear ha hb
    rw [HAW.out] at x6
    go_wp2
    go_ret
    exact ⟨by rw [HR2.out] <;> rfl, HC1.out⟩
  · rw [hA] at hr
    have HR2 := Lib.hid hr
    have HAW := Lib.hid hA
    clear hr hA
    go_enter Tryz.func34, Tryz.ntmps34
    go_upto_region 1 with fail
    obtain ⟨ra, hra⟩ : ∃ x, x = w.heap.size := ⟨_, rfl⟩
    obtain ⟨rb, hrb⟩ : ∃ x, x = w.heap.size + 1 := ⟨_, rfl⟩
    rw [← hrb, ← hra]
    generalize hw1 : (w.alloc _).alloc _ = w1
    have HC1 : Hid (Chg [] w w1) := Lib.hid (by rw [← hw1]; exact ((Chg.refl _ _).alloc _).alloc _)
    have HA : Hid (w1.heap[ra]? = some (.cells #[.int .u64 a.at_, .int .i64 a.kind, .int .u64 a.tgt, .int .i64 a.ord, .string a.sym, .int .i64 a.add, .bool a.weak] 53 (0, 0))) := by
      refine Lib.hid ?_
      rw [← hw1, hra]
      exact ((Chg.refl [] (w.alloc _)).alloc _).heap (heap_alloc_new w _) (by simp)
    have HB : Hid (w1.heap[rb]? = some (.cells #[.int .u64 b.at_, .int .i64 b.kind, .int .u64 b.tgt, .int .i64 b.ord, .string b.sym, .int .i64 b.add, .bool b.weak] 53 (0, 0))) := by
      refine Lib.hid ?_
      rw [← hw1, hrb]
      have := heap_alloc_new (w.alloc (.cells #[.int .u64 a.at_, .int .i64 a.kind, .int .u64 a.tgt, .int .i64 a.ord, .string a.sym, .int .i64 a.add, .bool a.weak] 53)) (.cells #[.int .u64 b.at_, .int .i64 b.kind, .int .u64 b.tgt, .int .i64 b.ord, .string b.sym, .int .i64 b.add, .bool b.weak] 53)
      simpa using this
    have HG1 : Hid (Gr w w1) := Lib.hid (by rw [← hw1]; exact ((Gr.refl _).alloc _).alloc _)
    clear hw1 hra hrb
    have ha := ((Chg.refl [] w1)).heap HA.out (by simp)
    have hb := ((Chg.refl [] w1)).heap HB.out (by simp)
    have x0 := cell_of_heap ha 0
    have x1 := cell_of_heap ha 1
    have x2 := cell_of_heap ha 2
    have x3 := cell_of_heap ha 3
    have x4 := cell_of_heap ha 4
    have x5 := cell_of_heap ha 5
    have x6 := cell_of_heap ha 6
    have y0 := cell_of_heap hb 0
    have y1 := cell_of_heap hb 1
    have y2 := cell_of_heap hb 2
    have y3 := cell_of_heap hb 3
    have y4 := cell_of_heap hb 4
    have y5 := cell_of_heap hb 5
    have y6 := cell_of_heap hb 6
    simp at x0 x1 x2 x3 x4 x5 x6 y0 y1 y2 y3 y4 y5 y6
    clear ha hb
    rw [HAW.out] at x6
    go_wp2
    go_ret
    exact ⟨by rw [HR2.out] <;> rfl, HC1.out⟩
end Go.Proofs.YtkomocgodljecaaGreatDoor
