/- What is known of chapter 12; FixupRuns, walked. -/
import Derived.Test.YtchkombikjcokaaDoorTxt12
import Derived.Test.YtchkombikjcokaaDoorInt
namespace Go.Proofs.YtchkombikjcokaaDoor
open Go.RowKit
set_option maxRecDepth 100000

set_option maxHeartbeats 2000000 in
theorem known12 (w : World) (ht : Tz w) : Calls Tryd.prog 39 #[] w fun e w' => e = .returned (.bool true) ∧ Chg [] w w' := by
  have HT := Lib.hid (ht)
  clear ht
  have eB : txB.toList = [48, 120, 52, 48, 48, 48, 32, 98, 105, 110, 100, 32, 49, 32, 95, 112, 117, 116, 115, 32, 48] := by decide +kernel
  have eR : txR.toList = [48, 120, 56, 32, 114, 101, 98, 97, 115, 101, 32, 48, 120, 49, 48, 48, 48, 48, 48, 48, 48, 48, 48, 48, 48, 48, 49, 48] := by decide +kernel
  have HTR := Lib.hid (Text_R)
  have HTB := Lib.hid (Text_B)
  have HVR : Hid (∀ W : World, Calls Tryd.prog 38 #[fxR, .int .u64 4096, .int .u64 0] W fun e w' => e = .returned (.int .u64 72057594037932048) ∧ Chg [] W w') := by
    refine Lib.hid ?_
    intro W
    have := Value_reb (.int .u64 8) (.int .i64 0) (.int .i64 0) 72057594037927952 4096 0 (.string ⟨#[]⟩) (.bool false) (by decide) W
    rw [show valR 72057594037927952 4096 = 72057594037932048 by decide] at this
    exact this
  have HVB : Hid (∀ W : World, Calls Tryd.prog 38 #[fxB, .int .u64 4096, .int .u64 7] W fun e w' => e = .returned (.int .u64 7) ∧ Chg [] W w') := by
    refine Lib.hid ?_
    intro W
    have := Value_bind (.int .u64 16384) (.int .u64 0) (.int .i64 1) 0 4096 7 (.string ⟨#[95, 112, 117, 116, 115]⟩) (.bool false) W
    rw [show IntKind.u64.wrap (((7 : Nat) : Int) + IntKind.u64.wrap 0) = 7 by decide] at this
    exact this
  unfold fxR fxB at *
  go_enter Tryd.func39, Tryd.ntmps39
  go_wp2_with fail
  obtain ⟨b2, hb2⟩ : ∃ x, x = w.heap.size + 1 := ⟨_, rfl⟩
  rw [← hb2]
  generalize hw1 : (w.alloc _).alloc _ = w1
  have HC1 : Hid (Chg [] w w1) := by
    refine Lib.hid ?_
    rw [← hw1]; exact ((Chg.refl _ _).alloc _).alloc _
  have HB1 : Hid (w1.heap[w.heap.size]? = some (.cells #[.int .u64 16384, .int .i64 2, .int .u64 0, .int .i64 1, .string ⟨#[95, 112, 117, 116, 115]⟩, .int .i64 0, .bool false] 87 (0, 0))) := by
    refine Lib.hid ?_
    rw [← hw1]
    exact ((Chg.refl [] (w.alloc _)).alloc _).heap (heap_alloc_new w _) (by simp)
  have HR1 : Hid (w1.heap[b2]? = some (.cells #[.int .u64 8, .int .i64 1, .int .u64 72057594037927952, .int .i64 0, .string ⟨#[]⟩, .int .i64 0, .bool false] 87 (0, 0))) := by
    refine Lib.hid ?_
    rw [← hw1, hb2]
    have := heap_alloc_new (w.alloc (.cells #[.int .u64 16384, .int .i64 2, .int .u64 0, .int .i64 1, .string ⟨#[95, 112, 117, 116, 115]⟩, .int .i64 0, .bool false] 87)) (.cells #[.int .u64 8, .int .i64 1, .int .u64 72057594037927952, .int .i64 0, .string ⟨#[]⟩, .int .i64 0, .bool false] 87)
    simpa using this
  clear hw1 hb2
  refine (HTB.out w1 (HT.out.frame HC1.out)).mono ?_
  rintro e w2 ⟨rfl, h2⟩
  have H2 := Lib.hid (h2)
  have hr := h2.heap HR1.out (by simp)
  have d := cell_of_heap hr 0
  have db := cell_of_heap hr 1
  have dc := cell_of_heap hr 2
  have dd := cell_of_heap hr 3
  have de := cell_of_heap hr 4
  have df := cell_of_heap hr 5
  have dg := cell_of_heap hr 6
  simp at d db dc dd de df dg
  clear h2
  go_wp2_with fail
  refine (HTR.out w2 (HT.out.frame (HC1.out.then H2.out))).mono ?_
  rintro e w3 ⟨rfl, h3⟩
  have H3 := Lib.hid (h3)
  clear hr
  clear d db dc dd de df dg
  have hr := h3.heap (H2.out.heap HR1.out (by simp)) (by simp)
  have d := cell_of_heap hr 0
  have db := cell_of_heap hr 1
  have dc := cell_of_heap hr 2
  have dd := cell_of_heap hr 3
  have de := cell_of_heap hr 4
  have df := cell_of_heap hr 5
  have dg := cell_of_heap hr 6
  simp at d db dc dd de df dg
  clear h3 hr
  go_wp2_with fail
  refine (HVR.out w3).mono ?_
  rintro e w4 ⟨rfl, h4⟩
  have H4 := Lib.hid (h4)
  clear d db dc dd de df dg
  have hr := h4.heap (H3.out.heap (H2.out.heap HB1.out (by simp)) (by simp)) (by simp)
  have d := cell_of_heap hr 0
  have db := cell_of_heap hr 1
  have dc := cell_of_heap hr 2
  have dd := cell_of_heap hr 3
  have de := cell_of_heap hr 4
  have df := cell_of_heap hr 5
  have dg := cell_of_heap hr 6
  simp at d db dc dd de df dg
  clear h4 hr
  go_wp2_with fail
  refine (HVB.out w4).mono ?_
  rintro e w5 ⟨rfl, h5⟩
  have H5 := Lib.hid (h5)
  clear h5
  go_wp2
  go_ret
  exact ⟨rfl, (((HC1.out.then H2.out).then H3.out).then H4.out).then H5.out⟩
theorem more_ok (t A M : Int) : IntKind.u64.wrap (IntKind.u64.wrap (t + IntKind.u64.wrap (wrap64 (A + M))) - IntKind.u64.wrap (t + IntKind.u64.wrap A)) = IntKind.u64.wrap M := by
  simp only [IntKind.wrap_u64, wrap64]
  omega

set_option maxHeartbeats 4000000 in
theorem FixupRuns_in (w : World) (ht : Tz w) (t s : Nat) (htt : t < 18446744073709551616) (hss : s < 18446744073709551616) (A M : Int) :
    Calls Tryd.prog 12 #[.int .u64 t, .int .u64 s, .int .i64 A, .int .i64 M] w fun e w' => e = .returned (.bool true) ∧ Chg [] w w' := by
  have HT := Lib.hid (ht)
  obtain ⟨v, hv⟩ : ∃ v, v = valR t s := ⟨_, rfl⟩
  obtain ⟨ns, hns⟩ : ∃ ns, ns = (18446744073709551616 - s) % 18446744073709551616 := ⟨_, rfl⟩
  have hneg : IntKind.u64.wrap (-(s : Int)) = (ns : Int) := by rw [IntKind.wrap_u64, hns]; omega
  have HV1 : Hid (∀ W : World, Calls Tryd.prog 38 #[.agg #[.int .u64 0, .int .i64 1, .int .u64 t, .int .i64 0, .string ⟨#[]⟩, .int .i64 0, .bool false], .int .u64 s, .int .u64 0] W fun e w' => e = .returned (.int .u64 v) ∧ Chg [] W w') := by
    refine Lib.hid ?_
    intro W
    rw [hv]
    exact Value_reb (.int .u64 0) (.int .i64 0) (.int .i64 0) t s 0 (.string ⟨#[]⟩) (.bool false) htt W
  have HV2 : Hid (∀ W : World, Calls Tryd.prog 38 #[.agg #[.int .u64 0, .int .i64 1, .int .u64 v, .int .i64 0, .string ⟨#[]⟩, .int .i64 0, .bool false], .int .u64 ns, .int .u64 0] W fun e w' => e = .returned (.int .u64 t) ∧ Chg [] W w') := by
    refine Lib.hid ?_
    intro W
    have := Value_reb (.int .u64 0) (.int .i64 0) (.int .i64 0) v ns 0 (.string ⟨#[]⟩) (.bool false) (by rw [hv]; exact valR_lt t s htt) W
    rw [hv, hns, valR_back t s hss] at this
    rw [hv, hns]
    exact this
  obtain ⟨B, hB⟩ : ∃ B, B = wrap64 (A + M) := ⟨_, rfl⟩
  have HV3 : Hid (∀ (X : Int) (W : World), Calls Tryd.prog 38 #[.agg #[.int .u64 0, .int .i64 2, .int .u64 0, .int .i64 0, .string ⟨#[97]⟩, .int .i64 X, .bool false], .int .u64 0, .int .u64 t] W fun e w' => e = .returned (.int .u64 (IntKind.u64.wrap ((t : Int) + IntKind.u64.wrap X))) ∧ Chg [] W w') := by
    refine Lib.hid ?_
    intro X W
    exact Value_bind (.int .u64 0) (.int .u64 0) (.int .i64 0) X 0 t (.string ⟨#[97]⟩) (.bool false) W
  have HMO := Lib.hid (more_ok (t : Int) A M)
  rw [← hB] at HMO
  obtain ⟨xb, hxb⟩ : ∃ x, x = IntKind.u64.wrap ((t : Int) + IntKind.u64.wrap B) := ⟨_, rfl⟩
  obtain ⟨xa, hxa⟩ : ∃ x, x = IntKind.u64.wrap ((t : Int) + IntKind.u64.wrap A) := ⟨_, rfl⟩
  rw [← hxb, ← hxa] at HMO
  have HVB := HV3.out B
  have HVA := HV3.out A
  rw [← hxb] at HVB
  rw [← hxa] at HVA
  replace HVB := Lib.hid HVB
  replace HVA := Lib.hid HVA
  have hmo : (IntKind.u64.wrap (xb - xa) == IntKind.u64.wrap M) = true := by rw [HMO.out]; simp
  clear HV3 hxb hxa HMO
  clear ht hv hns htt hss
  have HBB := Lib.hid hB
  clear hB
  go_enter Tryd.func12, Tryd.ntmps12
  go_wp2_with fail
  refine (HV1.out _).mono ?_
  rintro e w2 ⟨rfl, h2⟩
  have H2 : Hid (Chg [] w w2) := Lib.hid (((Chg.refl _ _).alloc _).then h2)
  clear h2
  go_upto_region 5 with fail
  rw [← HBB.out]
  obtain ⟨p1, hp1⟩ : ∃ x, x = w2.heap.size := ⟨_, rfl⟩
  obtain ⟨p2, hp2⟩ : ∃ x, x = p1 + 1 := ⟨_, rfl⟩
  obtain ⟨p3, hp3⟩ : ∃ x, x = p2 + 1 := ⟨_, rfl⟩
  rw [← hp1, ← hp2, ← hp3]
  generalize hw3 : ((w2.alloc _).alloc _).alloc _ = w3
  have H3 : Hid (Chg [] w2 w3) := by
    refine Lib.hid ?_
    rw [← hw3]; exact (((Chg.refl _ _).alloc _).alloc _).alloc _
  have q1 : w3.heap[p1]? = some (.cells #[.int .u64 0, .int .i64 1, .int .u64 v, .int .i64 0, .string ⟨#[]⟩, .int .i64 0, .bool false] 87 (0, 0)) := by
    rw [← hw3, hp1]
    exact (((Chg.refl [] (w2.alloc _)).alloc _).alloc _).heap (heap_alloc_new w2 _) (by simp)
  have q2 : w3.heap[p2]? = some (.cells #[.int .u64 0, .int .i64 2, .int .u64 0, .int .i64 0, .string ⟨#[97]⟩, .int .i64 A, .bool false] 87 (0, 0)) := by
    rw [← hw3, hp2, hp1]
    have := heap_alloc_new (w2.alloc (.cells #[.int .u64 0, .int .i64 1, .int .u64 v, .int .i64 0, .string ⟨#[]⟩, .int .i64 0, .bool false] 87)) (.cells #[.int .u64 0, .int .i64 2, .int .u64 0, .int .i64 0, .string ⟨#[97]⟩, .int .i64 A, .bool false] 87)
    simp only [World.alloc, Array.size_push] at this ⊢
    exact ((Chg.refl [] ((w2.alloc _).alloc _)).alloc _).heap this (by simp)
  have q3 : w3.heap[p3]? = some (.cells #[.int .u64 0, .int .i64 2, .int .u64 0, .int .i64 0, .string ⟨#[97]⟩, .int .i64 B, .bool false] 87 (0, 0)) := by
    rw [← hw3, hp3, hp2, hp1]
    have := heap_alloc_new ((w2.alloc (.cells #[.int .u64 0, .int .i64 1, .int .u64 v, .int .i64 0, .string ⟨#[]⟩, .int .i64 0, .bool false] 87)).alloc (.cells #[.int .u64 0, .int .i64 2, .int .u64 0, .int .i64 0, .string ⟨#[97]⟩, .int .i64 A, .bool false] 87)) (.cells #[.int .u64 0, .int .i64 2, .int .u64 0, .int .i64 0, .string ⟨#[97]⟩, .int .i64 B, .bool false] 87)
    simp only [World.alloc, Array.size_push] at this ⊢
    exact this
  clear hw3 hp1 hp2 hp3
  have d := cell_of_heap q1 0
  have db := cell_of_heap q1 1
  have dc := cell_of_heap q1 2
  have dd := cell_of_heap q1 3
  have de := cell_of_heap q1 4
  have df := cell_of_heap q1 5
  have dg := cell_of_heap q1 6
  simp at d db dc dd de df dg
  have k := cell_of_heap q2 0
  have kb := cell_of_heap q2 1
  have kc := cell_of_heap q2 2
  have kd := cell_of_heap q2 3
  have ke := cell_of_heap q2 4
  have kf := cell_of_heap q2 5
  have kg := cell_of_heap q2 6
  simp at k kb kc kd ke kf kg
  have m := cell_of_heap q3 0
  have mb := cell_of_heap q3 1
  have mc := cell_of_heap q3 2
  have md := cell_of_heap q3 3
  have me := cell_of_heap q3 4
  have mf := cell_of_heap q3 5
  have mg := cell_of_heap q3 6
  simp at m mb mc md me mf mg
  clear q1 q2 q3
  have HMK := Lib.hid (known12)
  go_wp2_with fail
  refine wp_region_noPanic ?_
  refine wp_region_held_drew (S := fun w' => Chg [] w3 w') (by kernel_rfl) ((Chg.refl _ _).drew) (fun hHeld => ?_)
  refine take_read (i := 0) (v := ?_) (by simp only [List.getElem?_toArray, List.getElem?_cons_zero]; rfl) (by kernel_rfl) (by kernel_rfl) (by kernel_rfl) (fun _ _ _ h => h) hHeld ?_ ?_
  rotate_left
  · intro w hSw
    have d := hSw.cell d (by simp)
    have db := hSw.cell db (by simp)
    have dc := hSw.cell dc (by simp)
    have dd := hSw.cell dd (by simp)
    have de := hSw.cell de (by simp)
    have df := hSw.cell df (by simp)
    have dg := hSw.cell dg (by simp)
    go_simp
    try with_reducible rfl
  try simp only [Act.put, List.setIfInBounds_toArray, List.set_cons_zero, List.set_cons_succ]
  refine take_read (i := 1) (v := ?_) (by simp only [List.getElem?_toArray, List.getElem?_cons_succ, List.getElem?_cons_zero]; rfl) (by kernel_rfl) (by kernel_rfl) (by kernel_rfl) (fun _ _ _ h => h) hHeld ?_ ?_
  rotate_left
  · intro w hSw
    go_simp
    try with_reducible rfl
  try simp only [Act.put, List.setIfInBounds_toArray, List.set_cons_zero, List.set_cons_succ]
  refine take_read (i := 2) (v := ?_) (by simp only [List.getElem?_toArray, List.getElem?_cons_succ, List.getElem?_cons_zero]; rfl) (by kernel_rfl) (by kernel_rfl) (by kernel_rfl) (fun _ _ _ h => h) hHeld ?_ ?_
  rotate_left
  · intro w hSw
    go_simp
    try with_reducible rfl
  try simp only [Act.put, List.setIfInBounds_toArray, List.set_cons_zero, List.set_cons_succ]
  refine take_read (i := 4) (v := ?_) (by simp only [List.getElem?_toArray, List.getElem?_cons_succ, List.getElem?_cons_zero]; rfl) (by kernel_rfl) (by kernel_rfl) (by kernel_rfl) (fun _ _ _ h => h) hHeld ?_ ?_
  rotate_left
  · intro w hSw
    go_simp
    try with_reducible rfl
  try simp only [Act.put, List.setIfInBounds_toArray, List.set_cons_zero, List.set_cons_succ]
  refine wpAnyH_ready (rs := [3]) (by kernel_rfl) (by simp) ?_
  refine AllReadyH.cons rfl (fun K hK => ?_) AllReadyH.nil
  go_simp
  refine (HV2.out w3.drew).mono ?_
  rintro e w5 ⟨rfl, h5⟩
  have H5 := Lib.hid (h5)
  clear h5
  refine hK.out _ _ (show Chg [] w3 w5 from ((Chg.refl _ _).drew).then H5.out) (fun _ => ?_)
  clear hK hHeld K
  have hHeld := (show Chg [] w3 w5 from ((Chg.refl _ _).drew).then H5.out)
  try (unfold Act.put; simp only [List.setIfInBounds_toArray, List.set_cons_zero, List.set_cons_succ])
  refine take_read (i := 5) (v := ?_) (by simp only [List.getElem?_toArray, List.getElem?_cons_succ, List.getElem?_cons_zero]; rfl) (by kernel_rfl) (by kernel_rfl) (by kernel_rfl) (fun _ _ _ h => h) hHeld ?_ ?_
  rotate_left
  · intro w hSw
    go_simp
    try with_reducible rfl
  try simp only [Act.put, List.setIfInBounds_toArray, List.set_cons_zero, List.set_cons_succ]
  refine take_read (i := 6) (v := ?_) (by simp only [List.getElem?_toArray, List.getElem?_cons_succ, List.getElem?_cons_zero]; rfl) (by kernel_rfl) (by kernel_rfl) (by kernel_rfl) (fun _ _ _ h => h) hHeld ?_ ?_
  rotate_left
  · intro w hSw
    go_simp
    try with_reducible rfl
  try simp only [Act.put, List.setIfInBounds_toArray, List.set_cons_zero, List.set_cons_succ]
  refine take_read (i := 7) (v := ?_) (by simp only [List.getElem?_toArray, List.getElem?_cons_succ, List.getElem?_cons_zero]; rfl) (by kernel_rfl) (by kernel_rfl) (by kernel_rfl) (fun _ _ _ h => h) hHeld ?_ ?_
  rotate_left
  · intro w hSw
    have m := hSw.cell m (by simp)
    have mb := hSw.cell mb (by simp)
    have mc := hSw.cell mc (by simp)
    have md := hSw.cell md (by simp)
    have me := hSw.cell me (by simp)
    have mf := hSw.cell mf (by simp)
    have mg := hSw.cell mg (by simp)
    go_simp
    try with_reducible rfl
  try simp only [Act.put, List.setIfInBounds_toArray, List.set_cons_zero, List.set_cons_succ]
  refine take_read (i := 8) (v := ?_) (by simp only [List.getElem?_toArray, List.getElem?_cons_succ, List.getElem?_cons_zero]; rfl) (by kernel_rfl) (by kernel_rfl) (by kernel_rfl) (fun _ _ _ h => h) hHeld ?_ ?_
  rotate_left
  · intro w hSw
    go_simp
    try with_reducible rfl
  try simp only [Act.put, List.setIfInBounds_toArray, List.set_cons_zero, List.set_cons_succ]
  refine take_read (i := 10) (v := ?_) (by simp only [List.getElem?_toArray, List.getElem?_cons_succ, List.getElem?_cons_zero]; rfl) (by kernel_rfl) (by kernel_rfl) (by kernel_rfl) (fun _ _ _ h => h) hHeld ?_ ?_
  rotate_left
  · intro w hSw
    have k := hSw.cell k (by simp)
    have kb := hSw.cell kb (by simp)
    have kc := hSw.cell kc (by simp)
    have kd := hSw.cell kd (by simp)
    have ke := hSw.cell ke (by simp)
    have kf := hSw.cell kf (by simp)
    have kg := hSw.cell kg (by simp)
    go_simp
    try with_reducible rfl
  try simp only [Act.put, List.setIfInBounds_toArray, List.set_cons_zero, List.set_cons_succ]
  refine take_read (i := 11) (v := ?_) (by simp only [List.getElem?_toArray, List.getElem?_cons_succ, List.getElem?_cons_zero]; rfl) (by kernel_rfl) (by kernel_rfl) (by kernel_rfl) (fun _ _ _ h => h) hHeld ?_ ?_
  rotate_left
  · intro w hSw
    go_simp
    try with_reducible rfl
  try simp only [Act.put, List.setIfInBounds_toArray, List.set_cons_zero, List.set_cons_succ]
  refine take_read (i := 14) (v := ?_) (by simp only [List.getElem?_toArray, List.getElem?_cons_succ, List.getElem?_cons_zero]; rfl) (by kernel_rfl) (by kernel_rfl) (by kernel_rfl) (fun _ _ _ h => h) hHeld ?_ ?_
  rotate_left
  · intro w hSw
    go_simp
    try with_reducible rfl
  try simp only [Act.put, List.setIfInBounds_toArray, List.set_cons_zero, List.set_cons_succ]
  refine take_read (i := 15) (v := ?_) (by simp only [List.getElem?_toArray, List.getElem?_cons_succ, List.getElem?_cons_zero]; rfl) (by kernel_rfl) (by kernel_rfl) (by kernel_rfl) (fun _ _ _ h => h) hHeld ?_ ?_
  rotate_left
  · intro w hSw
    go_simp
    try with_reducible rfl
  try simp only [Act.put, List.setIfInBounds_toArray, List.set_cons_zero, List.set_cons_succ]
  refine wpAnyH_ready (rs := [9]) (by kernel_rfl) (by simp) ?_
  refine AllReadyH.cons rfl (fun K hK => ?_) AllReadyH.nil
  go_simp
  refine (HVB.out w5).mono ?_
  rintro e w6 ⟨rfl, h6⟩
  have H6 := Lib.hid (h6)
  clear h6
  refine hK.out _ _ (show Chg [] w3 w6 from (((Chg.refl _ _).drew).then H5.out).then H6.out) (fun _ => ?_)
  clear hK hHeld K
  have hHeld := (show Chg [] w3 w6 from (((Chg.refl _ _).drew).then H5.out).then H6.out)
  try (unfold Act.put; simp only [List.setIfInBounds_toArray, List.set_cons_zero, List.set_cons_succ])
  refine wpAnyH_ready (rs := [12]) (by kernel_rfl) (by simp) ?_
  refine AllReadyH.cons rfl (fun K hK => ?_) AllReadyH.nil
  go_simp
  refine (HVA.out w6).mono ?_
  rintro e w7 ⟨rfl, h7⟩
  have H7 := Lib.hid (h7)
  clear h7
  refine hK.out _ _ (show Chg [] w3 w7 from ((((Chg.refl _ _).drew).then H5.out).then H6.out).then H7.out) (fun _ => ?_)
  clear hK hHeld K
  have hHeld := (show Chg [] w3 w7 from ((((Chg.refl _ _).drew).then H5.out).then H6.out).then H7.out)
  try (unfold Act.put; simp only [List.setIfInBounds_toArray, List.set_cons_zero, List.set_cons_succ])
  refine take_read (i := 13) (v := ?_) (by simp only [List.getElem?_toArray, List.getElem?_cons_succ, List.getElem?_cons_zero]; rfl) (by kernel_rfl) (by kernel_rfl) (by kernel_rfl) (fun _ _ _ h => h) hHeld ?_ ?_
  rotate_left
  · intro w hSw
    go_simp
    try with_reducible rfl
  try simp only [Act.put, List.setIfInBounds_toArray, List.set_cons_zero, List.set_cons_succ]
  refine take_read (i := 16) (v := ?_) (by simp only [List.getElem?_toArray, List.getElem?_cons_succ, List.getElem?_cons_zero]; rfl) (by kernel_rfl) (by kernel_rfl) (by kernel_rfl) (fun _ _ _ h => h) hHeld ?_ ?_
  rotate_left
  · intro w hSw
    go_simp
    try with_reducible rfl
  try simp only [Act.put, List.setIfInBounds_toArray, List.set_cons_zero, List.set_cons_succ]
  refine take_read (i := 17) (v := ?_) (by simp only [List.getElem?_toArray, List.getElem?_cons_succ, List.getElem?_cons_zero]; rfl) (by kernel_rfl) (by kernel_rfl) (by kernel_rfl) (fun _ _ _ h => h) hHeld ?_ ?_
  rotate_left
  · intro w hSw
    go_simp
    try with_reducible rfl
  try simp only [Act.put, List.setIfInBounds_toArray, List.set_cons_zero, List.set_cons_succ]
  refine take_read (i := 18) (v := ?_) (by simp only [List.getElem?_toArray, List.getElem?_cons_succ, List.getElem?_cons_zero]; rfl) (by kernel_rfl) (by kernel_rfl) (by kernel_rfl) (fun _ _ _ h => h) hHeld ?_ ?_
  rotate_left
  · intro w hSw
    go_simp
    try with_reducible rfl
  try simp only [Act.put, List.setIfInBounds_toArray, List.set_cons_zero, List.set_cons_succ]
  refine wpAnyH_ready (rs := [19]) (by kernel_rfl) (by simp) ?_
  refine AllReadyH.cons rfl (fun K hK => ?_) AllReadyH.nil
  go_simp
  refine (HMK.out w7 (HT.out.frame ((H2.out.then H3.out).then (((((Chg.refl _ _).drew).then H5.out).then H6.out).then H7.out)))).mono ?_
  rintro e w8 ⟨rfl, h8⟩
  have H8 := Lib.hid (h8)
  clear h8
  refine hK.out _ _ (show Chg [] w3 w8 from (((((Chg.refl _ _).drew).then H5.out).then H6.out).then H7.out).then H8.out) (fun _ => ?_)
  clear hK hHeld K
  have hHeld := (show Chg [] w3 w8 from (((((Chg.refl _ _).drew).then H5.out).then H6.out).then H7.out).then H8.out)
  try (unfold Act.put; simp only [List.setIfInBounds_toArray, List.set_cons_zero, List.set_cons_succ])
  refine take_read (i := 20) (v := ?_) (by simp only [List.getElem?_toArray, List.getElem?_cons_succ, List.getElem?_cons_zero]; rfl) (by kernel_rfl) (by kernel_rfl) (by kernel_rfl) (fun _ _ _ h => h) hHeld ?_ ?_
  rotate_left
  · intro w hSw
    go_simp
    try with_reducible rfl
  try simp only [Act.put, List.setIfInBounds_toArray, List.set_cons_zero, List.set_cons_succ]
  refine take_read (i := 21) (v := ?_) (by simp only [List.getElem?_toArray, List.getElem?_cons_succ, List.getElem?_cons_zero]; rfl) (by kernel_rfl) (by kernel_rfl) (by kernel_rfl) (fun _ _ _ h => h) hHeld ?_ ?_
  rotate_left
  · intro w hSw
    go_simp
    try with_reducible rfl
  try simp only [Act.put, List.setIfInBounds_toArray, List.set_cons_zero, List.set_cons_succ]
  refine wpAnyH_done (by kernel_rfl) ?_ _
  refine NoPanic.normal ?_
  go_wp2
  go_ret
  exact ⟨rfl, (H2.out.then H3.out).then ((((((Chg.refl _ _).drew).then H5.out).then H6.out).then H7.out).then H8.out)⟩
theorem FixupRuns_walk (w : World) (ht : Tz w) (t : Int) (h0 : (Lit.int .u64 t).wf = true) (s : Int) (h1 : (Lit.int .u64 s).wf = true) (A : Int) (_ : (Lit.int .i64 A).wf = true) (M : Int) (_ : (Lit.int .i64 M).wf = true) :
    Calls Tryd.prog 12 #[.int .u64 t, .int .u64 s, .int .i64 A, .int .i64 M] w fun e w' => e = .returned (.bool true) ∧ Chg [] w w' := by
  obtain ⟨t', rfl, hb⟩ := nat_u64 t h0
  obtain ⟨s', rfl, hc⟩ := nat_u64 s h1
  exact FixupRuns_in w ht t' s' hb hc A M
end Go.Proofs.YtchkombikjcokaaDoor
