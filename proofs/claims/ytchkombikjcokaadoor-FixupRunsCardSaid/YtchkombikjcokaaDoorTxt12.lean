/- fixup.May and fixup.Text of the chapter's two rows; what is known of chapter 12. -/
import Derived.Test.YtchkombikjcokaaDoorWord
import Derived.Deep.CutRange
namespace Go.Proofs.YtchkombikjcokaaDoor
open Go.RowKit
set_option maxRecDepth 100000

def fxB : Value := .agg #[.int .u64 16384, .int .i64 2, .int .u64 0, .int .i64 1, .string ⟨#[95, 112, 117, 116, 115]⟩, .int .i64 0, .bool false]
def fxR : Value := .agg #[.int .u64 8, .int .i64 1, .int .u64 72057594037927952, .int .i64 0, .string ⟨#[]⟩, .int .i64 0, .bool false]

theorem May_R (w : World) : Calls Tryd.prog 77 #[fxR] w fun e w' => e = .returned (.bool true) ∧ Chg [] w w' := by
  unfold fxR
  have he : ∀ W : World, (binOp .eql 87 (.agg #[.int .u64 8, .int .i64 1, .int .u64 72057594037927952, .int .i64 0, .string ⟨#[]⟩, .int .i64 0, .bool false]) (.agg #[.int .u64 8, .int .i64 1, .int .u64 72057594037927952, .int .i64 0, .string ⟨#[]⟩, .int .i64 0, .bool false])).run Tryd.prog W = .ok (.bool true) W := by
    intro W
    kernel_rfl
  go_enter Tryd.func77, Tryd.ntmps77
  go_wp2
  go_ret
  exact ⟨rfl, (Chg.refl _ _).alloc _⟩
theorem May_B (w : World) : Calls Tryd.prog 77 #[fxB] w fun e w' => e = .returned (.bool true) ∧ Chg [] w w' := by
  unfold fxB
  have hc : Hid (Calls Tryd.prog 100 #[.string ⟨#[95, 112, 117, 116, 115]⟩, .string ⟨#[0]⟩] (w.alloc (.cells #[.int .u64 16384, .int .i64 2, .int .u64 0, .int .i64 1, .string ⟨#[95, 112, 117, 116, 115]⟩, .int .i64 0, .bool false] 87)) fun e w' => e = .returned (.bool false) ∧ w' = (w.alloc (.cells #[.int .u64 16384, .int .i64 2, .int .u64 0, .int .i64 1, .string ⟨#[95, 112, 117, 116, 115]⟩, .int .i64 0, .bool false] 87))) := by
    refine Lib.hid ((Tryd.strings_Contains_one _ 0 _).mono fun e w' ⟨he, hw⟩ => ⟨?_, hw⟩)
    rw [he]
    have : decide (0 ≤ Lib.indexByte [95, 112, 117, 116, 115] 0) = false := by decide
    exact congrArg (fun b => Ending.returned (.bool b)) this
  go_enter Tryd.func77, Tryd.ntmps77
  go_wp2_with fail
  refine (hc.out).mono ?_
  rintro e w' ⟨rfl, rfl⟩
  go_wp2
  go_ret
  exact ⟨rfl, (Chg.refl _ _).alloc _⟩
theorem hexD_8 : hexD 8 = [56] := by decide
theorem hexD_16384 : hexD 16384 = [52, 48, 48, 48] := by decide
theorem hexD_big : hexD 72057594037927952 = [49, 48, 48, 48, 48, 48, 48, 48, 48, 48, 48, 48, 48, 49, 48] := by decide
def txR : ByteArray := ⟨#[48, 120, 56, 32, 114, 101, 98, 97, 115, 101, 32, 48, 120, 49, 48, 48, 48, 48, 48, 48, 48, 48, 48, 48, 48, 48, 49, 48]⟩
theorem Text_R (w : World) (ht : Tz w) : Calls Tryd.prog 60 #[fxR] w fun e w' => e = .returned (.string txR) ∧ Chg [] w w' := by
  have HT := Lib.hid (ht)
  clear ht
  have H8 : Hid (∀ W : World, Tz W → Calls Tryd.prog 78 #[.int .u64 8] W fun e w' => e = .returned (.string ⟨#[48, 120, 56]⟩) ∧ Chg [] W w') := by
    refine Lib.hid ?_
    intro W hW
    have := hex_any 8 (by decide) W hW
    unfold hexS at this
    rw [hexD_8] at this
    exact this
  have HB : Hid (∀ W : World, Tz W → Calls Tryd.prog 78 #[.int .u64 72057594037927952] W fun e w' => e = .returned (.string ⟨#[48, 120, 49, 48, 48, 48, 48, 48, 48, 48, 48, 48, 48, 48, 48, 49, 48]⟩) ∧ Chg [] W w') := by
    refine Lib.hid ?_
    intro W hW
    have := hex_any 72057594037927952 (by decide) W hW
    unfold hexS at this
    rw [hexD_big] at this
    exact this
  have HMAY := Lib.hid (May_R)
  unfold fxR at *
  go_enter Tryd.func60, Tryd.ntmps60
  go_wp2_with fail
  generalize hw1 : w.alloc _ = w1
  have HC1 : Hid (Chg [] w w1) := by
    refine Lib.hid ?_
    rw [← hw1]; exact (Chg.refl _ _).alloc _
  have HF1 : Hid (w1.heap[w.heap.size]? = some (.cells #[.int .u64 8, .int .i64 1, .int .u64 72057594037927952, .int .i64 0, .string ⟨#[]⟩, .int .i64 0, .bool false] 87 (0, 0))) := by
    refine Lib.hid ?_
    rw [← hw1]; exact heap_alloc_new _ _
  clear hw1
  refine (HMAY.out w1).mono ?_
  rintro e w2 ⟨rfl, hc2⟩
  have HC2 := Lib.hid (hc2)
  have hq := hc2.heap HF1.out (by simp)
  have d0 := cell_of_heap hq 0
  have d1 := cell_of_heap hq 1
  have d2 := cell_of_heap hq 2
  simp at d0 d1 d2
  clear hq hc2
  have HT2 := Lib.hid (HT.out.frame (HC1.out.then HC2.out))
  go_wp2_with fail
  refine wp_region_noPanic ?_
  refine wp_region_held_drew (S := fun w' => Chg [] w2 w') (by kernel_rfl) ((Chg.refl _ _).drew) (fun hHeld => ?_)
  refine take_read (i := 0) (v := ?_) (by simp only [List.getElem?_toArray, List.getElem?_cons_zero]; rfl) (by kernel_rfl) (by kernel_rfl) (by kernel_rfl) (fun _ _ _ h => h) hHeld ?_ ?_
  rotate_left
  · intro w hSw
    go_simp
    try with_reducible rfl
  try simp only [Act.put, List.setIfInBounds_toArray, List.set_cons_zero, List.set_cons_succ]
  refine take_read (i := 1) (v := ?_) (by simp only [List.getElem?_toArray, List.getElem?_cons_succ, List.getElem?_cons_zero]; rfl) (by kernel_rfl) (by kernel_rfl) (by kernel_rfl) (fun _ _ _ h => h) hHeld ?_ ?_
  rotate_left
  · intro w hSw
    have d0 := hSw.cell d0 (by simp)
    go_simp
    try with_reducible rfl
  try simp only [Act.put, List.setIfInBounds_toArray, List.set_cons_zero, List.set_cons_succ]
  refine take_read (i := 4) (v := ?_) (by simp only [List.getElem?_toArray, List.getElem?_cons_succ, List.getElem?_cons_zero]; rfl) (by kernel_rfl) (by kernel_rfl) (by kernel_rfl) (fun _ _ _ h => h) hHeld ?_ ?_
  rotate_left
  · intro w hSw
    go_simp
    try with_reducible rfl
  try simp only [Act.put, List.setIfInBounds_toArray, List.set_cons_zero, List.set_cons_succ]
  refine take_read (i := 5) (v := ?_) (by simp only [List.getElem?_toArray, List.getElem?_cons_succ, List.getElem?_cons_zero]; rfl) (by kernel_rfl) (by kernel_rfl) (by kernel_rfl) (fun _ _ _ h => h) hHeld ?_ ?_
  rotate_left
  · intro w hSw
    have d2 := hSw.cell d2 (by simp)
    go_simp
    try with_reducible rfl
  try simp only [Act.put, List.setIfInBounds_toArray, List.set_cons_zero, List.set_cons_succ]
  refine wpAnyH_ready (rs := [2]) (by kernel_rfl) (by simp) ?_
  refine AllReadyH.cons rfl (fun K hK => ?_) AllReadyH.nil
  go_simp
  refine (H8.out w2.drew (HT2.out.frame ((Chg.refl _ _).drew))).mono ?_
  rintro e w5 ⟨rfl, h5⟩
  have H5 := Lib.hid (h5)
  clear h5
  refine hK.out _ _ (show Chg [] w2 w5 from ((Chg.refl _ _).drew).then H5.out) (fun _ => ?_)
  clear hK hHeld K
  have hHeld := (show Chg [] w2 w5 from ((Chg.refl _ _).drew).then H5.out)
  try (unfold Act.put; simp only [List.setIfInBounds_toArray, List.set_cons_zero, List.set_cons_succ])
  refine take_read (i := 3) (v := ?_) (by simp only [List.getElem?_toArray, List.getElem?_cons_succ, List.getElem?_cons_zero]; rfl) (by kernel_rfl) (by kernel_rfl) (by kernel_rfl) (fun _ _ _ h => h) hHeld ?_ ?_
  rotate_left
  · intro w hSw
    go_simp
    try with_reducible rfl
  try simp only [Act.put, List.setIfInBounds_toArray, List.set_cons_zero, List.set_cons_succ]
  refine wpAnyH_ready (rs := [6]) (by kernel_rfl) (by simp) ?_
  refine AllReadyH.cons rfl (fun K hK => ?_) AllReadyH.nil
  go_simp
  refine (HB.out w5 (HT2.out.frame (((Chg.refl _ _).drew).then H5.out))).mono ?_
  rintro e w6 ⟨rfl, h6⟩
  have H6 := Lib.hid (h6)
  clear h6
  refine hK.out _ _ (show Chg [] w2 w6 from (((Chg.refl _ _).drew).then H5.out).then H6.out) (fun _ => ?_)
  clear hK hHeld K
  have hHeld := (show Chg [] w2 w6 from (((Chg.refl _ _).drew).then H5.out).then H6.out)
  try (unfold Act.put; simp only [List.setIfInBounds_toArray, List.set_cons_zero, List.set_cons_succ])
  refine take_read (i := 7) (v := ?_) (by simp only [List.getElem?_toArray, List.getElem?_cons_succ, List.getElem?_cons_zero]; rfl) (by kernel_rfl) (by kernel_rfl) (by kernel_rfl) (fun _ _ _ h => h) hHeld ?_ ?_
  rotate_left
  · intro w hSw
    go_simp
    try with_reducible rfl
  try simp only [Act.put, List.setIfInBounds_toArray, List.set_cons_zero, List.set_cons_succ]
  refine take_read (i := 8) (v := ?_) (by simp only [List.getElem?_toArray, List.getElem?_cons_succ, List.getElem?_cons_zero]; rfl) (by kernel_rfl) (by kernel_rfl) (by kernel_rfl) (fun _ _ _ h => h) hHeld ?_ ?_
  rotate_left
  · intro w hSw
    go_simp
    try with_reducible rfl
  try simp only [Act.put, List.setIfInBounds_toArray, List.set_cons_zero, List.set_cons_succ]
  refine wpAnyH_done (by kernel_rfl) ?_ _
  refine NoPanic.normal ?_
  go_wp2
  go_ret
  exact ⟨congrArg (fun b => Ending.returned (.string b)) (ByteArray.ext (by simp [txR])), (HC1.out.then HC2.out).then ((((Chg.refl _ _).drew).then H5.out).then H6.out)⟩
def txB : ByteArray := ⟨#[48, 120, 52, 48, 48, 48, 32, 98, 105, 110, 100, 32, 49, 32, 95, 112, 117, 116, 115, 32, 48]⟩
theorem join_B : Lib.join [[48, 120, 52, 48, 48, 48], [98, 105, 110, 100], [49], [95, 112, 117, 116, 115], [48]] [32] = txB.data.toList := by decide
theorem Text_B (w : World) (ht : Tz w) : Calls Tryd.prog 60 #[fxB] w fun e w' => e = .returned (.string txB) ∧ Chg [] w w' := by
  have HT := Lib.hid (ht)
  clear ht
  have HX : Hid (∀ W : World, Tz W → Calls Tryd.prog 78 #[.int .u64 16384] W fun e w' => e = .returned (.string ⟨#[48, 120, 52, 48, 48, 48]⟩) ∧ Chg [] W w') := by
    refine Lib.hid ?_
    intro W hW
    have := hex_any 16384 (by decide) W hW
    unfold hexS at this
    rw [hexD_16384] at this
    exact this
  have HI : Hid (∀ W : World, Calls Tryd.prog 79 #[.int .i64 1] W fun e w' => e = .returned (.string ⟨#[49]⟩) ∧ w' = W) := by
    refine Lib.hid ?_
    intro W
    have := Tryd.strconv_Itoa_small 1 (by decide) W
    rw [show Lib.decDigits 1 = [49] by decide +kernel] at this
    exact this
  have HN : Hid (∀ W : World, Calls Tryd.prog 81 #[.int .i64 0, .int .i64 10] W fun e w' => e = .returned (.string ⟨#[48]⟩) ∧ w' = W) := by
    refine Lib.hid ?_
    intro W
    have := Tryd.strconv_FormatInt_10_small 0 (by decide) W
    rw [show Lib.decDigits 0 = [48] by decide +kernel] at this
    exact this
  have HWD : Hid (∀ W : World, Calls Tryd.prog 80 #[.string ⟨#[95, 112, 117, 116, 115]⟩] W fun e w' => e = .returned (.string ⟨#[95, 112, 117, 116, 115]⟩) ∧ Chg [] W w') := Lib.hid (fun W => word_plain [95, 112, 117, 116, 115] (by decide) (by decide) W)
  have HMAY := Lib.hid (May_B)
  unfold fxB at *
  go_enter Tryd.func60, Tryd.ntmps60
  go_wp2_with fail
  generalize hw1 : w.alloc _ = w1
  have HC1 : Hid (Chg [] w w1) := by
    refine Lib.hid ?_
    rw [← hw1]; exact (Chg.refl _ _).alloc _
  have HF1 : Hid (w1.heap[w.heap.size]? = some (.cells #[.int .u64 16384, .int .i64 2, .int .u64 0, .int .i64 1, .string ⟨#[95, 112, 117, 116, 115]⟩, .int .i64 0, .bool false] 87 (0, 0))) := by
    refine Lib.hid ?_
    rw [← hw1]; exact heap_alloc_new _ _
  clear hw1
  refine (HMAY.out w1).mono ?_
  rintro e w2 ⟨rfl, hc2⟩
  have HC2 := Lib.hid (hc2)
  have hq := hc2.heap HF1.out (by simp)
  have d0 := cell_of_heap hq 0
  have d1 := cell_of_heap hq 1
  have d3 := cell_of_heap hq 3
  have d4 := cell_of_heap hq 4
  have d5 := cell_of_heap hq 5
  have d6 := cell_of_heap hq 6
  simp at d0 d1 d3 d4 d5 d6
  clear hq hc2
  have HT2 := Lib.hid (HT.out.frame (HC1.out.then HC2.out))
  go_wp2_with fail
  refine wp_region_noPanic ?_
  refine wp_region_held_drew (S := fun w' => Chg [] w2 w') (by kernel_rfl) ((Chg.refl _ _).drew) (fun hHeld => ?_)
  refine take_read (i := 0) (v := ?_) (by simp only [List.getElem?_toArray, List.getElem?_cons_zero]; rfl) (by kernel_rfl) (by kernel_rfl) (by kernel_rfl) (fun _ _ _ h => h) hHeld ?_ ?_
  rotate_left
  · intro w hSw
    go_simp
    try with_reducible rfl
  try simp only [Act.put, List.setIfInBounds_toArray, List.set_cons_zero, List.set_cons_succ]
  refine take_read (i := 1) (v := ?_) (by simp only [List.getElem?_toArray, List.getElem?_cons_succ, List.getElem?_cons_zero]; rfl) (by kernel_rfl) (by kernel_rfl) (by kernel_rfl) (fun _ _ _ h => h) hHeld ?_ ?_
  rotate_left
  · intro w hSw
    have d0 := hSw.cell d0 (by simp)
    go_simp
    try with_reducible rfl
  try simp only [Act.put, List.setIfInBounds_toArray, List.set_cons_zero, List.set_cons_succ]
  refine take_read (i := 3) (v := ?_) (by simp only [List.getElem?_toArray, List.getElem?_cons_succ, List.getElem?_cons_zero]; rfl) (by kernel_rfl) (by kernel_rfl) (by kernel_rfl) (fun _ _ _ h => h) hHeld ?_ ?_
  rotate_left
  · intro w hSw
    go_simp
    try with_reducible rfl
  try simp only [Act.put, List.setIfInBounds_toArray, List.set_cons_zero, List.set_cons_succ]
  refine take_read (i := 4) (v := ?_) (by simp only [List.getElem?_toArray, List.getElem?_cons_succ, List.getElem?_cons_zero]; rfl) (by kernel_rfl) (by kernel_rfl) (by kernel_rfl) (fun _ _ _ h => h) hHeld ?_ ?_
  rotate_left
  · intro w hSw
    have d3 := hSw.cell d3 (by simp)
    go_simp
    try with_reducible rfl
  try simp only [Act.put, List.setIfInBounds_toArray, List.set_cons_zero, List.set_cons_succ]
  refine take_read (i := 6) (v := ?_) (by simp only [List.getElem?_toArray, List.getElem?_cons_succ, List.getElem?_cons_zero]; rfl) (by kernel_rfl) (by kernel_rfl) (by kernel_rfl) (fun _ _ _ h => h) hHeld ?_ ?_
  rotate_left
  · intro w hSw
    go_simp
    try with_reducible rfl
  try simp only [Act.put, List.setIfInBounds_toArray, List.set_cons_zero, List.set_cons_succ]
  refine take_read (i := 7) (v := ?_) (by simp only [List.getElem?_toArray, List.getElem?_cons_succ, List.getElem?_cons_zero]; rfl) (by kernel_rfl) (by kernel_rfl) (by kernel_rfl) (fun _ _ _ h => h) hHeld ?_ ?_
  rotate_left
  · intro w hSw
    have d4 := hSw.cell d4 (by simp)
    go_simp
    try with_reducible rfl
  try simp only [Act.put, List.setIfInBounds_toArray, List.set_cons_zero, List.set_cons_succ]
  refine take_read (i := 9) (v := ?_) (by simp only [List.getElem?_toArray, List.getElem?_cons_succ, List.getElem?_cons_zero]; rfl) (by kernel_rfl) (by kernel_rfl) (by kernel_rfl) (fun _ _ _ h => h) hHeld ?_ ?_
  rotate_left
  · intro w hSw
    go_simp
    try with_reducible rfl
  try simp only [Act.put, List.setIfInBounds_toArray, List.set_cons_zero, List.set_cons_succ]
  refine take_read (i := 10) (v := ?_) (by simp only [List.getElem?_toArray, List.getElem?_cons_succ, List.getElem?_cons_zero]; rfl) (by kernel_rfl) (by kernel_rfl) (by kernel_rfl) (fun _ _ _ h => h) hHeld ?_ ?_
  rotate_left
  · intro w hSw
    have d5 := hSw.cell d5 (by simp)
    go_simp
    try with_reducible rfl
  try simp only [Act.put, List.setIfInBounds_toArray, List.set_cons_zero, List.set_cons_succ]
  refine wpAnyH_ready (rs := [2]) (by kernel_rfl) (by simp) ?_
  refine AllReadyH.cons rfl (fun K hK => ?_) AllReadyH.nil
  go_simp
  refine (HX.out w2.drew (HT2.out.frame ((Chg.refl _ _).drew))).mono ?_
  rintro e w5 ⟨rfl, h5⟩
  have H5 := Lib.hid (h5)
  clear h5
  refine hK.out _ _ (show Chg [] w2 w5 from ((Chg.refl _ _).drew).then H5.out) (fun _ => ?_)
  clear hK hHeld K
  have hHeld := (show Chg [] w2 w5 from ((Chg.refl _ _).drew).then H5.out)
  try (unfold Act.put; simp only [List.setIfInBounds_toArray, List.set_cons_zero, List.set_cons_succ])
  refine wpAnyH_ready (rs := [5]) (by kernel_rfl) (by simp) ?_
  refine AllReadyH.cons rfl (fun K hK => ?_) AllReadyH.nil
  go_simp
  refine (HI.out w5).mono ?_
  rintro e w6 ⟨rfl, rfl⟩
  refine hK.out _ _ (show Chg [] w2 w6 from ((Chg.refl _ _).drew).then H5.out) (fun _ => ?_)
  clear hK hHeld K
  have hHeld := (show Chg [] w2 w6 from ((Chg.refl _ _).drew).then H5.out)
  try (unfold Act.put; simp only [List.setIfInBounds_toArray, List.set_cons_zero, List.set_cons_succ])
  refine wpAnyH_ready (rs := [8]) (by kernel_rfl) (by simp) ?_
  refine AllReadyH.cons rfl (fun K hK => ?_) AllReadyH.nil
  go_simp
  refine (HWD.out w6).mono ?_
  rintro e w7 ⟨rfl, h7⟩
  have H7 := Lib.hid (h7)
  clear h7
  refine hK.out _ _ (show Chg [] w2 w7 from (((Chg.refl _ _).drew).then H5.out).then H7.out) (fun _ => ?_)
  clear hK hHeld K
  have hHeld := (show Chg [] w2 w7 from (((Chg.refl _ _).drew).then H5.out).then H7.out)
  try (unfold Act.put; simp only [List.setIfInBounds_toArray, List.set_cons_zero, List.set_cons_succ])
  refine wpAnyH_ready (rs := [11]) (by kernel_rfl) (by simp) ?_
  refine AllReadyH.cons rfl (fun K hK => ?_) AllReadyH.nil
  go_simp
  refine (HN.out w7).mono ?_
  rintro e w8 ⟨rfl, rfl⟩
  refine hK.out _ _ (show Chg [] w2 w8 from (((Chg.refl _ _).drew).then H5.out).then H7.out) (fun _ => ?_)
  clear hK hHeld K
  have hHeld := (show Chg [] w2 w8 from (((Chg.refl _ _).drew).then H5.out).then H7.out)
  try (unfold Act.put; simp only [List.setIfInBounds_toArray, List.set_cons_zero, List.set_cons_succ])
  refine wpAnyH_ready (rs := [12]) (by kernel_rfl) (by simp) ?_
  refine AllReadyH.cons rfl (fun K hK => ?_) AllReadyH.nil
  go_simp
  generalize hw9 : w8.alloc _ = w9
  have H9 : Hid (Chg [] w8 w9) := by
    refine Lib.hid ?_
    rw [← hw9]; exact (Chg.refl _ _).alloc _
  have C9 : Hid (w9.heap[w8.heap.size]? = some (.cells #[.string ⟨#[48, 120, 52, 48, 48, 48]⟩, .string ⟨#[98, 105, 110, 100]⟩, .string ⟨#[49]⟩, .string ⟨#[95, 112, 117, 116, 115]⟩, .string ⟨#[48]⟩] 9 (0, 0))) := by
    refine Lib.hid ?_
    rw [← hw9]; exact heap_alloc_new _ _
  clear hw9
  refine hK.out _ _ (show Chg [] w2 w9 from ((((Chg.refl _ _).drew).then H5.out).then H7.out).then H9.out) (fun _ => ?_)
  clear hK hHeld K
  have hHeld := (show Chg [] w2 w9 from ((((Chg.refl _ _).drew).then H5.out).then H7.out).then H9.out)
  try (unfold Act.put; simp only [List.setIfInBounds_toArray, List.set_cons_zero, List.set_cons_succ])
  refine take_read (i := 13) (v := ?_) (by simp only [List.getElem?_toArray, List.getElem?_cons_succ, List.getElem?_cons_zero]; rfl) (by kernel_rfl) (by kernel_rfl) (by kernel_rfl) (fun _ _ _ h => h) hHeld ?_ ?_
  rotate_left
  · intro w hSw
    go_simp
    try with_reducible rfl
  try simp only [Act.put, List.setIfInBounds_toArray, List.set_cons_zero, List.set_cons_succ]
  refine wpAnyH_done (by kernel_rfl) ?_ _
  refine NoPanic.normal ?_
  have HC9 : Hid (Chg [] w2 w9) := Lib.hid (((((Chg.refl _ _).drew).then H5.out).then H7.out).then H9.out)
  replace d6 := HC9.out.cell d6 (by simp)
  have HJ : Hid (Calls Tryd.prog 82 #[.slice (some ⟨w8.heap.size, 0, none⟩) 5 5, .string ⟨#[32]⟩] w9 fun e w' => e = .returned (.string txB) ∧ Chg [] w9 w') := by
    refine Lib.hid ?_
    refine (Tryd.strings_Join w8.heap.size 0 5 [⟨#[48, 120, 52, 48, 48, 48]⟩, ⟨#[98, 105, 110, 100]⟩, ⟨#[49]⟩, ⟨#[95, 112, 117, 116, 115]⟩, ⟨#[48]⟩] ⟨#[32]⟩ w9 ?_ (lt_of_heap C9.out) (by decide) (by decide) (by decide)).mono fun e w' ⟨he, hw⟩ => ⟨?_, Chg.of_below hw⟩
    · intro j x hx
      rw [cell_of_heap C9.out, Nat.zero_add]
      match j, hx with
      | 0, hx => cases hx; rfl
      | 1, hx => cases hx; rfl
      | 2, hx => cases hx; rfl
      | 3, hx => cases hx; rfl
      | 4, hx => cases hx; rfl
    · rw [he]
      exact congrArg (fun l : List UInt8 => Ending.returned (.string ⟨l.toArray⟩)) join_B
  go_wp2_with fail
  refine HJ.out.mono ?_
  rintro e w10 ⟨rfl, h10⟩
  have H10 := Lib.hid (h10)
  clear h10
  go_wp2
  go_ret
  exact ⟨rfl, (HC1.out.then HC2.out).then (HC9.out.then H10.out)⟩
end Go.Proofs.YtchkombikjcokaaDoor
