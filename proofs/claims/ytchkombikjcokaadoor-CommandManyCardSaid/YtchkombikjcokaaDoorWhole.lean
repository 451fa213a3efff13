/- fat.whole, walked. -/
import Derived.Test.YtchkombikjcokaaDoorPickW
import Derived.Test.YtchkombikjcokaaDoorReg
namespace Go.Proofs.YtchkombikjcokaaDoor
open Go.RowKit
set_option maxRecDepth 100000

theorem seek_to (l : List UInt8) (p q : Nat) (b : Bool) (h : q ≤ l.length) : seekS ⟨l, p, b, false⟩ (q : Int) = ⟨l, q, b, false⟩ := by
  unfold seekS
  rw [if_pos ⟨by omega, by show (q : Int) ≤ (l.length : Int); omega⟩]
  simp

theorem sl_one (w : World) (s : SL) (T : TypeId) : SlRd (w.alloc (.cells #[.int .u32 s.cpu, .int .u32 s.sub, .int .u64 s.off, .int .u64 s.size, .int .i64 s.align] T)) (.slice (some ⟨w.heap.size, 0, none⟩) 1 1) [s] := by
  refine ⟨_, _, _, rfl, rfl, Nat.le_refl _, by unfold maxLen; omega, fun _ => ⟨_, _, rfl, by simp, fun j hj => ?_⟩⟩
  obtain rfl : j = 0 := by simpa using hj
  have h := heap_alloc_eq w (.cells #[.int .u32 s.cpu, .int .u32 s.sub, .int .u64 s.off, .int .u64 s.size, .int .i64 s.align] T)
  refine ⟨?_, ?_, ?_, ?_, ?_⟩
  · rw [cell_of_heap h]; rfl
  · rw [cell_of_heap h]; rfl
  · rw [cell_of_heap h]; rfl
  · rw [cell_of_heap h]; rfl
  · rw [cell_of_heap h]; rfl

theorem whole_ok (l : List UInt8) (a : Option Addr) (cap : Nat) (w : World) (rd : Rd w (.slice a l.length cap) (bytesV l)) (h12 : 12 ≤ l.length) (hl : l.length ≤ 1048576) :
    Calls Tryd.prog 63 #[.slice a l.length cap] w fun e w' => ∃ v, e = .returned (.tuple #[v, .nilIface]) ∧ SlRd w' v [⟨leNum ((l.drop 4).take 4), leNum ((l.drop 8).take 4), 0, l.length, 0⟩] ∧ Chg [] w w' := by
  obtain ⟨n1, hn1⟩ : ∃ n1, n1 = leNum ((l.drop 4).take 4) := ⟨_, rfl⟩
  obtain ⟨n2, hn2⟩ : ∃ n2, n2 = leNum ((l.drop 8).take 4) := ⟨_, rfl⟩
  have l1 : n1 < 4294967296 := by rw [hn1]; exact leNum4_lt l 4
  have l2 : n2 < 4294967296 := by rw [hn2]; exact leNum4_lt l 8
  obtain ⟨hv1, hs1⟩ := takeL4 l 4 (by omega)
  obtain ⟨hv2, hs2⟩ := takeL4 l 8 (by omega)
  rw [← hn1] at hv1
  rw [← hn2] at hv2
  rw [← hn1, ← hn2]
  have HS : Hid (seekS ⟨l, 0, false, false⟩ 4 = ⟨l, 4, false, false⟩) := Lib.hid (seek_to l 0 4 false (by omega))
  have HV1 := Lib.hid hv1
  have HS1 := Lib.hid hs1
  have HV2 := Lib.hid hv2
  have HS2 := Lib.hid hs2
  have HR := Lib.hid rd
  clear hv1 hs1 hv2 hs2 rd
  clear hn1 hn2
  go_enter Tryd.func63, Tryd.ntmps63
  go_wp2_with fail
  refine (New_cur _ l false w HR.out (by omega)).mono ?_
  rintro e w1 ⟨c, rfl, hx, hcur, hch⟩
  have Hx := Lib.hid hx
  have Hcur := Lib.hid hcur
  have Hch := Lib.hid hch
  clear hx hcur hch
  go_wp2_with fail
  refine (Seek_cur c _ 4 w1 Hcur.out).mono ?_
  rintro e w2 ⟨rfl, hcur2, hch2⟩
  rw [HS.out] at hcur2
  have Hcur2 := Lib.hid hcur2
  have Hch2 := Lib.hid hch2
  clear hcur2 hch2
  go_wp2_with fail
  refine (Number_cur c _ 4 w2 Hcur2.out).mono ?_
  rintro e w3 ⟨rfl, hcur3, hch3⟩
  rw [HV1.out]
  rw [HS1.out] at hcur3
  have Hcur3 := Lib.hid hcur3
  have Hch3 := Lib.hid hch3
  clear hcur3 hch3
  go_wp2_with fail
  refine (Number_cur c _ 4 w3 Hcur3.out).mono ?_
  rintro e w4 ⟨rfl, hcur4, hch4⟩
  rw [HV2.out]
  rw [HS2.out] at hcur4
  have Hcur4 := Lib.hid hcur4
  have Hch4 := Lib.hid hch4
  clear hcur4 hch4
  go_wp2_with fail
  obtain ⟨a4, n4, p4, hq4, _⟩ := Hcur4.out
  obtain ⟨w5, hw5⟩ : ∃ w5, w5 = w4.alloc (.cells #[.int .u32 n1, .int .u32 n2, .int .u64 0, .int .u64 l.length, .int .i64 0] 52) := ⟨_, rfl⟩
  obtain ⟨q, hq⟩ : ∃ q, q = w4.heap.size := ⟨_, rfl⟩
  have hq5 : w5.heap[q]? = some (.cells #[.int .u32 n1, .int .u32 n2, .int .u64 0, .int .u64 l.length, .int .i64 0] 52 (0, 0)) := by rw [hw5, hq]; exact heap_alloc_eq _ _
  have hq4 := ((Chg.refl [] w4).alloc (.cells #[.int .u32 n1, .int .u32 n2, .int .u64 0, .int .u64 l.length, .int .i64 0] 52)).heap hq4 (by simp)
  rw [← hw5] at hq4
  have HC5 : Hid (Chg [] w w5) := by
    refine Lib.hid ?_
    rw [hw5]
    exact ((Hch.out.new ((Hch2.out.same Hch3.out).same Hch4.out) Hx.out)).alloc _
  rw [← hw5, ← hq]
  have d0 := cell_of_heap hq5 0
  have d1 := cell_of_heap hq5 1
  have d2 := cell_of_heap hq5 2
  have d3 := cell_of_heap hq5 3
  have d4 := cell_of_heap hq5 4
  simp at d0 d1 d2 d3 d4
  clear hq5 hw5 hq
  refine wp_region_noPanic ?_
  refine wp_region_held_drew (S := fun w' => Chg [] w5 w') (by kernel_rfl) ((Chg.refl _ _).drew) (fun hHeld => ?_)
  refine take_read (i := 0) (v := ?_) (by simp only [List.getElem?_toArray, List.getElem?_cons_zero]; rfl) (by kernel_rfl) (by kernel_rfl) (by kernel_rfl) (fun _ _ _ h => h) hHeld ?_ ?_
  rotate_left
  · intro w hSw
    have d0 := hSw.cell d0 (by simp)
    have d1 := hSw.cell d1 (by simp)
    have d2 := hSw.cell d2 (by simp)
    have d3 := hSw.cell d3 (by simp)
    have d4 := hSw.cell d4 (by simp)
    go_simp
    try with_reducible rfl
  try simp only [Act.put, List.setIfInBounds_toArray, List.set_cons_zero, List.set_cons_succ]
  refine take_read (i := 2) (v := ?_) (by simp only [List.getElem?_toArray, List.getElem?_cons_succ, List.getElem?_cons_zero]; rfl) (by kernel_rfl) (by kernel_rfl) (by kernel_rfl) (fun _ _ _ h => h) hHeld ?_ ?_
  rotate_left
  · intro w hSw
    go_simp
    try with_reducible rfl
  try simp only [Act.put, List.setIfInBounds_toArray, List.set_cons_zero, List.set_cons_succ]
  refine wpAnyH_ready (rs := [1, 3]) (by kernel_rfl) (by simp) ?_
  refine AllReadyH.cons rfl (fun K hK => ?_) (AllReadyH.cons rfl (fun K hK => ?_) AllReadyH.nil)
  · go_simp
    refine hK.out _ _ (show Chg [] w5 (w5.drew.alloc (.cells #[.int .u32 n1, .int .u32 n2, .int .u64 0, .int .u64 l.length, .int .i64 0] 52)) from ((Chg.refl _ _).drew).alloc _) (fun _ => ?_)
    clear hK hHeld K
    have hHeld := (show Chg [] w5 (w5.drew.alloc (.cells #[.int .u32 n1, .int .u32 n2, .int .u64 0, .int .u64 l.length, .int .i64 0] 52)) from ((Chg.refl _ _).drew).alloc _)
    try (unfold Act.put; simp only [List.setIfInBounds_toArray, List.set_cons_zero, List.set_cons_succ])
    refine wpAnyH_ready (rs := [3]) (by kernel_rfl) (by simp) ?_
    refine AllReadyH.cons rfl (fun K hK => ?_) AllReadyH.nil
    go_simp
    refine (Wrong_ok c _ _ _ _ (((Chg.refl [] w5).drew.alloc _).heap hq4 (by simp))).mono ?_
    rintro e wz ⟨rfl, rfl⟩
    refine hK.out _ _ (show Chg [] w5 (w5.drew.alloc (.cells #[.int .u32 n1, .int .u32 n2, .int .u64 0, .int .u64 l.length, .int .i64 0] 52)) from ((Chg.refl _ _).drew).alloc _) (fun _ => ?_)
    clear hK hHeld K
    have hHeld := (show Chg [] w5 (w5.drew.alloc (.cells #[.int .u32 n1, .int .u32 n2, .int .u64 0, .int .u64 l.length, .int .i64 0] 52)) from ((Chg.refl _ _).drew).alloc _)
    try (unfold Act.put; simp only [List.setIfInBounds_toArray, List.set_cons_zero, List.set_cons_succ])
    refine take_read (i := 4) (v := ?_) (by simp only [List.getElem?_toArray, List.getElem?_cons_succ, List.getElem?_cons_zero]; rfl) (by kernel_rfl) (by kernel_rfl) (by kernel_rfl) (fun _ _ _ h => h) hHeld ?_ ?_
    rotate_left
    · intro w hSw
      go_simp
      try with_reducible rfl
    try simp only [Act.put, List.setIfInBounds_toArray, List.set_cons_zero, List.set_cons_succ]
    refine take_read (i := 5) (v := ?_) (by simp only [List.getElem?_toArray, List.getElem?_cons_succ, List.getElem?_cons_zero]; rfl) (by kernel_rfl) (by kernel_rfl) (by kernel_rfl) (fun _ _ _ h => h) hHeld ?_ ?_
    rotate_left
    · intro w hSw
      go_simp
      try with_reducible rfl
    try simp only [Act.put, List.setIfInBounds_toArray, List.set_cons_zero, List.set_cons_succ]
    refine wpAnyH_done (by kernel_rfl) ?_ _
    refine NoPanic.normal ?_
    go_wp2
    go_ret2
    exact ⟨_, rfl, sl_one w5 ⟨n1, n2, 0, l.length, 0⟩ _, (HC5.out.alloc _).drew⟩
  · go_simp
    refine (Wrong_ok c _ _ _ _ (((Chg.refl [] w5).drew).heap hq4 (by simp))).mono ?_
    rintro e wz ⟨rfl, rfl⟩
    refine hK.out _ _ (show Chg [] w5 w5.drew from (Chg.refl _ _).drew) (fun _ => ?_)
    clear hK hHeld K
    have hHeld := (show Chg [] w5 w5.drew from (Chg.refl _ _).drew)
    try (unfold Act.put; simp only [List.setIfInBounds_toArray, List.set_cons_zero, List.set_cons_succ])
    refine wpAnyH_ready (rs := [1]) (by kernel_rfl) (by simp) ?_
    refine AllReadyH.cons rfl (fun K hK => ?_) AllReadyH.nil
    go_simp
    refine hK.out _ _ (show Chg [] w5 (w5.drew.alloc (.cells #[.int .u32 n1, .int .u32 n2, .int .u64 0, .int .u64 l.length, .int .i64 0] 52)) from ((Chg.refl _ _).drew).alloc _) (fun _ => ?_)
    clear hK hHeld K
    have hHeld := (show Chg [] w5 (w5.drew.alloc (.cells #[.int .u32 n1, .int .u32 n2, .int .u64 0, .int .u64 l.length, .int .i64 0] 52)) from ((Chg.refl _ _).drew).alloc _)
    try (unfold Act.put; simp only [List.setIfInBounds_toArray, List.set_cons_zero, List.set_cons_succ])
    refine take_read (i := 4) (v := ?_) (by simp only [List.getElem?_toArray, List.getElem?_cons_succ, List.getElem?_cons_zero]; rfl) (by kernel_rfl) (by kernel_rfl) (by kernel_rfl) (fun _ _ _ h => h) hHeld ?_ ?_
    rotate_left
    · intro w hSw
      go_simp
      try with_reducible rfl
    try simp only [Act.put, List.setIfInBounds_toArray, List.set_cons_zero, List.set_cons_succ]
    refine take_read (i := 5) (v := ?_) (by simp only [List.getElem?_toArray, List.getElem?_cons_succ, List.getElem?_cons_zero]; rfl) (by kernel_rfl) (by kernel_rfl) (by kernel_rfl) (fun _ _ _ h => h) hHeld ?_ ?_
    rotate_left
    · intro w hSw
      go_simp
      try with_reducible rfl
    try simp only [Act.put, List.setIfInBounds_toArray, List.set_cons_zero, List.set_cons_succ]
    refine wpAnyH_done (by kernel_rfl) ?_ _
    refine NoPanic.normal ?_
    go_wp2
    go_ret2
    exact ⟨_, rfl, sl_one w5 ⟨n1, n2, 0, l.length, 0⟩ _, (HC5.out.alloc _).drew⟩
end Go.Proofs.YtchkombikjcokaaDoor
