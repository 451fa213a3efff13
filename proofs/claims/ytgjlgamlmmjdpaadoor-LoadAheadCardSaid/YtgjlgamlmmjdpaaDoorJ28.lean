/- Lemmas, laid together: part 28 of 38. Conditions: none but each lemma's own. -/
import Derived.Test.YtgjlgamlmmjdpaaDoorJ27
import Derived.Deep.CutRange
/- command.read, Read, of bytes whose header is none. -/
namespace Go.Proofs.YtgjlgamlmmjdpaaDoor
open Go.RowKit
set_option maxRecDepth 100000

set_option maxHeartbeats 2000000 in
theorem read_bad (l : List UInt8) (a : Option Addr) (cap : Nat) (w : World) (rd : Rd w (.slice a l.length cap) (bytesV l)) (hl : l.length ≤ 70368744177664) (h : headE l ≠ 0) :
    Calls Tryd.prog 23 #[.slice a l.length cap] w fun e w' => e = .returned (.tuple #[.agg #[.int .i64 0, .int .i64 0, .int .u32 0, .int .i64 0, .int .i64 0], .slice none 0 0, .iface 38 (.int .i64 (headE l))]) ∧ Chg [] w w' := by
  have HR := Lib.hid rd
  clear rd
  generalize hE : headE l = E at *
  have HE := Lib.hid hE
  clear hE
  go_enter Tryd.func23, Tryd.ntmps23
  go_wp2_with fail
  obtain ⟨w0, hw0⟩ : ∃ x, x = ((w.alloc (.cells #[.int .i64 0, .int .i64 0, .int .u32 0, .int .i64 0, .int .i64 0] 82)).alloc (.cells #[.slice none 0 0] 28)).alloc (.cells #[.nilIface] 84) := ⟨_, rfl⟩
  obtain ⟨r1, hr1⟩ : ∃ x, x = w.heap.size := ⟨_, rfl⟩
  obtain ⟨r2, hr2⟩ : ∃ x, x = w.heap.size + 1 := ⟨_, rfl⟩
  obtain ⟨r3, hr3⟩ : ∃ x, x = w.heap.size + 1 + 1 := ⟨_, rfl⟩
  have b1 : w0.heap[r1]? = some (.cells #[.int .i64 0, .int .i64 0, .int .u32 0, .int .i64 0, .int .i64 0] 82 (0, 0)) := by
    rw [hw0, hr1]; exact (((Chg.refl [] _).alloc _).alloc _).heap (heap_alloc_eq _ _) (by simp)
  have b2 : w0.heap[r2]? = some (.cells #[.slice none 0 0] 28 (0, 0)) := by
    rw [hw0, hr2, show w.heap.size + 1 = (w.alloc (.cells #[.int .i64 0, .int .i64 0, .int .u32 0, .int .i64 0, .int .i64 0] 82)).heap.size by simp]; exact ((Chg.refl [] _).alloc _).heap (heap_alloc_eq _ _) (by simp)
  have b3 : w0.heap[r3]? = some (.cells #[.nilIface] 84 (0, 0)) := by
    rw [hw0, hr3, show w.heap.size + 1 + 1 = ((w.alloc (.cells #[.int .i64 0, .int .i64 0, .int .u32 0, .int .i64 0, .int .i64 0] 82)).alloc (.cells #[.slice none 0 0] 28)).heap.size by simp]; exact heap_alloc_eq _ _
  have hs0 : w0.heap.size = r3 + 1 := by rw [hw0, hr3]; simp
  have C0 : Hid (Chg [] w w0) := Lib.hid (by rw [hw0]; exact (((Chg.refl [] _).alloc _).alloc _).alloc _)
  rw [← hw0, ← hr3, ← hr2, ← hr1]
  have n12 : ¬ r1 = r2 := by omega
  have n13 : ¬ r1 = r3 := by omega
  have n23 : ¬ r2 = r3 := by omega
  have n21 : ¬ r2 = r1 := by omega
  have n31 : ¬ r3 = r1 := by omega
  have n32 : ¬ r3 = r2 := by omega
  have LW : Hid (w.heap.size ≤ r1 ∧ r1 ≤ r2 ∧ r2 ≤ r3 ∧ r3 < w0.heap.size) := Lib.hid (by omega)
  clear hw0 hr1 hr2 hr3 hs0
  refine (New_cur _ l false w0 (HR.out.frame C0.out (fun _ _ hm => by cases hm)) (by omega)).mono ?_
  rintro e w1 ⟨c, rfl, hx, hcur, hch⟩
  have C1 := Lib.hid (hch)
  have HCU := Lib.hid (hcur)
  clear hch hcur
  go_wp2_with fail
  refine (head_any l c w1 hl HCU.out).mono ?_
  rintro e w2 ⟨s, k, f, m, z, err, rfl, hor, hch⟩
  rw [HE.out] at hor
  obtain rfl : err = .iface 38 (.int .i64 E) := by
    rcases hor with h0 | h0
    · exact absurd h0.1 h
    · exact h0.2
  replace b1 := hch.heap (C1.out.heap b1 (by simp)) (by have := LW.out; simp; omega)
  replace b2 := hch.heap (C1.out.heap b2 (by simp)) (by have := LW.out; simp; omega)
  replace b3 := hch.heap (C1.out.heap b3 (by simp)) (by have := LW.out; simp; omega)
  have C2 : Hid (Chg [] w w2) := Lib.hid ((C0.out.then C1.out).new hch (by have := LW.out; omega))
  clear hor hch
  go_upto_region 4 with fail
  obtain ⟨w3, hw3⟩ : ∃ x, x = w2.alloc (.cells #[.int .i64 s, .int .i64 k, .int .u32 f, .int .i64 m, .int .i64 z] 82) := ⟨_, rfl⟩
  rw [← hw3]
  have C3 : Hid (Chg [] w2 w3) := Lib.hid (by rw [hw3]; exact (Chg.refl _ _).alloc _)
  replace b1 := C3.out.heap b1 (by simp)
  replace b2 := C3.out.heap b2 (by simp)
  replace b3 := C3.out.heap b3 (by simp)
  generalize w2.heap.size = r9
  clear hw3
  have f0 := frozen_of_heap b1 0
  have f1 := frozen_of_heap b1 1
  have f2 := frozen_of_heap b1 2
  have f3 := frozen_of_heap b1 3
  have f4 := frozen_of_heap b1 4
  have d0 := cell_of_heap b1 0
  have d1 := cell_of_heap b1 1
  have d2 := cell_of_heap b1 2
  have d3 := cell_of_heap b1 3
  have d4 := cell_of_heap b1 4
  have f5 := frozen_of_heap b2 0
  have d5 := cell_of_heap b2 0
  have f6 := frozen_of_heap b3 0
  have d6 := cell_of_heap b3 0
  simp at d0 d1 d2 d3 d4 d5 d6
  have B1 := Lib.hid (b1)
  have B2 := Lib.hid (b2)
  have B3 := Lib.hid (b3)
  clear b1 b2 b3 hx
  go_wp2
  obtain ⟨wH, hwH⟩ : ∃ x, x = ((setH w3 r1 0 0 0 0 0).setCell ⟨r2, 0, none⟩ (.slice none 0 0)).setCell ⟨r3, 0, none⟩ (.iface 38 (.int .i64 E)) := ⟨_, rfl⟩
  change bodyPost _ _ _ _ _ (((setH w3 r1 0 0 0 0 0).setCell ⟨r2, 0, none⟩ (.slice none 0 0)).setCell ⟨r3, 0, none⟩ (.iface 38 (.int .i64 E)))
  rw [← hwH]
  have q1 : wH.heap[r1]? = some (.cells #[.int .i64 0, .int .i64 0, .int .u32 0, .int .i64 0, .int .i64 0] 82 (0, 0)) := by
    rw [hwH, heap_setCell_ne (by simpa using n13), heap_setCell_ne (by simpa using n12)]
    exact setH_heap 0 0 0 0 0 B1.out
  have q2 : wH.heap[r2]? = some (.cells #[.slice none 0 0] 28 (0, 0)) := by
    rw [hwH, heap_setCell_ne (by simpa using n23)]
    exact heap_setCell ((setH_chg w3 r1 0 0 0 0 0).heap B2.out (by simpa using n21)) 0 _
  have q3 : wH.heap[r3]? = some (.cells #[.iface 38 (.int .i64 E)] 84 (0, 0)) := by
    rw [hwH]
    refine heap_setCell (c := #[.nilIface]) ?_ 0 _
    rw [heap_setCell_ne (by simpa using n32)]
    exact (setH_chg w3 r1 0 0 0 0 0).heap B3.out (by simpa using n31)
  have CH : Hid (Chg [] w wH) := by
    refine Lib.hid ?_
    have l := LW.out
    rw [hwH]
    exact (((C2.out.then C3.out).new (setH_chg w3 r1 0 0 0 0 0) l.1).setCell _ _ (.inr (by simp; omega))).setCell _ _ (.inr (by simp; omega))
  have g0 := cell_of_heap q1 0
  have g1 := cell_of_heap q1 1
  have g2 := cell_of_heap q1 2
  have g3 := cell_of_heap q1 3
  have g4 := cell_of_heap q1 4
  have g5 := cell_of_heap q2 0
  have g6 := cell_of_heap q3 0
  simp at g0 g1 g2 g3 g4 g5 g6
  clear q1 q2 q3 hwH f0 f1 f2 f3 f4 f5 f6 d0 d1 d2 d3 d4 d5 d6
  refine bodyPost_ret (v := .tuple #[.agg #[.int .i64 0, .int .i64 0, .int .u32 0, .int .i64 0, .int .i64 0], .slice none 0 0, .iface 38 (.int .i64 E)]) (by simp [results, Tryd.results23, go_sem, g0, g1, g2, g3, g4, g5, g6]) rfl ?_
  exact ⟨rfl, CH.out⟩

set_option maxHeartbeats 2000000 in
theorem Read_bad (l : List UInt8) (a : Option Addr) (cap : Nat) (w : World) (hg : Env w) (rd : Rd w (.slice a l.length cap) (bytesV l)) (hl : l.length ≤ 70368744177664) (h : headE l ≠ 0) :
    Calls Tryd.prog 13 #[.slice a l.length cap] w fun e w' => e = .returned (.tuple #[.agg #[.int .i64 0, .int .i64 0, .int .u32 0], .slice none 0 0, .int .i64 (headE l)]) ∧ Chg [] w w' := by
  have HRB := Lib.hid (fun w rd => read_bad l a cap w rd hl h)
  have HR := Lib.hid rd
  have HG := Lib.hid hg
  clear rd hg
  generalize headE l = E at *
  go_enter Tryd.func13, Tryd.ntmps13
  go_wp2_with fail
  obtain ⟨w0, hw0⟩ : ∃ x, x = w.alloc (.cells #[.int .i64 0, .int .i64 0, .int .u32 0] 27) := ⟨_, rfl⟩
  obtain ⟨r, hr⟩ : ∃ x, x = w.heap.size := ⟨_, rfl⟩
  have b0 : w0.heap[r]? = some (.cells #[.int .i64 0, .int .i64 0, .int .u32 0] 27 (0, 0)) := by rw [hw0, hr]; exact heap_alloc_eq _ _
  have C0 : Hid (Chg [] w w0) := Lib.hid (by rw [hw0]; exact (Chg.refl _ _).alloc _)
  have LR : Hid (w.heap.size ≤ r ∧ r < w0.heap.size) := Lib.hid (by rw [hw0, hr]; simp)
  rw [← hw0, ← hr]
  clear hw0 hr
  refine (HRB.out w0 (HR.out.frame C0.out (fun _ _ hm => by cases hm))).mono ?_
  rintro e w1 ⟨rfl, hch⟩
  have C1 := Lib.hid (C0.out.then hch)
  replace b0 := hch.heap b0 (by simp)
  clear hch
  go_upto_region 2 with fail
  obtain ⟨w2, hw2⟩ : ∃ x, x = w1.alloc (.cells #[.int .i64 0, .int .i64 0, .int .u32 0, .int .i64 0, .int .i64 0] 82) := ⟨_, rfl⟩
  obtain ⟨q, hq⟩ : ∃ x, x = w1.heap.size := ⟨_, rfl⟩
  have b2 : w2.heap[q]? = some (.cells #[.int .i64 0, .int .i64 0, .int .u32 0, .int .i64 0, .int .i64 0] 82 (0, 0)) := by rw [hw2, hq]; exact heap_alloc_eq _ _
  have C2 : Hid (Chg [] w1 w2) := Lib.hid (by rw [hw2]; exact (Chg.refl _ _).alloc _)
  replace b0 := C2.out.heap b0 (by simp)
  rw [← hw2, ← hq]
  clear hw2 hq
  have d0 := cell_of_heap b2 0
  have d1 := cell_of_heap b2 1
  have d2 := cell_of_heap b2 2
  simp at d0 d1 d2
  refine wp_region_noPanic ?_
  refine wp_region_held_drew (S := fun w' => Chg [r] w2 w') (by kernel_rfl) ((Chg.refl _ _).drew) (fun hHeld => ?_)
  have hqr : q ∉ [r] := by
    intro hm
    rw [List.mem_singleton] at hm
    subst hm
    rw [b0] at b2
    simp at b2
  refine take_read (i := 0) (v := ?_) (by simp only [List.getElem?_toArray, List.getElem?_cons_zero]; rfl) (by kernel_rfl) (by kernel_rfl) (by kernel_rfl) (fun _ _ _ h => h) hHeld ?_ ?_
  rotate_left
  · intro w hSw
    go_simp
    try with_reducible rfl
  try simp only [Act.put, List.setIfInBounds_toArray, List.set_cons_zero, List.set_cons_succ]
  refine take_read (i := 1) (v := ?_) (by simp only [List.getElem?_toArray, List.getElem?_cons_succ, List.getElem?_cons_zero]; rfl) (by kernel_rfl) (by kernel_rfl) (by kernel_rfl) (fun _ _ _ h => h) hHeld ?_ ?_
  rotate_left
  · intro w hSw
    (have d0 := hSw.cell d0 hqr; have d1 := hSw.cell d1 hqr; have d2 := hSw.cell d2 hqr)
    go_simp
    try with_reducible rfl
  try simp only [Act.put, List.setIfInBounds_toArray, List.set_cons_zero, List.set_cons_succ]
  refine take_read (i := 2) (v := ?_) (by simp only [List.getElem?_toArray, List.getElem?_cons_succ, List.getElem?_cons_zero]; rfl) (by kernel_rfl) (by kernel_rfl) (by kernel_rfl) (fun _ _ _ h => h) hHeld ?_ ?_
  rotate_left
  · intro w hSw
    skip
    go_simp
    try with_reducible rfl
  try simp only [Act.put, List.setIfInBounds_toArray, List.set_cons_zero, List.set_cons_succ]
  refine take_read (i := 3) (v := ?_) (by simp only [List.getElem?_toArray, List.getElem?_cons_succ, List.getElem?_cons_zero]; rfl) (by kernel_rfl) (by kernel_rfl) (by kernel_rfl) (fun _ _ _ h => h) hHeld ?_ ?_
  rotate_left
  · intro w hSw
    skip
    go_simp
    try with_reducible rfl
  try simp only [Act.put, List.setIfInBounds_toArray, List.set_cons_zero, List.set_cons_succ]
  clear d0 d1 d2
  refine wpAnyH_ready (rs := [4]) (by kernel_rfl) (by simp) ?_
  refine AllReadyH.cons rfl (fun K hK => ?_) AllReadyH.nil
  go_simp
  refine (Code_errno E w2.drew (HG.out.frame (C1.out.then (C2.out.drew)) (by simp))).mono ?_
  rintro e w3 ⟨rfl, hch⟩
  have D3 : Hid (Chg [] w2 w3) := Lib.hid (((Chg.refl [] w2).drew).then hch)
  clear hch
  refine hK.out _ _ (show Chg [r] w2 w3 from D3.out.add) (fun _ => ?_)
  clear hK hHeld K
  have hHeld := (show Chg [r] w2 w3 from D3.out.add)
  try (unfold Act.put; simp only [List.setIfInBounds_toArray, List.set_cons_zero, List.set_cons_succ])
  replace b0 := D3.out.heap b0 (by simp)
  have f0 := frozen_of_heap b0 0
  have f1 := frozen_of_heap b0 1
  have f2 := frozen_of_heap b0 2
  have c0 := cell_of_heap b0 0
  have c1 := cell_of_heap b0 1
  have c2 := cell_of_heap b0 2
  simp at c0 c1 c2
  refine wpAnyH_ready (rs := [5]) (by kernel_rfl) (by simp) ?_
  refine AllReadyH.cons rfl (fun K hK => ?_) AllReadyH.nil
  go_simp
  obtain ⟨wH, hwH⟩ : ∃ x, x = ((w3.setCell ⟨r, 0, none⟩ (.int .i64 0)).setCell ⟨r, 1, none⟩ (.int .i64 0)).setCell ⟨r, 2, none⟩ (.int .u32 0) := ⟨_, rfl⟩
  rw [← hwH]
  have bH : wH.heap[r]? = some (.cells #[.int .i64 0, .int .i64 0, .int .u32 0] 27 (0, 0)) := by rw [hwH]; exact heap_setCell (heap_setCell (heap_setCell b0 0 _) 1 _) 2 _
  have DH : Hid (Chg [r] w2 wH) := Lib.hid (by rw [hwH]; exact (((D3.out.add).setCell _ _ (.inl (by simp))).setCell _ _ (.inl (by simp))).setCell _ _ (.inl (by simp)))
  clear hwH f0 f1 f2 c0 c1 c2
  refine hK.out _ _ DH.out (fun _ => ?_)
  clear hK hHeld K
  have hHeld := DH.out
  try (unfold Act.put; simp only [List.setIfInBounds_toArray, List.set_cons_zero, List.set_cons_succ])
  refine take_read (i := 6) (v := ?_) (by simp only [List.getElem?_toArray, List.getElem?_cons_succ, List.getElem?_cons_zero]; rfl) (by kernel_rfl) (by kernel_rfl) (by kernel_rfl) (fun _ _ _ h => h) hHeld ?_ ?_
  rotate_left
  · intro w hSw
    skip
    go_simp
    try with_reducible rfl
  try simp only [Act.put, List.setIfInBounds_toArray, List.set_cons_zero, List.set_cons_succ]
  refine take_read (i := 7) (v := ?_) (by simp only [List.getElem?_toArray, List.getElem?_cons_succ, List.getElem?_cons_zero]; rfl) (by kernel_rfl) (by kernel_rfl) (by kernel_rfl) (fun _ _ _ h => h) hHeld ?_ ?_
  rotate_left
  · intro w hSw
    skip
    go_simp
    try with_reducible rfl
  try simp only [Act.put, List.setIfInBounds_toArray, List.set_cons_zero, List.set_cons_succ]
  refine wpAnyH_done (by kernel_rfl) ?_ _
  refine NoPanic.normal ?_
  have g0 := cell_of_heap bH 0
  have g1 := cell_of_heap bH 1
  have g2 := cell_of_heap bH 2
  simp at g0 g1 g2
  clear b0 b2 hHeld bH
  go_wp2
  refine bodyPost_ret (v := .tuple #[.agg #[.int .i64 0, .int .i64 0, .int .u32 0], .slice none 0 0, .int .i64 E]) (by simp [results, Tryd.results13, go_sem, g0, g1, g2]) rfl ?_
  exact ⟨rfl, (C1.out.then C2.out).new DH.out LR.out.1⟩
end Go.Proofs.YtgjlgamlmmjdpaaDoor
