/- Lemmas, laid together: part 21 of 43. Conditions: none but each lemma's own. -/
import Derived.Test.YtgjlgamlmmjdpaaGreatDoorJ20
import Derived.Deep.CutRange
import Derived.Lib.IfaceEq
import Derived.RangeFuncNested
import Derived.RangeFuncBound
import Derived.RangeFuncCalls
import Derived.RangeFuncLeaves
import Derived.Shelf.Abstract
import Derived.Shelf.RegionOpen
import Derived.OwnWalkIn
import Derived.TacticsInMore
import Derived.LoopNIn
import Derived.LoopIn
/- command.read, Read, of bytes whose header is none. -/
namespace Go.Proofs.YtgjlgamlmmjdpaaGreatDoor
open Go.RowKit
set_option maxRecDepth 100000

set_option maxHeartbeats 2000000 in
theorem read_bad (l : List UInt8) (a : Option Addr) (cap : Nat) (w : World) (rd : Rd w (.slice a l.length cap) (bytesV l)) (hl : l.length ≤ 70368744177664) (h : headE l ≠ 0) :
    Calls Tryz.prog 24 #[.slice a l.length cap] w fun e w' => e = .returned (.tuple #[.agg #[.int .i64 0, .int .i64 0, .int .u32 0, .int .i64 0, .int .i64 0], .slice none 0 0, .iface 33 (.int .i64 (headE l))]) ∧ Chg [] w w' := by
  have HR := Lib.hid rd
  clear rd
  generalize hE : headE l = E at *
  have HE := Lib.hid hE
  clear hE
  go_enter Tryz.func24, Tryz.ntmps24
  go_wp2_with fail
  obtain ⟨w0, hw0⟩ : ∃ x, x = ((w.alloc (.cells #[.int .i64 0, .int .i64 0, .int .u32 0, .int .i64 0, .int .i64 0] 70)).alloc (.cells #[.slice none 0 0] 50)).alloc (.cells #[.nilIface] 72) := ⟨_, rfl⟩
  obtain ⟨r1, hr1⟩ : ∃ x, x = w.heap.size := ⟨_, rfl⟩
  obtain ⟨r2, hr2⟩ : ∃ x, x = w.heap.size + 1 := ⟨_, rfl⟩
  obtain ⟨r3, hr3⟩ : ∃ x, x = w.heap.size + 1 + 1 := ⟨_, rfl⟩
  have b1 : w0.heap[r1]? = some (.cells #[.int .i64 0, .int .i64 0, .int .u32 0, .int .i64 0, .int .i64 0] 70 (0, 0)) := by
    rw [hw0, hr1]; exact (((Chg.refl [] _).alloc _).alloc _).heap (heap_alloc_eq _ _) (by simp)
  have b2 : w0.heap[r2]? = some (.cells #[.slice none 0 0] 50 (0, 0)) := by
    rw [hw0, hr2, show w.heap.size + 1 = (w.alloc (.cells #[.int .i64 0, .int .i64 0, .int .u32 0, .int .i64 0, .int .i64 0] 70)).heap.size by simp]; exact ((Chg.refl [] _).alloc _).heap (heap_alloc_eq _ _) (by simp)
  have b3 : w0.heap[r3]? = some (.cells #[.nilIface] 72 (0, 0)) := by
    rw [hw0, hr3, show w.heap.size + 1 + 1 = ((w.alloc (.cells #[.int .i64 0, .int .i64 0, .int .u32 0, .int .i64 0, .int .i64 0] 70)).alloc (.cells #[.slice none 0 0] 50)).heap.size by simp]; exact heap_alloc_eq _ _
  have hs0 : w0.heap.size = r3 + 1 := by rw [hw0, hr3]; simp
  have C0 : Hid (Chg [] w w0) := Lib.hid (by rw [hw0]; exact (((Chg.refl [] _).alloc _).alloc _).alloc _)
  rw [← hw0, ← hr3, ← hr2, ← hr1]
  have n12 : ¬ r1 = r2 := by omega
  have n13 : ¬ r1 = r3 := by omega
  have n23 : ¬ r2 = r3 := by omega
  have n21 : ¬ r2 = r1 := by omega
  have n31 : ¬ r3 = r1 := by omega
  have n32 : ¬ r3 = r2 := by omega
  have LW : Hid (w.heap.size ≤ r1 ∧ r1 ≤ r2 ∧ r2 ≤ r3 ∧ r3 < w0.heap.size) := Lib.hid (by omega)
  clear hw0 hr1 hr2 hr3 hs0
  refine (New_cur _ l false w0 (HR.out.frame C0.out (fun _ _ hm => by cases hm)) (by omega)).mono ?_
  rintro e w1 ⟨c, rfl, hx, hcur, hch⟩
  have C1 := Lib.hid (hch)
  have HCU := Lib.hid (hcur)
  clear hch hcur
  go_wp2_with fail
  refine (head_any l c w1 hl HCU.out).mono ?_
  rintro e w2 ⟨s, k, f, m, z, err, rfl, hor, hch⟩
  rw [HE.out] at hor
  obtain rfl : err = .iface 33 (.int .i64 E) := by
    rcases hor with h0 | h0
    · exact absurd h0.1 h
    · exact h0.2
  replace b1 := hch.heap (C1.out.heap b1 (by simp)) (by have := LW.out; simp; omega)
  replace b2 := hch.heap (C1.out.heap b2 (by simp)) (by have := LW.out; simp; omega)
  replace b3 := hch.heap (C1.out.heap b3 (by simp)) (by have := LW.out; simp; omega)
  have C2 : Hid (Chg [] w w2) := Lib.hid ((C0.out.then C1.out).new hch (by have := LW.out; omega))
  clear hor hch
  go_upto_region 4 with fail
  obtain ⟨w3, hw3⟩ : ∃ x, x = w2.alloc (.cells #[.int .i64 s, .int .i64 k, .int .u32 f, .int .i64 m, .int .i64 z] 70) := ⟨_, rfl⟩
  rw [← hw3]
  have C3 : Hid (Chg [] w2 w3) := Lib.hid (by rw [hw3]; exact (Chg.refl _ _).alloc _)
  replace b1 := C3.out.heap b1 (by simp)
  replace b2 := C3.out.heap b2 (by simp)
  replace b3 := C3.out.heap b3 (by simp)
  generalize w2.heap.size = r9
  clear hw3
  have f0 := frozen_of_heap b1 0
  have f1 := frozen_of_heap b1 1
  have f2 := frozen_of_heap b1 2
  have f3 := frozen_of_heap b1 3
  have f4 := frozen_of_heap b1 4
  have d0 := cell_of_heap b1 0
  have d1 := cell_of_heap b1 1
  have d2 := cell_of_heap b1 2
  have d3 := cell_of_heap b1 3
  have d4 := cell_of_heap b1 4
  have f5 := frozen_of_heap b2 0
  have d5 := cell_of_heap b2 0
  have f6 := frozen_of_heap b3 0
  have d6 := cell_of_heap b3 0
  simp at d0 d1 d2 d3 d4 d5 d6
  have B1 := Lib.hid (b1)
  have B2 := Lib.hid (b2)
  have B3 := Lib.hid (b3)
  clear b1 b2 b3 hx
  go_wp2
  obtain ⟨wH, hwH⟩ : ∃ x, x = ((setH w3 r1 0 0 0 0 0).setCell ⟨r2, 0, none⟩ (.slice none 0 0)).setCell ⟨r3, 0, none⟩ (.iface 33 (.int .i64 E)) := ⟨_, rfl⟩
  change bodyPost _ _ _ _ _ (((setH w3 r1 0 0 0 0 0).setCell ⟨r2, 0, none⟩ (.slice none 0 0)).setCell ⟨r3, 0, none⟩ (.iface 33 (.int .i64 E)))
  rw [← hwH]
  have q1 : wH.heap[r1]? = some (.cells #[.int .i64 0, .int .i64 0, .int .u32 0, .int .i64 0, .int .i64 0] 70 (0, 0)) := by
    rw [hwH, heap_setCell_ne (by simpa using n13), heap_setCell_ne (by simpa using n12)]
    exact setH_heap 0 0 0 0 0 B1.out
  have q2 : wH.heap[r2]? = some (.cells #[.slice none 0 0] 50 (0, 0)) := by
    rw [hwH, heap_setCell_ne (by simpa using n23)]
    exact heap_setCell ((setH_chg w3 r1 0 0 0 0 0).heap B2.out (by simpa using n21)) 0 _
  have q3 : wH.heap[r3]? = some (.cells #[.iface 33 (.int .i64 E)] 72 (0, 0)) := by
    rw [hwH]
    refine heap_setCell (c := #[.nilIface]) ?_ 0 _
    rw [heap_setCell_ne (by simpa using n32)]
    exact (setH_chg w3 r1 0 0 0 0 0).heap B3.out (by simpa using n31)
  have CH : Hid (Chg [] w wH) := by
    refine Lib.hid ?_
    have l := LW.out
    rw [hwH]
    exact (((C2.out.then C3.out).new (setH_chg w3 r1 0 0 0 0 0) l.1).setCell _ _ (.inr (by simp; omega))).setCell _ _ (.inr (by simp; omega))
  have g0 := cell_of_heap q1 0
  have g1 := cell_of_heap q1 1
  have g2 := cell_of_heap q1 2
  have g3 := cell_of_heap q1 3
  have g4 := cell_of_heap q1 4
  have g5 := cell_of_heap q2 0
  have g6 := cell_of_heap q3 0
  simp at g0 g1 g2 g3 g4 g5 g6
  clear q1 q2 q3 hwH f0 f1 f2 f3 f4 f5 f6 d0 d1 d2 d3 d4 d5 d6
  refine bodyPost_ret (v := .tuple #[.agg #[.int .i64 0, .int .i64 0, .int .u32 0, .int .i64 0, .int .i64 0], .slice none 0 0, .iface 33 (.int .i64 E)]) (by simp [results, Tryz.results24, go_sem, g0, g1, g2, g3, g4, g5, g6]) rfl ?_
  exact ⟨rfl, CH.out⟩

set_option maxHeartbeats 2000000 in
theorem Read_bad (l : List UInt8) (a : Option Addr) (cap : Nat) (w : World) (hg : Env w) (rd : Rd w (.slice a l.length cap) (bytesV l)) (hl : l.length ≤ 70368744177664) (h : headE l ≠ 0) :
    Calls Tryz.prog 22 #[.slice a l.length cap] w fun e w' => e = .returned (.tuple #[.agg #[.int .i64 0, .int .i64 0, .int .u32 0], .slice none 0 0, .int .i64 (headE l)]) ∧ Chg [] w w' := by
  have HRB := Lib.hid (fun w rd => read_bad l a cap w rd hl h)
  have HR := Lib.hid rd
  have HG := Lib.hid hg
  clear rd hg
  generalize headE l = E at *
  go_enter Tryz.func22, Tryz.ntmps22
  go_wp2_with fail
  obtain ⟨w0, hw0⟩ : ∃ x, x = w.alloc (.cells #[.int .i64 0, .int .i64 0, .int .u32 0] 49) := ⟨_, rfl⟩
  obtain ⟨r, hr⟩ : ∃ x, x = w.heap.size := ⟨_, rfl⟩
  have b0 : w0.heap[r]? = some (.cells #[.int .i64 0, .int .i64 0, .int .u32 0] 49 (0, 0)) := by rw [hw0, hr]; exact heap_alloc_eq _ _
  have C0 : Hid (Chg [] w w0) := Lib.hid (by rw [hw0]; exact (Chg.refl _ _).alloc _)
  have LR : Hid (w.heap.size ≤ r ∧ r < w0.heap.size) := Lib.hid (by rw [hw0, hr]; simp)
  rw [← hw0, ← hr]
  clear hw0 hr
  refine (HRB.out w0 (HR.out.frame C0.out (fun _ _ hm => by cases hm))).mono ?_
  rintro e w1 ⟨rfl, hch⟩
  have C1 := Lib.hid (C0.out.then hch)
  replace b0 := hch.heap b0 (by simp)
  clear hch
  go_upto_region 2 with fail
  obtain ⟨w2, hw2⟩ : ∃ x, x = w1.alloc (.cells #[.int .i64 0, .int .i64 0, .int .u32 0, .int .i64 0, .int .i64 0] 70) := ⟨_, rfl⟩
  obtain ⟨q, hq⟩ : ∃ x, x = w1.heap.size := ⟨_, rfl⟩
  have b2 : w2.heap[q]? = some (.cells #[.int .i64 0, .int .i64 0, .int .u32 0, .int .i64 0, .int .i64 0] 70 (0, 0)) := by rw [hw2, hq]; exact heap_alloc_eq _ _
  have C2 : Hid (Chg [] w1 w2) := Lib.hid (by rw [hw2]; exact (Chg.refl _ _).alloc _)
  replace b0 := C2.out.heap b0 (by simp)
  rw [← hw2, ← hq]
  clear hw2 hq
  have d0 := cell_of_heap b2 0
  have d1 := cell_of_heap b2 1
  have d2 := cell_of_heap b2 2
  simp at d0 d1 d2
  refine wp_region_noPanic ?_
  refine wp_region_held_drew (S := fun w' => Chg [r] w2 w') (by kernel_rfl) ((Chg.refl _ _).drew) (fun hHeld => ?_)
  have hqr : q ∉ [r] := by
    intro hm
    rw [List.mem_singleton] at hm
    subst hm
    rw [b0] at b2
    simp at b2
  refine take_read (i := 0) (v := ?_) (by simp only [List.getElem?_toArray, List.getElem?_cons_zero]; rfl) (by kernel_rfl) (by kernel_rfl) (by kernel_rfl) (fun _ _ _ h => h) hHeld ?_ ?_
  rotate_left
  · intro w hSw
    go_simp
    try with_reducible rfl
  try simp only [Act.put, List.setIfInBounds_toArray, List.set_cons_zero, List.set_cons_succ]
  refine take_read (i := 1) (v := ?_) (by simp only [List.getElem?_toArray, List.getElem?_cons_succ, List.getElem?_cons_zero]; rfl) (by kernel_rfl) (by kernel_rfl) (by kernel_rfl) (fun _ _ _ h => h) hHeld ?_ ?_
  rotate_left
  · intro w hSw
    (have d0 := hSw.cell d0 hqr; have d1 := hSw.cell d1 hqr; have d2 := hSw.cell d2 hqr)
    go_simp
    try with_reducible rfl
  try simp only [Act.put, List.setIfInBounds_toArray, List.set_cons_zero, List.set_cons_succ]
  refine take_read (i := 2) (v := ?_) (by simp only [List.getElem?_toArray, List.getElem?_cons_succ, List.getElem?_cons_zero]; rfl) (by kernel_rfl) (by kernel_rfl) (by kernel_rfl) (fun _ _ _ h => h) hHeld ?_ ?_
  rotate_left
  · intro w hSw
    skip
    go_simp
    try with_reducible rfl
  try simp only [Act.put, List.setIfInBounds_toArray, List.set_cons_zero, List.set_cons_succ]
  refine take_read (i := 3) (v := ?_) (by simp only [List.getElem?_toArray, List.getElem?_cons_succ, List.getElem?_cons_zero]; rfl) (by kernel_rfl) (by kernel_rfl) (by kernel_rfl) (fun _ _ _ h => h) hHeld ?_ ?_
  rotate_left
  · intro w hSw
    skip
    go_simp
    try with_reducible rfl
  try simp only [Act.put, List.setIfInBounds_toArray, List.set_cons_zero, List.set_cons_succ]
  clear d0 d1 d2
  refine wpAnyH_ready (rs := [4]) (by kernel_rfl) (by simp) ?_
  refine AllReadyH.cons rfl (fun K hK => ?_) AllReadyH.nil
  go_simp
  refine (Code_errno E w2.drew (HG.out.frame (C1.out.then (C2.out.drew)) (by simp))).mono ?_
  rintro e w3 ⟨rfl, hch⟩
  have D3 : Hid (Chg [] w2 w3) := Lib.hid (((Chg.refl [] w2).drew).then hch)
  clear hch
  refine hK.out _ _ (show Chg [r] w2 w3 from D3.out.add) (fun _ => ?_)
  clear hK hHeld K
  have hHeld := (show Chg [r] w2 w3 from D3.out.add)
  try (unfold Act.put; simp only [List.setIfInBounds_toArray, List.set_cons_zero, List.set_cons_succ])
  replace b0 := D3.out.heap b0 (by simp)
  have f0 := frozen_of_heap b0 0
  have f1 := frozen_of_heap b0 1
  have f2 := frozen_of_heap b0 2
  have c0 := cell_of_heap b0 0
  have c1 := cell_of_heap b0 1
  have c2 := cell_of_heap b0 2
  simp at c0 c1 c2
  refine wpAnyH_ready (rs := [5]) (by kernel_rfl) (by simp) ?_
  refine AllReadyH.cons rfl (fun K hK => ?_) AllReadyH.nil
  go_simp
  obtain ⟨wH, hwH⟩ : ∃ x, x = ((w3.setCell ⟨r, 0, none⟩ (.int .i64 0)).setCell ⟨r, 1, none⟩ (.int .i64 0)).setCell ⟨r, 2, none⟩ (.int .u32 0) := ⟨_, rfl⟩
  rw [← hwH]
  have bH : wH.heap[r]? = some (.cells #[.int .i64 0, .int .i64 0, .int .u32 0] 49 (0, 0)) := by rw [hwH]; exact heap_setCell (heap_setCell (heap_setCell b0 0 _) 1 _) 2 _
  have DH : Hid (Chg [r] w2 wH) := Lib.hid (by rw [hwH]; exact (((D3.out.add).setCell _ _ (.inl (by simp))).setCell _ _ (.inl (by simp))).setCell _ _ (.inl (by simp)))
  clear hwH f0 f1 f2 c0 c1 c2
  refine hK.out _ _ DH.out (fun _ => ?_)
  clear hK hHeld K
  have hHeld := DH.out
  try (unfold Act.put; simp only [List.setIfInBounds_toArray, List.set_cons_zero, List.set_cons_succ])
  refine take_read (i := 6) (v := ?_) (by simp only [List.getElem?_toArray, List.getElem?_cons_succ, List.getElem?_cons_zero]; rfl) (by kernel_rfl) (by kernel_rfl) (by kernel_rfl) (fun _ _ _ h => h) hHeld ?_ ?_
  rotate_left
  · intro w hSw
    skip
    go_simp
    try with_reducible rfl
  try simp only [Act.put, List.setIfInBounds_toArray, List.set_cons_zero, List.set_cons_succ]
  refine take_read (i := 7) (v := ?_) (by simp only [List.getElem?_toArray, List.getElem?_cons_succ, List.getElem?_cons_zero]; rfl) (by kernel_rfl) (by kernel_rfl) (by kernel_rfl) (fun _ _ _ h => h) hHeld ?_ ?_
  rotate_left
  · intro w hSw
    skip
    go_simp
    try with_reducible rfl
  try simp only [Act.put, List.setIfInBounds_toArray, List.set_cons_zero, List.set_cons_succ]
  refine wpAnyH_done (by kernel_rfl) ?_ _
  refine NoPanic.normal ?_
  have g0 := cell_of_heap bH 0
  have g1 := cell_of_heap bH 1
  have g2 := cell_of_heap bH 2
  simp at g0 g1 g2
  clear b0 b2 hHeld bH
  go_wp2
  refine bodyPost_ret (v := .tuple #[.agg #[.int .i64 0, .int .i64 0, .int .u32 0], .slice none 0 0, .int .i64 E]) (by simp [results, Tryz.results22, go_sem, g0, g1, g2]) rfl ?_
  exact ⟨rfl, (C1.out.then C2.out).new DH.out LR.out.1⟩
end Go.Proofs.YtgjlgamlmmjdpaaGreatDoor
/- What commands stand in bytes (plain); errors.Is of an api.Errno and of none; the walk over commands (command.commands's closure). -/
namespace Go.Proofs.YtgjlgamlmmjdpaaGreatDoor
open Go.RowKit Go.Extern.Stop Go.Stop Go.Extern
set_option maxRecDepth 100000

/-- Where the k-th command stands, and how many bytes are left there. -/
def stC (l : List UInt8) (z0 : Nat) : Nat → Nat × Nat
  | 0 => (32, z0)
  | k + 1 => ((stC l z0 k).1 + nL l ((stC l z0 k).1 + 4), (stC l z0 k).2 - nL l ((stC l z0 k).1 + 4))
def szC (l : List UInt8) (z0 k : Nat) : Nat := nL l ((stC l z0 k).1 + 4)
def okC (l : List UInt8) (z0 k : Nat) : Bool := decide (8 ≤ (stC l z0 k).2) && decide (8 ≤ szC l z0 k) && decide (szC l z0 k % 8 = 0) && decide (szC l z0 k ≤ (stC l z0 k).2)
def allC (l : List UInt8) (z0 k : Nat) : Bool := (List.range k).all (okC l z0)
def cmdC (l : List UInt8) (z0 k : Nat) : Cmd := (nL l (stC l z0 k).1, (l.drop (stC l z0 k).1).take (szC l z0 k))
def cmdsC (l : List UInt8) (z0 k : Nat) : List Cmd := (List.range k).map (cmdC l z0)
theorem allC_succ (l : List UInt8) (z0 k : Nat) : allC l z0 (k + 1) = (allC l z0 k && okC l z0 k) := by simp [allC, List.range_succ]
theorem cmdsC_succ (l : List UInt8) (z0 k : Nat) : cmdsC l z0 (k + 1) = cmdsC l z0 k ++ [cmdC l z0 k] := by simp [cmdsC, List.range_succ]
theorem cmdsC_len (l : List UInt8) (z0 k : Nat) : (cmdsC l z0 k).length = k := by simp [cmdsC]
theorem okC_eq (l : List UInt8) (z0 k : Nat) : okC l z0 k = true ↔ 8 ≤ (stC l z0 k).2 ∧ 8 ≤ szC l z0 k ∧ szC l z0 k % 8 = 0 ∧ szC l z0 k ≤ (stC l z0 k).2 := by simp [okC, and_assoc]
theorem allC_mono {l : List UInt8} {z0 k n : Nat} (h : allC l z0 n = true) (hk : k ≤ n) : allC l z0 k = true := by
  unfold allC at *
  rw [List.all_eq_true] at *
  intro x hx
  exact h x (List.mem_range.2 (Nat.lt_of_lt_of_le (List.mem_range.1 hx) hk))
theorem stC_sum (l : List UInt8) (z0 : Nat) : ∀ k, allC l z0 k = true → (stC l z0 k).1 + (stC l z0 k).2 = 32 + z0
  | 0, _ => rfl
  | k + 1, h => by
    rw [allC_succ, Bool.and_eq_true] at h
    have ih := stC_sum l z0 k h.1
    have := ((okC_eq l z0 k).1 h.2).2.2.2
    unfold szC at this
    show (stC l z0 k).1 + nL l ((stC l z0 k).1 + 4) + ((stC l z0 k).2 - nL l ((stC l z0 k).1 + 4)) = 32 + z0
    omega
theorem cmdC_len (l : List UInt8) (z0 k : Nat) (hz : 32 + z0 ≤ l.length) (h : allC l z0 (k + 1) = true) : (cmdC l z0 k).2.length = szC l z0 k := by
  rw [allC_succ, Bool.and_eq_true] at h
  have h1 := stC_sum l z0 k h.1
  have h2 := ((okC_eq l z0 k).1 h.2).2.2.2
  show ((l.drop _).take _).length = _
  rw [List.length_take, List.length_drop]
  omega

theorem Tryz.comparableE (w : World) : (callFunc 130 #[.agg #[.pointer (some ⟨2, 33, none⟩)]]).run Tryz.prog w = .ok (.value (.bool true)) w := by kernel_rfl
theorem Tryz.methodComparable (h : Value) (w : World) : (Go.method 324 170 (.agg #[h]) "Comparable").run Tryz.prog w = .ok (130, .agg #[h]) w := by kernel_rfl
theorem is_errno (n : Int) (w : World) :
    Calls Tryz.prog 49 #[.iface 33 (.int .i64 n), .iface 33 (.int .i64 n)] w fun e w' => e = .returned (.bool true) ∧ w = w' := by
  have hTO := @run_callFunc_extern Tryz.prog 77 _ ReflectliteType.typeOf Tryz.func77 (by kernel_rfl) (by kernel_rfl) (by kernel_rfl) (by kernel_rfl)
  have c1 := Tryz.typeOfE
  have c2 := Tryz.comparableE
  have c3 := Tryz.methodComparable
  have q2 : ∀ W : World, (binOp .eql 72 (.iface 33 (.int .i64 n)) (.iface 33 (.int .i64 n))).run Tryz.prog W = .ok (.bool true) W := fun W => by
    rw [Lib.run_eql_iface_int W n n Tryz.underlying72 (by kernel_rfl) Tryz.underlying33]; simp
  go_enter Tryz.func49, Tryz.ntmps49
  go_wp2
  refine wp_loop_rounds 1 ?_
  rw [rounds_succ]
  go_wp2
  go_ret
  exact ⟨rfl, rfl⟩
theorem is_none (n : Int) (w : World) :
    Calls Tryz.prog 49 #[.nilIface, .iface 33 (.int .i64 n)] w fun e w' => e = .returned (.bool false) ∧ w = w' := by
  have q1 : ∀ W : World, (binOp .eql 72 .nilIface (.iface 33 (.int .i64 n))).run Tryz.prog W = .ok (.bool false) W := fun W => by kernel_rfl
  go_enter Tryz.func49, Tryz.ntmps49
  go_wp2
  go_ret
  exact ⟨rfl, rfl⟩

/-- What a round leaves as it was: the cursor, the walk's own variables. -/
def ItKeep (c bm bl bc : Nat) (A B : World) : Prop := ∃ S, Chg S A B ∧ ∀ i ∈ S, c < i ∧ i ≠ bm ∧ i ≠ bl ∧ i ≠ bc
structure ItS (w : World) (c bm bl bc : Nat) (l : List UInt8) (many p z : Nat) : Prop where
  cur : CurB w c ⟨l, p, false, false⟩
  m : w.heap[bm]? = some (.cells #[.int .i64 (many : Int)] 3 (0, 0))
  l : w.heap[bl]? = some (.cells #[.int .i64 (z : Int)] 3 (0, 0))
  c : w.heap[bc]? = some (.cells #[.pointer (some ⟨c, 0, none⟩)] 89 (0, 0))
theorem ItS.keep {w w' : World} {c bm bl bc many p z : Nat} {l : List UInt8} (h : ItS w c bm bl bc l many p z) (k : ItKeep c bm bl bc w w') : ItS w' c bm bl bc l many p z := by
  obtain ⟨S, hc, hS⟩ := k
  exact ⟨h.cur.far hc (fun i hi => (hS i hi).1), hc.heap h.m (fun hm => (hS _ hm).2.1 rfl), hc.heap h.l (fun hm => (hS _ hm).2.2.1 rfl), hc.heap h.c (fun hm => (hS _ hm).2.2.2 rfl)⟩
theorem ItS.step {w w' : World} {c bm bl bc many p z p' : Nat} {l : List UInt8} (h : ItS w c bm bl bc l many p z) (hd : c < bm ∧ c < bl ∧ c < bc) (k : Chg [c] w w') (hc : CurB w' c ⟨l, p', false, false⟩) : ItS w' c bm bl bc l many p' z :=
  ⟨hc, k.heap h.m (by simp; omega), k.heap h.l (by simp; omega), k.heap h.c (by simp; omega)⟩

set_option maxHeartbeats 20000000 in
theorem iter_any (many z0 : Nat) (l : List UInt8) (c bm bl bc : Nat) (hd : c < bm ∧ c < bl ∧ c < bc ∧ bm ≠ bl ∧ bl ≠ bc ∧ bm ≠ bc) (lr : Nat) (J : Nat → World → Prop) (Jx : World → Prop)
    (hJ : ∀ k A B, J k A → Chg [c, bl] A B → J k B)
    (hY : ∀ k A0 A v, J k A0 → Chg [c, bl] A0 A → k < many → allC l z0 (k + 1) = true → Buf A A0.heap.size v (cmdC l z0 k).2 →
      YieldAt Fence.wide 8 Tryz.prog lr #[.agg #[.int .u32 ((cmdC l z0 k).1 : Nat), v], .nilIface] A fun e B => e = .returned (.bool true) ∧ J (k + 1) B ∧ ItKeep c bm bl bc A B)
    (hE : ∀ k A, J k A → k < many → allC l z0 (k + 1) = false →
      YieldAt Fence.wide 8 Tryz.prog lr #[.agg #[.int .u32 0, .slice none 0 0], .iface 33 (.int .i64 7)] A fun e B => e = .returned (.bool false) ∧ Jx B)
    (hlen : 32 + z0 ≤ l.length) (hmany : many < 4294967296) (hll : l.length ≤ 70368744177664) (w : World) (h0 : ItS w c bm bl bc l many 32 z0) (hj0 : J 0 w) :
    Calls Tryz.prog 74 #[.func (.yield lr) #[] #[], .pointer (some ⟨bm, 0, none⟩), .pointer (some ⟨bl, 0, none⟩), .pointer (some ⟨bc, 0, none⟩)] w fun e w' =>
      (∃ v, e = .returned v) ∧ ((allC l z0 many = true ∧ J many w') ∨ (allC l z0 many = false ∧ Jx w')) := by
  have hm := cell_of_heap h0.m 0
  simp at hm
  have H0 := Lib.hid h0
  have Hj0 := Lib.hid hj0
  have HJ := Lib.hid hJ
  have HY := Lib.hid hY
  have HE := Lib.hid hE
  have Hd := Lib.hid hd
  clear h0 hj0 hJ hY hE hd
  go_enter Tryz.func74, Tryz.ntmps74
  go_wp2_with fail
  go_loopw [9] (fun s9 wr => ∃ k : Nat, k ≤ many ∧ s9 = .int .i64 (k : Int) ∧ allC l z0 k = true ∧ J k wr ∧ ItS wr c bm bl bc l many (stC l z0 k).1 (stC l z0 k).2) (fun s9 _ => many - (intOf s9).toNat)
  case atStart => exact ⟨0, Nat.zero_le _, rfl, rfl, Hj0.out, H0.out⟩
  case round =>
    obtain ⟨k, hk, rfl, hall, hj, his⟩ := hrel
    have Hall := Lib.hid hall
    have Hj := Lib.hid hj
    have His := Lib.hid his
    clear hall hj his
    clear hm
    by_cases hlt : k < many
    · obtain ⟨p, hp⟩ : ∃ p, p = (stC l z0 k).1 := ⟨_, rfl⟩
      obtain ⟨z, hz⟩ : ∃ z, z = (stC l z0 k).2 := ⟨_, rfl⟩
      have hsum := stC_sum l z0 k Hall.out
      rw [← hp, ← hz] at hsum
      replace His := Hid.out His
      rw [← hp, ← hz] at His
      have Hp := Lib.hid hp
      have Hz := Lib.hid hz
      clear hp hz
      replace His := Lib.hid His
      have hza := His.out.l
      have x0 := cell_of_heap hza 0
      have f0 := frozen_of_heap hza 0
      have hzb := His.out.c
      have x1 := cell_of_heap hzb 0
      simp at x0 x1
      clear hza hzb
      by_cases h8 : z < 8
      · have HNO : Hid (allC l z0 (k + 1) = false) := by
          refine Lib.hid ?_
          rw [allC_succ, Bool.and_eq_false_iff]
          refine .inr ?_
          cases hb : okC l z0 k with
          | false => rfl
          | true => have := ((okC_eq l z0 k).1 hb).1; rw [← Hz.out] at this; omega
        obtain ⟨fn, tmps, assign, body, hy, hR⟩ := HE.out k wr Hj.out hlt HNO.out
        go_upto_region 3 with fail
        refine (wpIn_wide (n := 9)).1 ?_
        gi_wp2
        refine hR.mono ?_
        rintro e w9 ⟨rfl, hx⟩
        have HX := Lib.hid (hx)
        clear hx
        gi_wp2
        go_wp2
        refine bodyPost_ret (results_none rfl _ _ _) rfl ?_
        have HN : Hid (allC l z0 many = false) := by
          refine Lib.hid ?_
          cases hb : allC l z0 many with
          | false => rfl
          | true => exact absurd (allC_mono hb (show k + 1 ≤ many by omega)) (by rw [HNO.out]; decide)
        exact ⟨⟨_, rfl⟩, .inr ⟨HN.out, HX.out⟩⟩
      · have ht1 := takeL4 l p (by omega)
        have ht2 := takeL4 l (p + 4) (by omega)
        obtain ⟨n1, hn1⟩ : ∃ n, n = nL l p := ⟨_, rfl⟩
        obtain ⟨n2, hn2⟩ : ∃ n, n = nL l (p + 4) := ⟨_, rfl⟩
        have hn1l := nL_lt l p
        have hn2l := nL_lt l (p + 4)
        rw [← hn1] at hn1l
        rw [← hn2] at hn2l
        have HNM1 : Hid (∀ W : World, CurB W c ⟨l, p, false, false⟩ → Calls Tryz.prog 44 #[.pointer (some ⟨c, 0, none⟩), .int .i64 4] W fun e w' => e = .returned (.int .u64 (n1 : Nat)) ∧ CurB w' c ⟨l, p + 4, false, false⟩ ∧ Chg [c] W w') := by
          refine Lib.hid ?_
          intro W hW
          have := Number_cur c ⟨l, p, false, false⟩ 4 W hW
          rw [ht1.1, ht1.2] at this
          rw [hn1]; exact this
        have HNM2 : Hid (∀ W : World, CurB W c ⟨l, p + 4, false, false⟩ → Calls Tryz.prog 44 #[.pointer (some ⟨c, 0, none⟩), .int .i64 4] W fun e w' => e = .returned (.int .u64 (n2 : Nat)) ∧ CurB w' c ⟨l, p + 8, false, false⟩ ∧ Chg [c] W w') := by
          refine Lib.hid ?_
          intro W hW
          have := Number_cur c ⟨l, p + 4, false, false⟩ 4 W hW
          rw [ht2.1, ht2.2] at this
          rw [hn2]; exact this
        have Hn1 := Lib.hid hn1
        have Hn2 := Lib.hid hn2
        clear hn1 hn2
        replace hsum := Lib.hid hsum
        clear ht1 ht2
        go_wp2_with fail
        refine (At_cur c _ wr His.out.cur).mono ?_
        rintro e w2 ⟨rfl, rfl⟩
        go_wp2_with fail
        refine wp_region_noPanic ?_
        refine wp_region_held_drew (S := fun w' => Chg [c] wr w') (by kernel_rfl) ((Chg.refl _ _).drew) (fun hHeld => ?_)
        refine take_read (i := 0) (v := ?_) (by simp only [List.getElem?_toArray, List.getElem?_cons_zero]; rfl) (by kernel_rfl) (by kernel_rfl) (by kernel_rfl) (fun _ _ _ h => h) hHeld ?_ ?_
        rotate_left
        · intro w hSw
          have x1 := hSw.cell x1 (by have := Hd.out; simp; omega)
          go_simp
          try with_reducible rfl
        try simp only [Act.put, List.setIfInBounds_toArray, List.set_cons_zero, List.set_cons_succ]
        refine take_read (i := 2) (v := ?_) (by simp only [List.getElem?_toArray, List.getElem?_cons_succ, List.getElem?_cons_zero]; rfl) (by kernel_rfl) (by kernel_rfl) (by kernel_rfl) (fun _ _ _ h => h) hHeld ?_ ?_
        rotate_left
        · intro w hSw
          have x1 := hSw.cell x1 (by have := Hd.out; simp; omega)
          go_simp
          try with_reducible rfl
        try simp only [Act.put, List.setIfInBounds_toArray, List.set_cons_zero, List.set_cons_succ]
        refine wpAnyH_ready (rs := [1]) (by kernel_rfl) (by simp) ?_
        refine AllReadyH.cons rfl (fun K hK => ?_) AllReadyH.nil
        go_simp
        refine (HNM1.out wr.drew (His.out.cur.frame ((Chg.refl _ _).drew))).mono ?_
        rintro e w3 ⟨rfl, hc3, h3⟩
        have HC3 := Lib.hid (hc3)
        have H3 := Lib.hid (h3)
        clear hc3 h3
        refine hK.out _ _ (show Chg [c] wr w3 from ((Chg.refl _ _).drew).same H3.out) (fun hHeld2 => ?_)
        clear hK hHeld K
        have hHeld := hHeld2
        clear hHeld2
        try (unfold Act.put; simp only [List.setIfInBounds_toArray, List.set_cons_zero, List.set_cons_succ])
        refine wpAnyH_ready (rs := [3]) (by kernel_rfl) (by simp) ?_
        refine AllReadyH.cons rfl (fun K hK => ?_) AllReadyH.nil
        go_simp
        refine (HNM2.out w3 HC3.out).mono ?_
        rintro e w4 ⟨rfl, hc4, h4⟩
        have HC4 := Lib.hid (hc4)
        have H4 := Lib.hid (h4)
        clear hc4 h4
        refine hK.out _ _ (show Chg [c] wr w4 from (((Chg.refl _ _).drew).same H3.out).same H4.out) (fun hHeld2 => ?_)
        clear hK hHeld K
        have hHeld := hHeld2
        clear hHeld2
        try (unfold Act.put; simp only [List.setIfInBounds_toArray, List.set_cons_zero, List.set_cons_succ])
        refine take_read (i := 4) (v := ?_) (by simp only [List.getElem?_toArray, List.getElem?_cons_succ, List.getElem?_cons_zero]; rfl) (by kernel_rfl) (by kernel_rfl) (by kernel_rfl) (fun _ _ _ h => h) hHeld ?_ ?_
        rotate_left
        · intro w hSw
          go_simp
          try with_reducible rfl
        try simp only [Act.put, List.setIfInBounds_toArray, List.set_cons_zero, List.set_cons_succ]
        refine take_read (i := 5) (v := ?_) (by simp only [List.getElem?_toArray, List.getElem?_cons_succ, List.getElem?_cons_zero]; rfl) (by kernel_rfl) (by kernel_rfl) (by kernel_rfl) (fun _ _ _ h => h) hHeld ?_ ?_
        rotate_left
        · intro w hSw
          go_simp
          try with_reducible rfl
        try simp only [Act.put, List.setIfInBounds_toArray, List.set_cons_zero, List.set_cons_succ]
        refine take_read (i := 6) (v := ?_) (by simp only [List.getElem?_toArray, List.getElem?_cons_succ, List.getElem?_cons_zero]; rfl) (by kernel_rfl) (by kernel_rfl) (by kernel_rfl) (fun _ _ _ h => h) hHeld ?_ ?_
        rotate_left
        · intro w hSw
          go_simp
          try with_reducible rfl
        try simp only [Act.put, List.setIfInBounds_toArray, List.set_cons_zero, List.set_cons_succ]
        refine wpAnyH_done (by kernel_rfl) ?_ _
        refine NoPanic.normal ?_
        have IS4 : Hid (ItS w4 c bm bl bc l many (p + 8) z) := Lib.hid (His.out.step ⟨Hd.out.1, Hd.out.2.1, Hd.out.2.2.1⟩ ((((Chg.refl _ _).drew).same H3.out).same H4.out) HC4.out)
        have J4 : Hid (J k w4) := Lib.hid (HJ.out k _ _ Hj.out (((((Chg.refl _ _).drew).same H3.out).same H4.out).mono (fun i hm _ => by simp at hm ⊢; exact .inl hm)))
        clear x0 x1 f0
        have hza := IS4.out.l
        have x0 := cell_of_heap hza 0
        have f0 := frozen_of_heap hza 0
        have hzb := IS4.out.c
        have x1 := cell_of_heap hzb 0
        simp at x0 x1
        clear hza hzb
        have hw2 : IntKind.i64.wrap (n2 : Int) = (n2 : Int) := by rw [IntKind.wrap_i64]; omega
        rw [hw2]
        have HSZ : Hid (szC l z0 k = n2) := Lib.hid (by unfold szC; rw [← Hp.out, Hn2.out])
        clear hw2
        by_cases ha : n2 < 8
        · have HNO : Hid (allC l z0 (k + 1) = false) := by
            refine Lib.hid ?_
            rw [allC_succ, Bool.and_eq_false_iff]
            refine .inr ?_
            cases hb : okC l z0 k with
            | false => rfl
            | true => have := ((okC_eq l z0 k).1 hb).2.1; rw [HSZ.out] at this; omega
          obtain ⟨fn, tmps, assign, body, hy, hR⟩ := HE.out k w4 J4.out hlt HNO.out
          go_upto_region 7 with fail
          refine (wpIn_wide (n := 9)).1 ?_
          gi_wp2
          refine hR.mono ?_
          rintro e w9 ⟨rfl, hx⟩
          have HX := Lib.hid (hx)
          clear hx
          gi_wp2
          go_wp2
          refine bodyPost_ret (results_none rfl _ _ _) rfl ?_
          have HN : Hid (allC l z0 many = false) := by
            refine Lib.hid ?_
            cases hb : allC l z0 many with
            | false => rfl
            | true => exact absurd (allC_mono hb (show k + 1 ≤ many by omega)) (by rw [HNO.out]; decide)
          exact ⟨⟨_, rfl⟩, .inr ⟨HN.out, HX.out⟩⟩
        by_cases hb8 : n2 % 8 = 0
        case neg =>
          have HNO : Hid (allC l z0 (k + 1) = false) := by
            refine Lib.hid ?_
            rw [allC_succ, Bool.and_eq_false_iff]
            refine .inr ?_
            cases hb : okC l z0 k with
            | false => rfl
            | true => have := ((okC_eq l z0 k).1 hb).2.2.1; rw [HSZ.out] at this; omega
          have ht : ((n2 : Int) % 8 != 0) = true := by simp; omega
          obtain ⟨fn, tmps, assign, body, hy, hR⟩ := HE.out k w4 J4.out hlt HNO.out
          go_upto_region 7 with fail
          refine (wpIn_wide (n := 9)).1 ?_
          gi_wp2
          refine hR.mono ?_
          rintro e w9 ⟨rfl, hx⟩
          have HX := Lib.hid (hx)
          clear hx
          gi_wp2
          go_wp2
          refine bodyPost_ret (results_none rfl _ _ _) rfl ?_
          have HN : Hid (allC l z0 many = false) := by
            refine Lib.hid ?_
            cases hb : allC l z0 many with
            | false => rfl
            | true => exact absurd (allC_mono hb (show k + 1 ≤ many by omega)) (by rw [HNO.out]; decide)
          exact ⟨⟨_, rfl⟩, .inr ⟨HN.out, HX.out⟩⟩
        have ht : ((n2 : Int) % 8 != 0) = false := by simp; omega
        by_cases hcz : z < n2
        · have HNO : Hid (allC l z0 (k + 1) = false) := by
            refine Lib.hid ?_
            rw [allC_succ, Bool.and_eq_false_iff]
            refine .inr ?_
            cases hb : okC l z0 k with
            | false => rfl
            | true => have := ((okC_eq l z0 k).1 hb).2.2.2; rw [HSZ.out, ← Hz.out] at this; omega
          clear hb8
          obtain ⟨fn, tmps, assign, body, hy, hR⟩ := HE.out k w4 J4.out hlt HNO.out
          go_upto_region 7 with fail
          refine (wpIn_wide (n := 9)).1 ?_
          gi_wp2
          refine hR.mono ?_
          rintro e w9 ⟨rfl, hx⟩
          have HX := Lib.hid (hx)
          clear hx
          gi_wp2
          go_wp2
          refine bodyPost_ret (results_none rfl _ _ _) rfl ?_
          have HN : Hid (allC l z0 many = false) := by
            refine Lib.hid ?_
            cases hb : allC l z0 many with
            | false => rfl
            | true => exact absurd (allC_mono hb (show k + 1 ≤ many by omega)) (by rw [HNO.out]; decide)
          exact ⟨⟨_, rfl⟩, .inr ⟨HN.out, HX.out⟩⟩
        · have HOK : Hid (allC l z0 (k + 1) = true) := by
            refine Lib.hid ?_
            rw [allC_succ, Hall.out, Bool.true_and, okC_eq, HSZ.out, ← Hz.out]
            exact ⟨by omega, by omega, hb8, by omega⟩
          clear hb8
          go_wp2_with fail
          refine (Seek_cur c _ (p : Int) w4 IS4.out.cur).mono ?_
          rintro e w5 ⟨rfl, hc5, h5⟩
          rw [show seekS ⟨l, p + 8, false, false⟩ (p : Int) = ⟨l, p, false, false⟩ from by unfold seekS; rw [if_pos ⟨by omega, by show (p : Int) ≤ (l.length : Int); have := hsum.out; omega⟩]; simp] at hc5
          have IS5 : Hid (ItS w5 c bm bl bc l many p z) := Lib.hid (IS4.out.step ⟨Hd.out.1, Hd.out.2.1, Hd.out.2.2.1⟩ h5 hc5)
          have J5 : Hid (J k w5) := Lib.hid (HJ.out k _ _ J4.out (h5.mono (fun i hm _ => by simp at hm ⊢; exact .inl hm)))
          clear hc5 h5
          clear x0 x1 f0
          have hza := IS5.out.l
          have x0 := cell_of_heap hza 0
          have f0 := frozen_of_heap hza 0
          have hzb := IS5.out.c
          have x1 := cell_of_heap hzb 0
          simp at x0 x1
          clear hza hzb
          go_upto_region 10 with fail
          obtain ⟨z6, hz6⟩ : ∃ z6, z6 = z - n2 := ⟨_, rfl⟩
          have hwz : wrap64 ((z : Int) - n2) = (z6 : Int) := by have := hsum.out; unfold wrap64; omega
          rw [hwz]
          obtain ⟨w6, hw6⟩ : ∃ x, x = w5.setCell ⟨bl, 0, none⟩ (.int .i64 (z6 : Int)) := ⟨_, rfl⟩
          rw [← hw6]
          have h56 : Chg [bl] w5 w6 := by rw [hw6]; exact (Chg.refl _ _).setCell _ _ (.inl (by simp))
          have J6 : Hid (J k w6) := Lib.hid (HJ.out k _ _ J5.out (h56.mono (fun i hm _ => by simp at hm ⊢; exact .inr hm)))
          have hdd := Hd.out
          have IS6 : Hid (ItS w6 c bm bl bc l many p z6) := by
            refine Lib.hid ?_
            refine ⟨?_, h56.heap IS5.out.m (by simp; omega), ?_, h56.heap IS5.out.c (by simp; omega)⟩
            · exact IS5.out.cur.far h56 (fun i hi => by simp at hi; omega)
            · rw [hw6]; exact heap_setCell IS5.out.l 0 _
          clear hw6 h56 hdd hwz
          clear x0 x1 f0
          have hza := IS6.out.l
          have x0 := cell_of_heap hza 0
          have f0 := frozen_of_heap hza 0
          have hzb := IS6.out.c
          have x1 := cell_of_heap hzb 0
          simp at x0 x1
          clear hza hzb
          have hu32 : IntKind.u32.wrap (n1 : Int) = (n1 : Int) := by rw [IntKind.wrap_u32]; omega
          have HTK : Hid (takeL ⟨l, p, false, false⟩ (n2 : Int) = (cmdC l z0 k).2 ∧ takeS ⟨l, p, false, false⟩ (n2 : Int) = ⟨l, p + n2, false, false⟩) := by
            refine Lib.hid ?_
            have hc : canTake ⟨l, p, false, false⟩ (n2 : Int) = true := canTake_of rfl (by omega) (by show (n2 : Int) ≤ (l.length : Int) - p; have := hsum.out; omega)
            constructor
            · unfold takeL cmdC; rw [hc, HSZ.out, ← Hp.out]; rfl
            · unfold takeS; rw [hc]; rfl
          have HCM : Hid ((cmdC l z0 k).1 = n1) := Lib.hid (by unfold cmdC; rw [← Hp.out, Hn1.out])
          refine (wpIn_wide (n := 9)).1 ?_
          gi_wp2_with fail
          refine ⟨trivial, ?_⟩
          refine (callsIn_wide.2 (Bytes_cur c ⟨l, p, false, false⟩ (n2 : Int) w6 IS6.out.cur)).mono ?_
          rintro e w7 ⟨v, rfl, hc7, hb7, h7⟩
          rw [HTK.out.2] at hc7
          rw [HTK.out.1] at hb7
          obtain ⟨aV, cV, hvf⟩ := hb7.form
          generalize (cmdC l z0 k).2.length = nV at hvf
          subst hvf
          have IS7 : Hid (ItS w7 c bm bl bc l many (p + n2) z6) := Lib.hid (IS6.out.step ⟨Hd.out.1, Hd.out.2.1, Hd.out.2.2.1⟩ h7 hc7)
          obtain ⟨fn, tmps, assign, body, hy, hR⟩ := HY.out k w6 w7 _ J6.out (h7.mono (fun i hm _ => by simp at hm ⊢; exact .inl hm)) hlt HOK.out hb7
          rw [HCM.out] at hy
          clear hc7 hb7 h7
          clear x0 x1 f0
          gi_wp2_with fail
          refine hR.mono ?_
          rintro e w8 ⟨rfl, hj8, hk8⟩
          have IS8 := Lib.hid (IS7.out.keep hk8)
          have J8 := Lib.hid (hj8)
          clear hj8 hk8
          gi_wp2
          go_wp2
          go_roundw
          case rel =>
            refine ⟨k + 1, hlt, by go_num, HOK.out, J8.out, ?_⟩
            have e1 : (stC l z0 (k + 1)).1 = p + n2 := by
              show (stC l z0 k).1 + szC l z0 k = _
              rw [HSZ.out, ← Hp.out]
            have e2 : (stC l z0 (k + 1)).2 = z6 := by
              show (stC l z0 k).2 - szC l z0 k = _
              rw [HSZ.out, ← Hz.out, hz6]
            rw [e1, e2]
            exact IS8.out
          case measure => simp [intOf]; omega
    · obtain rfl : k = many := by omega
      go_wp2
      go_end0
      exact ⟨⟨_, rfl⟩, .inl ⟨Hall.out, Hj.out⟩⟩
end Go.Proofs.YtgjlgamlmmjdpaaGreatDoor
