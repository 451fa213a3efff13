/- clevislaw03.known. -/
import Derived.Test.YtchkombikjcokaaDoorSlice
import Derived.Lib.SlBytesConst
namespace Go.Proofs.YtchkombikjcokaaDoor
open Go.RowKit
set_option maxRecDepth 100000

theorem Rd_heap {w : World} {b : Nat} {xs : List Value} {T : TypeId} {fz : Nat × Nat} (h : w.heap[b]? = some (.cells xs.toArray T fz)) (hm : xs.length ≤ maxLen) : Rd w (.slice (some ⟨b, 0, none⟩) xs.length xs.length) xs :=
  ⟨_, _, _, rfl, rfl, Nat.le_refl _, hm, fun _ => ⟨b, 0, rfl, fun j hj => by rw [Nat.zero_add, cell_of_heap h]; simp⟩⟩

def thin0 : List UInt8 := [207, 250, 237, 254, 12, 0, 0, 1, 0, 0, 0, 0]
def thin2 : List UInt8 := [207, 250, 237, 254, 12, 0, 0, 1, 2, 0, 0, 0]
def none0 : List UInt8 := [202, 254, 186, 190, 0, 0, 0, 0]

theorem Slice_thin0 (arch : Int) (h : arch = 1 ∨ arch = 2) (w : World) (b : Nat) (hg : Env w) {fz : Nat × Nat} (hb : w.heap[b]? = some (.cells (bytesV thin0).toArray 5 fz)) :
    Calls Tryd.prog 19 #[.slice (some ⟨b, 0, none⟩) 12 12, .int .i64 arch] w fun e w' => e = .returned (.tuple #[.agg #[.int .u64 0, .int .u64 12], .int .i64 0]) ∧ Chg [] w w' := by
  have hr := Rd_heap hb (by unfold maxLen; decide)
  have := Slice_of arch h (.slice (some ⟨b, 0, none⟩) 12 12) w [⟨16777228, 0, 0, 12, 0⟩] (by intro s hs; simp at hs; subst hs; unfold SL.ok; decide) (by decide)
    (fun w1 hc => Slices_thin thin0 _ _ w1 (hg.frame hc (by simp)) (hr.frame hc (fun _ _ hm => by cases hm)) (by decide) (by decide) (by decide))
  rcases h with rfl | rfl
  · exact this
  · exact this
theorem Slice_thin2 (w : World) (b : Nat) (hg : Env w) {fz : Nat × Nat} (hb : w.heap[b]? = some (.cells (bytesV thin2).toArray 5 fz)) :
    Calls Tryd.prog 19 #[.slice (some ⟨b, 0, none⟩) 12 12, .int .i64 2] w fun e w' => e = .returned (.tuple #[.agg #[.int .u64 0, .int .u64 12], .int .i64 0]) ∧ Chg [] w w' := by
  have hr := Rd_heap hb (by unfold maxLen; decide)
  exact Slice_of 2 (.inr rfl) (.slice (some ⟨b, 0, none⟩) 12 12) w [⟨16777228, 2, 0, 12, 0⟩] (by intro s hs; simp at hs; subst hs; unfold SL.ok; decide) (by decide)
    (fun w1 hc => Slices_thin thin2 _ _ w1 (hg.frame hc (by simp)) (hr.frame hc (fun _ _ hm => by cases hm)) (by decide) (by decide) (by decide))
theorem Slice_thin1 (w : World) (b : Nat) (hg : Env w) {fz : Nat × Nat} (hb : w.heap[b]? = some (.cells (bytesV thin2).toArray 5 fz)) :
    Calls Tryd.prog 19 #[.slice (some ⟨b, 0, none⟩) 12 12, .int .i64 1] w fun e w' => e = .returned (.tuple #[.agg #[.int .u64 0, .int .u64 0], .int .i64 6]) ∧ Chg [] w w' := by
  have hr := Rd_heap hb (by unfold maxLen; decide)
  exact Slice_of 1 (.inl rfl) (.slice (some ⟨b, 0, none⟩) 12 12) w [⟨16777228, 2, 0, 12, 0⟩] (by intro s hs; simp at hs; subst hs; unfold SL.ok; decide) (by decide)
    (fun w1 hc => Slices_thin thin2 _ _ w1 (hg.frame hc (by simp)) (hr.frame hc (fun _ _ hm => by cases hm)) (by decide) (by decide) (by decide))
theorem Slice_none0 (w : World) (b : Nat) (hg : Env w) {fz : Nat × Nat} (hb : w.heap[b]? = some (.cells (bytesV none0).toArray 5 fz)) :
    Calls Tryd.prog 19 #[.slice (some ⟨b, 0, none⟩) 8 8, .int .i64 1] w fun e w' => e = .returned (.tuple #[.agg #[.int .u64 0, .int .u64 0], .int .i64 6]) ∧ Chg [] w w' := by
  have hr := Rd_heap hb (by unfold maxLen; decide)
  exact Slice_of 1 (.inl rfl) (.slice (some ⟨b, 0, none⟩) 8 8) w [] (by intro s hs; cases hs) (by decide)
    (fun w1 hc => (Slices_zero none0 _ _ w1 (hg.frame hc (by simp)) (hr.frame hc (fun _ _ hm => by cases hm)) (by decide) (by decide) (by decide) (by decide)).mono
      fun e w2 ⟨he, h2⟩ => ⟨_, he, ⟨none, 0, 0, rfl, rfl, Nat.le_refl _, Nat.zero_le _, fun h => absurd rfl h⟩, h2⟩)

theorem known3 (w : World) (hg : Env w) : Calls Tryd.prog 16 #[] w fun e w' => e = .returned (.bool true) ∧ Chg [] w w' := by
  have kc := fun (w : World) (C : Array Value) (n c : Nat) => Lib.run_convert_bytes_const (P := Tryd.prog) w 24 5 C n c Tryd.underlying24 Tryd.underlying5
  have HG := Lib.hid hg
  clear hg
  go_enter Tryd.func16, Tryd.ntmps16
  go_wp2_with fail
  obtain ⟨A, hA⟩ : ∃ q, q = w.heap.size := ⟨_, rfl⟩
  obtain ⟨w0, hw0⟩ : ∃ q, q = w.alloc (.cells #[.int .u8 207, .int .u8 250, .int .u8 237, .int .u8 254, .int .u8 12, .int .u8 0, .int .u8 0, .int .u8 1, .int .u8 0, .int .u8 0, .int .u8 0, .int .u8 0] 5 (12, 13)) := ⟨_, rfl⟩
  have BA : Hid (w0.heap[A]? = some (.cells (bytesV thin0).toArray 5 (12, 13))) := Lib.hid (by rw [hw0, hA]; exact heap_alloc_eq _ _)
  have C0 : Hid (Chg [] w w0) := Lib.hid (by rw [hw0]; exact (Chg.refl _ _).alloc _)
  have SA : Hid (A = w.heap.size) := Lib.hid (hA)
  rw [← hA, ← hw0]
  clear hA hw0
  refine (Slice_thin0 1 (.inl rfl) w0 A (HG.out.frame C0.out (by simp)) BA.out).mono ?_
  rintro e w1 ⟨rfl, hch⟩
  have C1 := Lib.hid (hch)
  clear hch
  go_wp2_with fail
  obtain ⟨X, hX⟩ : ∃ q, q = w1.heap.size := ⟨_, rfl⟩
  obtain ⟨v1, hv1⟩ : ∃ q, q = w1.alloc (.cells #[.int .u64 0, .int .u64 12] 44) := ⟨_, rfl⟩
  have BX : Hid (v1.heap[X]? = some (.cells #[.int .u64 0, .int .u64 12] 44 (0, 0))) := Lib.hid (by rw [hv1, hX]; exact heap_alloc_eq _ _)
  have Cv1 : Hid (Chg [] w1 v1) := Lib.hid (by rw [hv1]; exact (Chg.refl _ _).alloc _)
  have SX : Hid (X = w1.heap.size) := Lib.hid (hX)
  have ZX : Hid (v1.heap.size = X + 1) := Lib.hid (by rw [hv1, hX]; simp)
  rw [← hX, ← hv1]
  clear hX hv1
  refine (Slice_thin0 2 (.inr rfl) v1 A (HG.out.frame (C0.out.then (C1.out.then Cv1.out)) (by simp)) ((C1.out.then Cv1.out).heap BA.out (by simp))).mono ?_
  rintro e w2 ⟨rfl, hch⟩
  have C2 := Lib.hid (hch)
  clear hch
  have BA2 := Lib.hid ((C1.out.then (Cv1.out.then C2.out)).heap BA.out (by simp))
  have f8 : (w2.alloc (.cells #[.int .u64 0, .int .u64 12] 44)).frozen? ⟨A, 8, none⟩ = false := by
    have := ((Chg.refl [] w2).alloc (.cells #[.int .u64 0, .int .u64 12] 44)).heap BA2.out (by simp)
    simp [World.frozen?, this]
  have d8 : (w2.alloc (.cells #[.int .u64 0, .int .u64 12] 44)).cell? ⟨A, 8, none⟩ = some (.int .u8 0) := by
    have := ((Chg.refl [] w2).alloc (.cells #[.int .u64 0, .int .u64 12] 44)).heap BA2.out (by simp)
    rw [cell_of_heap this]; rfl
  go_wp2_with fail
  clear f8 d8
  obtain ⟨Y, hY⟩ : ∃ q, q = w2.heap.size := ⟨_, rfl⟩
  obtain ⟨v2, hv2⟩ : ∃ q, q = w2.alloc (.cells #[.int .u64 0, .int .u64 12] 44) := ⟨_, rfl⟩
  have BY : Hid (v2.heap[Y]? = some (.cells #[.int .u64 0, .int .u64 12] 44 (0, 0))) := Lib.hid (by rw [hv2, hY]; exact heap_alloc_eq _ _)
  have Cv2 : Hid (Chg [] w2 v2) := Lib.hid (by rw [hv2]; exact (Chg.refl _ _).alloc _)
  have SY : Hid (Y = w2.heap.size) := Lib.hid (hY)
  have ZY : Hid (v2.heap.size = Y + 1) := Lib.hid (by rw [hv2, hY]; simp)
  rw [← hY, ← hv2]
  clear hY hv2
  obtain ⟨v3, hv3⟩ : ∃ q, q = v2.setCell ⟨A, 8, none⟩ (.int .u8 2) := ⟨_, rfl⟩
  have Cv3 : Hid (Chg [A] v2 v3) := Lib.hid (by rw [hv3]; exact (Chg.refl [A] v2).setCell _ _ (.inl (by simp)))
  have BA3 : Hid (v3.heap[A]? = some (.cells (bytesV thin2).toArray 5 (12, 13))) := Lib.hid (by rw [hv3]; exact heap_setCell (Cv2.out.heap BA2.out (by simp)) 8 _)
  rw [← hv3]
  clear hv3
  have hAw : A < w0.heap.size := lt_of_heap BA.out
  have hXA : A < X := by rw [SX.out]; exact Nat.lt_of_lt_of_le hAw C1.out.size
  have hYA : A < Y := by rw [SY.out]; exact Nat.lt_of_lt_of_le hAw (C1.out.then (Cv1.out.then C2.out)).size
  have BX3 := Lib.hid (Cv3.out.heap ((C2.out.then Cv2.out).heap BX.out (by simp)) (by simp; omega))
  have BY3 := Lib.hid (Cv3.out.heap BY.out (by simp; omega))
  have D3 : Hid (Chg [] w v3) := Lib.hid ((C0.out.then (C1.out.then (Cv1.out.then (C2.out.then Cv2.out)))).new Cv3.out (Nat.le_of_eq SA.out.symm))
  clear hAw hXA hYA BX BY BA BA2
  refine (Slice_thin1 v3 A (HG.out.frame D3.out (by simp)) BA3.out).mono ?_
  rintro e w4 ⟨rfl, hch⟩
  have C4 := Lib.hid (hch)
  clear hch
  go_wp2_with fail
  obtain ⟨Z, hZ⟩ : ∃ q, q = w4.heap.size := ⟨_, rfl⟩
  obtain ⟨v4, hv4⟩ : ∃ q, q = w4.alloc (.cells #[.int .u64 0, .int .u64 0] 44) := ⟨_, rfl⟩
  have BZ : Hid (v4.heap[Z]? = some (.cells #[.int .u64 0, .int .u64 0] 44 (0, 0))) := Lib.hid (by rw [hv4, hZ]; exact heap_alloc_eq _ _)
  have Cv4 : Hid (Chg [] w4 v4) := Lib.hid (by rw [hv4]; exact (Chg.refl _ _).alloc _)
  have SZ : Hid (Z = w4.heap.size) := Lib.hid (hZ)
  have ZZ : Hid (v4.heap.size = Z + 1) := Lib.hid (by rw [hv4, hZ]; simp)
  rw [← hZ, ← hv4]
  clear hZ hv4
  refine (Slice_thin2 v4 A (HG.out.frame (D3.out.then (C4.out.then Cv4.out)) (by simp)) ((C4.out.then Cv4.out).heap BA3.out (by simp))).mono ?_
  rintro e w5 ⟨rfl, hch⟩
  have C5 := Lib.hid (hch)
  clear hch
  have kc2 := kc (w5.alloc (.cells #[.int .u64 0, .int .u64 12] 44)) #[.int .u8 202, .int .u8 254, .int .u8 186, .int .u8 190, .int .u8 0, .int .u8 0, .int .u8 0, .int .u8 0] 8 8
  rw [show (w5.alloc (.cells #[.int .u64 0, .int .u64 12] 44)).heap.size = w5.heap.size + 1 by simp] at kc2
  go_wp2_with fail
  clear kc2
  obtain ⟨T, hT⟩ : ∃ q, q = w5.heap.size := ⟨_, rfl⟩
  obtain ⟨v5, hv5⟩ : ∃ q, q = w5.alloc (.cells #[.int .u64 0, .int .u64 12] 44) := ⟨_, rfl⟩
  have BT : Hid (v5.heap[T]? = some (.cells #[.int .u64 0, .int .u64 12] 44 (0, 0))) := Lib.hid (by rw [hv5, hT]; exact heap_alloc_eq _ _)
  have Cv5 : Hid (Chg [] w5 v5) := Lib.hid (by rw [hv5]; exact (Chg.refl _ _).alloc _)
  have ST : Hid (T = w5.heap.size) := Lib.hid (hT)
  have ZT : Hid (v5.heap.size = T + 1) := Lib.hid (by rw [hv5, hT]; simp)
  rw [← hT, ← hv5]
  clear hT hv5
  obtain ⟨B, hB⟩ : ∃ q, q = T + 1 := ⟨_, rfl⟩
  obtain ⟨v6, hv6⟩ : ∃ q, q = v5.alloc (.cells #[.int .u8 202, .int .u8 254, .int .u8 186, .int .u8 190, .int .u8 0, .int .u8 0, .int .u8 0, .int .u8 0] 5 (8, 9)) := ⟨_, rfl⟩
  have BB : Hid (v6.heap[B]? = some (.cells (bytesV none0).toArray 5 (8, 9))) := Lib.hid (by rw [hv6, hB, ← ZT.out]; exact heap_alloc_eq _ _)
  have Cv6 : Hid (Chg [] v5 v6) := Lib.hid (by rw [hv6]; exact (Chg.refl _ _).alloc _)
  rw [← hB, ← hv6]
  clear hB hv6
  have D6 := Lib.hid (C4.out.then (Cv4.out.then (C5.out.then (Cv5.out.then Cv6.out))))
  refine (Slice_none0 v6 B (HG.out.frame (D3.out.then D6.out) (by simp)) BB.out).mono ?_
  rintro e w6 ⟨rfl, hch⟩
  have C6 := Lib.hid (hch)
  replace hch := (hch.alloc (.cells #[.int .u64 0, .int .u64 0] 44)).alloc (.cells #[.int .u64 0, .int .u64 12] 44)
  have bx := (D6.out.then hch).heap BX3.out (by simp)
  have by' := (D6.out.then hch).heap BY3.out (by simp)
  have bt := (Cv6.out.then hch).heap BT.out (by simp)
  have x0 := cell_of_heap bx 0
  have x1 := cell_of_heap bx 1
  have y0 := cell_of_heap by' 0
  have y1 := cell_of_heap by' 1
  have t0 := cell_of_heap bt 0
  have t1 := cell_of_heap bt 1
  simp at x0 x1 y0 y1 t0 t1
  have DF := Lib.hid ((D3.out.then (D6.out.then hch)))
  clear hch bx by' bt
  go_wp2
  go_ret
  exact ⟨rfl, DF.out⟩
end Go.Proofs.YtchkombikjcokaaDoor
