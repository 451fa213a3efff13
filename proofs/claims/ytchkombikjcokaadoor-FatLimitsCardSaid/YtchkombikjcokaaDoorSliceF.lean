/- fat.Slice where there is no such slice. -/
import Derived.Test.YtchkombikjcokaaDoorFSl
import Derived.Test.YtchkombikjcokaaDoorSlice
namespace Go.Proofs.YtchkombikjcokaaDoor
open Go.RowKit
set_option maxRecDepth 100000

set_option maxHeartbeats 1000000 in
theorem Slice_err (arch : Int) (h : arch = 1 ∨ arch = 2) (f : Value) (E : Int) (hE : E ≠ 0) (w : World)
    (hs : ∀ w1, Chg [] w w1 → Calls Tryd.prog 17 #[f] w1 fun e w' => e = .returned (.tuple #[.slice none 0 0, .int .i64 E]) ∧ Chg [] w1 w') :
    Calls Tryd.prog 19 #[f, .int .i64 arch] w fun e w' => e = .returned (.tuple #[spanV 0 0, .int .i64 E]) ∧ Chg [] w w' := by
  have k1 : (arch != 1 && arch != 2) = false := by rcases h with rfl | rfl <;> rfl
  have k2 : (E != 0) = true := by rw [bne_iff_ne]; exact hE
  have HS := Lib.hid hs
  clear hs
  rcases h with rfl | rfl
  · skip
    go_enter Tryd.func19, Tryd.ntmps19
    go_wp2_with fail
    obtain ⟨w0, hw0⟩ : ∃ w0, w0 = w.alloc (.cells #[.int .u64 0, .int .u64 0] 44) := ⟨_, rfl⟩
    obtain ⟨r, hr⟩ : ∃ r, r = w.heap.size := ⟨_, rfl⟩
    have HRES : Hid (w0.heap[r]? = some (.cells #[.int .u64 0, .int .u64 0] 44 (0, 0))) := Lib.hid (by rw [hw0, hr]; exact heap_alloc_eq _ _)
    have HW0 : Hid (Chg [] w w0) := Lib.hid (by rw [hw0]; exact (Chg.refl _ _).alloc _)
    have HR0 : Hid (r = w.heap.size) := Lib.hid (hr)
    rw [← hr, ← hw0]
    clear hw0 hr
    refine (HS.out w0 HW0.out).mono ?_
    rintro e w1 ⟨rfl, hch⟩
    have hres := hch.heap HRES.out (by simp)
    have HC1 := Lib.hid (HW0.out.then hch)
    clear hch
    have f0 := frozen_of_heap hres 0
    have f1 := frozen_of_heap hres 1
    have d0 := cell_of_heap hres 0
    have d1 := cell_of_heap hres 1
    simp at d0 d1
    have HQ2 := Lib.hid (set2_heap 0 0 hres)
    clear hres
    go_wp2
    clear f0 f1 d0 d1
    change bodyPost _ _ _ _ _ (set2 w1 r 0 0)
    have g0 := cell_of_heap HQ2.out 0
    have g1 := cell_of_heap HQ2.out 1
    simp at g0 g1
    have HC5 : Hid (Chg [] w (set2 w1 r 0 0)) := Lib.hid (HC1.out.new (set2_chg _ _ _ _) (Nat.le_of_eq HR0.out.symm))
    generalize set2 w1 r 0 0 = w5 at g0 g1 HC5 ⊢
    refine bodyPost_ret (v := .tuple #[spanV 0 0, .int .i64 E]) (by simp [results, Tryd.results19, go_sem, g0, g1, spanV]) rfl ?_
    exact ⟨rfl, HC5.out⟩
  · skip
    go_enter Tryd.func19, Tryd.ntmps19
    go_wp2_with fail
    obtain ⟨w0, hw0⟩ : ∃ w0, w0 = w.alloc (.cells #[.int .u64 0, .int .u64 0] 44) := ⟨_, rfl⟩
    obtain ⟨r, hr⟩ : ∃ r, r = w.heap.size := ⟨_, rfl⟩
    have HRES : Hid (w0.heap[r]? = some (.cells #[.int .u64 0, .int .u64 0] 44 (0, 0))) := Lib.hid (by rw [hw0, hr]; exact heap_alloc_eq _ _)
    have HW0 : Hid (Chg [] w w0) := Lib.hid (by rw [hw0]; exact (Chg.refl _ _).alloc _)
    have HR0 : Hid (r = w.heap.size) := Lib.hid (hr)
    rw [← hr, ← hw0]
    clear hw0 hr
    refine (HS.out w0 HW0.out).mono ?_
    rintro e w1 ⟨rfl, hch⟩
    have hres := hch.heap HRES.out (by simp)
    have HC1 := Lib.hid (HW0.out.then hch)
    clear hch
    have f0 := frozen_of_heap hres 0
    have f1 := frozen_of_heap hres 1
    have d0 := cell_of_heap hres 0
    have d1 := cell_of_heap hres 1
    simp at d0 d1
    have HQ2 := Lib.hid (set2_heap 0 0 hres)
    clear hres
    go_wp2
    clear f0 f1 d0 d1
    change bodyPost _ _ _ _ _ (set2 w1 r 0 0)
    have g0 := cell_of_heap HQ2.out 0
    have g1 := cell_of_heap HQ2.out 1
    simp at g0 g1
    have HC5 : Hid (Chg [] w (set2 w1 r 0 0)) := Lib.hid (HC1.out.new (set2_chg _ _ _ _) (Nat.le_of_eq HR0.out.symm))
    generalize set2 w1 r 0 0 = w5 at g0 g1 HC5 ⊢
    refine bodyPost_ret (v := .tuple #[spanV 0 0, .int .i64 E]) (by simp [results, Tryd.results19, go_sem, g0, g1, spanV]) rfl ?_
    exact ⟨rfl, HC5.out⟩

/-- What fat.Slice says of any bytes. -/
def takenE (arch : Int) (l : List UInt8) : Int := if arch = 1 ∨ arch = 2 then (if sliceE l = 0 then pickE arch (sliceL l) else sliceE l) else 2
def takenV (arch : Int) (l : List UInt8) : Value := if arch = 1 ∨ arch = 2 then (if sliceE l = 0 then spanV (pickV arch (sliceL l)).off (pickV arch (sliceL l)).size else spanV 0 0) else spanV 0 0
theorem Slice_arch (arch : Int) (h : ¬ (arch = 1 ∨ arch = 2)) (f : Value) (w : World) :
    Calls Tryd.prog 19 #[f, .int .i64 arch] w fun e w' => e = .returned (.tuple #[spanV 0 0, .int .i64 2]) ∧ Chg [] w w' := by
  have k1 : (arch != 1) = true := by rw [bne_iff_ne]; omega
  have k2 : (arch != 2) = true := by rw [bne_iff_ne]; omega
  clear h
  go_enter Tryd.func19, Tryd.ntmps19
  go_wp2_with fail
  obtain ⟨w0, hw0⟩ : ∃ w0, w0 = w.alloc (.cells #[.int .u64 0, .int .u64 0] 44) := ⟨_, rfl⟩
  obtain ⟨r, hr⟩ : ∃ r, r = w.heap.size := ⟨_, rfl⟩
  have HRES : Hid (w0.heap[r]? = some (.cells #[.int .u64 0, .int .u64 0] 44 (0, 0))) := Lib.hid (by rw [hw0, hr]; exact heap_alloc_eq _ _)
  have HW0 : Hid (Chg [] w w0) := Lib.hid (by rw [hw0]; exact (Chg.refl _ _).alloc _)
  have HR0 : Hid (r = w.heap.size) := Lib.hid (hr)
  rw [← hr, ← hw0]
  clear hw0 hr
  have f0 := frozen_of_heap HRES.out 0
  have f1 := frozen_of_heap HRES.out 1
  have d0 := cell_of_heap HRES.out 0
  have d1 := cell_of_heap HRES.out 1
  simp at d0 d1
  go_wp2
  refine bodyPost_ret (v := .tuple #[spanV 0 0, .int .i64 2]) (by simp [results, Tryd.results19, go_sem, d0, d1, spanV]) rfl ?_
  exact ⟨rfl, HW0.out⟩
theorem sliceL_ok (l : List UInt8) (hl : l.length < 18446744073709551616) : ∀ s ∈ sliceL l, s.ok := by
  unfold sliceL
  split
  · intro s hs
    rw [List.mem_singleton] at hs
    subst hs
    have h1 := leNum4_lt l 4
    have h2 := leNum4_lt l 8
    exact ⟨h1, h2, by show (0 : Nat) < _; decide, hl, by show _ ≤ (0 : Int); decide, by show (0 : Int) < _; decide⟩
  · split
    · exact entries_ok _ _ _ _ (by decide)
    · exact entries_ok _ _ _ _ (by decide)
theorem sliceL_len (l : List UInt8) : (sliceL l).length ≤ 4294967296 := by
  have := num4 l 4
  unfold sliceL
  split
  · simp
  · split <;> (rw [entries_len]; omega)
theorem Slice_any (arch : Int) (l : List UInt8) (a : Option Addr) (cap : Nat) (w : World) (hg : Env w) (rd : Rd w (.slice a l.length cap) (bytesV l)) (hl : l.length ≤ 70368744177664) :
    Calls Tryd.prog 19 #[.slice a l.length cap, .int .i64 arch] w fun e w' => e = .returned (.tuple #[takenV arch l, .int .i64 (takenE arch l)]) ∧ Chg [] w w' := by
  have hs : ∀ w1, Chg [] w w1 → _ := fun w1 hc => Slices_any l a cap w1 (hg.frame hc (by simp)) (rd.frame hc (fun _ _ hm => by cases hm)) hl
  by_cases h : arch = 1 ∨ arch = 2
  · by_cases h0 : sliceE l = 0
    · have e1 : takenE arch l = pickE arch (sliceL l) := by unfold takenE; rw [if_pos h, if_pos h0]
      have e2 : takenV arch l = spanV (pickV arch (sliceL l)).off (pickV arch (sliceL l)).size := by unfold takenV; rw [if_pos h, if_pos h0]
      rw [e1, e2]
      refine Slice_of arch h _ w (sliceL l) (sliceL_ok l (by omega)) (by have := sliceL_len l; omega) (fun w1 hc => (hs w1 hc).mono fun e w' ⟨v, he, h1, h2, h3⟩ => ⟨v, ?_, h1 h0, h3⟩)
      rw [he, h0]
    · have e1 : takenE arch l = sliceE l := by unfold takenE; rw [if_pos h, if_neg h0]
      have e2 : takenV arch l = spanV 0 0 := by unfold takenV; rw [if_pos h, if_neg h0]
      rw [e1, e2]
      refine Slice_err arch h _ _ h0 w (fun w1 hc => (hs w1 hc).mono fun e w' ⟨v, he, h1, h2, h3⟩ => ⟨?_, h3⟩)
      rw [he, h2 h0]
  · have e1 : takenE arch l = 2 := by unfold takenE; rw [if_neg h]
    have e2 : takenV arch l = spanV 0 0 := by unfold takenV; rw [if_neg h]
    rw [e1, e2]
    exact Slice_arch arch h _ w
end Go.Proofs.YtchkombikjcokaaDoor
