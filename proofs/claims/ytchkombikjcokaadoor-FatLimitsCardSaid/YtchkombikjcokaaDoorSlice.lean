/- fat.Slice, given what Slices says; known. -/
import Derived.Test.YtchkombikjcokaaDoorRead
namespace Go.Proofs.YtchkombikjcokaaDoor
open Go.RowKit
set_option maxRecDepth 100000

def set2 (w : World) (r : Nat) (o z : Nat) : World := (w.setCell ⟨r, 0, none⟩ (.int .u64 o)).setCell ⟨r, 1, none⟩ (.int .u64 z)
theorem set2_heap {w : World} {r : Nat} {c0 c1 : Value} {T : TypeId} {fz : Nat × Nat} (o z : Nat) (h : w.heap[r]? = some (.cells #[c0, c1] T fz)) :
    (set2 w r o z).heap[r]? = some (.cells #[.int .u64 o, .int .u64 z] T fz) := heap_setCell (heap_setCell h 0 (.int .u64 o)) 1 (.int .u64 z)
theorem set2_chg (w : World) (r o z : Nat) : Chg [r] w (set2 w r o z) := ((Chg.refl [r] w).setCell _ _ (.inl (by simp))).setCell _ _ (.inl (by simp))
def spanV (o z : Nat) : Value := .agg #[.int .u64 o, .int .u64 z]

set_option maxHeartbeats 1000000 in
theorem Slice_of (arch : Int) (h : arch = 1 ∨ arch = 2) (f : Value) (w : World) (ls : List SL) (hok : ∀ s ∈ ls, s.ok) (hlen : ls.length ≤ 70368744177664)
    (hs : ∀ w1, Chg [] w w1 → Calls Tryd.prog 17 #[f] w1 fun e w' => ∃ v, e = .returned (.tuple #[v, .int .i64 0]) ∧ SlRd w' v ls ∧ Chg [] w1 w') :
    Calls Tryd.prog 19 #[f, .int .i64 arch] w fun e w' => e = .returned (.tuple #[spanV (pickV arch ls).off (pickV arch ls).size, .int .i64 (pickE arch ls)]) ∧ Chg [] w w' := by
  have k1 : (arch != 1 && arch != 2) = false := by rcases h with rfl | rfl <;> rfl
  obtain ⟨s, hpv⟩ : ∃ s, s = pickV arch ls := ⟨_, rfl⟩
  obtain ⟨E, hpe⟩ : ∃ E, E = pickE arch ls := ⟨_, rfl⟩
  have HP := Lib.hid (Pick_any arch ls hok)
  rw [← hpv, ← hpe] at HP
  rw [← hpv, ← hpe]
  have HS := Lib.hid hs
  clear hs
  clear hpv hpe hok
  rcases h with rfl | rfl
  · skip
    go_enter Tryd.func19, Tryd.ntmps19
    go_wp2_with fail
    obtain ⟨w0, hw0⟩ : ∃ w0, w0 = w.alloc (.cells #[.int .u64 0, .int .u64 0] 44) := ⟨_, rfl⟩
    obtain ⟨r, hr⟩ : ∃ r, r = w.heap.size := ⟨_, rfl⟩
    have HRES : Hid (w0.heap[r]? = some (.cells #[.int .u64 0, .int .u64 0] 44 (0, 0))) := Lib.hid (by rw [hw0, hr]; exact heap_alloc_eq _ _)
    have HW0 : Hid (Chg [] w w0) := Lib.hid (by rw [hw0]; exact (Chg.refl _ _).alloc _)
    have HR0 : Hid (r = w.heap.size) := Lib.hid (hr)
    rw [← hr, ← hw0]
    clear hw0 hr
    refine (HS.out w0 HW0.out).mono ?_
    rintro e w1 ⟨v, rfl, hsl, hch⟩
    have HC1 := Lib.hid (hch)
    have Hsl := Lib.hid hsl
    clear hsl
    clear hch
    go_wp2_with fail
    refine (HP.out v w1 Hsl.out hlen).mono ?_
    rintro e w2 ⟨rfl, hch⟩
    have HC2 := Lib.hid (HC1.out.then hch)
    clear hch
    obtain ⟨c, u, o, z, g⟩ := s
    simp only [SL.val]
    have hres := (HC2.out.alloc (.cells #[.int .u32 c, .int .u32 u, .int .u64 o, .int .u64 z, .int .i64 g] 52)).heap HRES.out (by simp)
    obtain ⟨w3, hw3⟩ : ∃ w3, w3 = w2.alloc (.cells #[.int .u32 c, .int .u32 u, .int .u64 o, .int .u64 z, .int .i64 g] 52) := ⟨_, rfl⟩
    have HC3 : Hid (Chg [] w0 w3) := Lib.hid (by rw [hw3]; exact HC2.out.alloc _)
    rw [← hw3] at hres
    have f0 := frozen_of_heap hres 0
    have f1 := frozen_of_heap hres 1
    have d0 := cell_of_heap hres 0
    have d1 := cell_of_heap hres 1
    simp at d0 d1
    have HQ2 := Lib.hid (set2_heap o z hres)
    clear hres
    rw [hw3] at f0 f1 d0 d1
    go_wp2
    rw [← hw3]
    clear f0 f1 d0 d1
    change bodyPost _ _ _ _ _ (set2 w3 r o z)
    have g0 := cell_of_heap HQ2.out 0
    have g1 := cell_of_heap HQ2.out 1
    simp at g0 g1
    have HC5 : Hid (Chg [] w (set2 w3 r o z)) := Lib.hid ((HW0.out.then HC3.out).new (set2_chg _ _ _ _) (Nat.le_of_eq HR0.out.symm))
    generalize set2 w3 r o z = w5 at g0 g1 HC5 ⊢
    refine bodyPost_ret (v := .tuple #[spanV o z, .int .i64 E]) (by simp [results, Tryd.results19, go_sem, g0, g1, spanV]) rfl ?_
    exact ⟨rfl, HC5.out⟩
  · skip
    go_enter Tryd.func19, Tryd.ntmps19
    go_wp2_with fail
    obtain ⟨w0, hw0⟩ : ∃ w0, w0 = w.alloc (.cells #[.int .u64 0, .int .u64 0] 44) := ⟨_, rfl⟩
    obtain ⟨r, hr⟩ : ∃ r, r = w.heap.size := ⟨_, rfl⟩
    have HRES : Hid (w0.heap[r]? = some (.cells #[.int .u64 0, .int .u64 0] 44 (0, 0))) := Lib.hid (by rw [hw0, hr]; exact heap_alloc_eq _ _)
    have HW0 : Hid (Chg [] w w0) := Lib.hid (by rw [hw0]; exact (Chg.refl _ _).alloc _)
    have HR0 : Hid (r = w.heap.size) := Lib.hid (hr)
    rw [← hr, ← hw0]
    clear hw0 hr
    refine (HS.out w0 HW0.out).mono ?_
    rintro e w1 ⟨v, rfl, hsl, hch⟩
    have HC1 := Lib.hid (hch)
    have Hsl := Lib.hid hsl
    clear hsl
    clear hch
    go_wp2_with fail
    refine (HP.out v w1 Hsl.out hlen).mono ?_
    rintro e w2 ⟨rfl, hch⟩
    have HC2 := Lib.hid (HC1.out.then hch)
    clear hch
    obtain ⟨c, u, o, z, g⟩ := s
    simp only [SL.val]
    have hres := (HC2.out.alloc (.cells #[.int .u32 c, .int .u32 u, .int .u64 o, .int .u64 z, .int .i64 g] 52)).heap HRES.out (by simp)
    obtain ⟨w3, hw3⟩ : ∃ w3, w3 = w2.alloc (.cells #[.int .u32 c, .int .u32 u, .int .u64 o, .int .u64 z, .int .i64 g] 52) := ⟨_, rfl⟩
    have HC3 : Hid (Chg [] w0 w3) := Lib.hid (by rw [hw3]; exact HC2.out.alloc _)
    rw [← hw3] at hres
    have f0 := frozen_of_heap hres 0
    have f1 := frozen_of_heap hres 1
    have d0 := cell_of_heap hres 0
    have d1 := cell_of_heap hres 1
    simp at d0 d1
    have HQ2 := Lib.hid (set2_heap o z hres)
    clear hres
    rw [hw3] at f0 f1 d0 d1
    go_wp2
    rw [← hw3]
    clear f0 f1 d0 d1
    change bodyPost _ _ _ _ _ (set2 w3 r o z)
    have g0 := cell_of_heap HQ2.out 0
    have g1 := cell_of_heap HQ2.out 1
    simp at g0 g1
    have HC5 : Hid (Chg [] w (set2 w3 r o z)) := Lib.hid ((HW0.out.then HC3.out).new (set2_chg _ _ _ _) (Nat.le_of_eq HR0.out.symm))
    generalize set2 w3 r o z = w5 at g0 g1 HC5 ⊢
    refine bodyPost_ret (v := .tuple #[spanV o z, .int .i64 E]) (by simp [results, Tryd.results19, go_sem, g0, g1, spanV]) rfl ?_
    exact ⟨rfl, HC5.out⟩
end Go.Proofs.YtchkombikjcokaaDoor
