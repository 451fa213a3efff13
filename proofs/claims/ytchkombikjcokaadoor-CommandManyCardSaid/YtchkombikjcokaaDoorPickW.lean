/- fat.Pick and the document's, walked. -/
import Derived.Test.YtchkombikjcokaaDoorFind
namespace Go.Proofs.YtchkombikjcokaaDoor
open Go.RowKit
set_option maxRecDepth 100000

def pickS (arch : Int) (ls : List SL) : Option SL := if arch = 2 then (findS 2 ls).or (findS 0 ls) else if arch = 1 then findS 0 ls else none
def pickE (arch : Int) (ls : List SL) : Int := if arch = 1 ∨ arch = 2 then (if (pickS arch ls).isSome then 0 else 6) else 2
def pickV (arch : Int) (ls : List SL) : SL := (pickS arch ls).getD .zero


set_option maxHeartbeats 1000000 in
theorem Pick_any (arch : Int) (ls : List SL) (hok : ∀ s ∈ ls, s.ok) (v : Value) (w : World) (rd : SlRd w v ls) (hlen : ls.length ≤ 70368744177664) :
    Calls Tryd.prog 23 #[v, .int .i64 arch] w fun e w' => e = .returned (.tuple #[(pickV arch ls).val, .int .i64 (pickE arch ls)]) ∧ Chg [] w w' := by
  have HR := Lib.hid rd
  have Hok := Lib.hid hok
  clear rd hok
  by_cases h2 : arch = 2
  · subst h2
    go_enter Tryd.func23, Tryd.ntmps23
    go_wp2_with fail
    obtain ⟨w0, hw0⟩ : ∃ w0, w0 = w.alloc (.cells #[.int .u32 0, .int .u32 0, .int .u64 0, .int .u64 0, .int .i64 0] 52) := ⟨_, rfl⟩
    obtain ⟨r, hr⟩ : ∃ r, r = w.heap.size := ⟨_, rfl⟩
    have HRES : Hid (w0.heap[r]? = some (.cells #[.int .u32 0, .int .u32 0, .int .u64 0, .int .u64 0, .int .i64 0] 52 (0, 0))) := Lib.hid (by rw [hw0, hr]; exact heap_alloc_eq _ _)
    have HW0 : Hid (Chg [] w w0) := Lib.hid (by rw [hw0]; exact (Chg.refl _ _).alloc _)
    have HR0 : Hid (r = w.heap.size) := Lib.hid (hr)
    rw [← hr, ← hw0]
    clear hw0 hr
    refine (find_any 2 (by decide) ls Hok.out v w0 (HR.out.frame HW0.out) hlen).mono ?_
    rintro e w1 ⟨rfl, hch1⟩
    cases hf : findS 2 ls with
    | some s =>
      have HC := Lib.hid (hch1)
      clear hch1
      have HV : Hid (pickV 2 ls = s) := Lib.hid (by simp [pickV, pickS, hf])
      have HE : Hid (pickE 2 ls = 0) := Lib.hid (by simp [pickE, pickS, hf])
      clear hf
      simp only [Option.getD_some, Option.isSome_some, SL.val]
      have hres := (Lib.hid (HC.out.alloc (.cells #[.int .u32 s.cpu, .int .u32 s.sub, .int .u64 s.off, .int .u64 s.size, .int .i64 s.align] 52))).out.heap HRES.out (by simp)
      have f0 := frozen_of_heap hres 0
      have f1 := frozen_of_heap hres 1
      have f2 := frozen_of_heap hres 2
      have f3 := frozen_of_heap hres 3
      have f4 := frozen_of_heap hres 4
      have d0 := cell_of_heap hres 0
      have d1 := cell_of_heap hres 1
      have d2 := cell_of_heap hres 2
      have d3 := cell_of_heap hres 3
      have d4 := cell_of_heap hres 4
      simp at d0 d1 d2 d3 d4
      clear hres
      go_wp2
      obtain ⟨w5, hw5⟩ : ∃ w5, w5 = set5 (w1.alloc (.cells #[.int .u32 s.cpu, .int .u32 s.sub, .int .u64 s.off, .int .u64 s.size, .int .i64 s.align] 52)) r s := ⟨_, rfl⟩
      change bodyPost _ _ _ _ _ (set5 (w1.alloc (.cells #[.int .u32 s.cpu, .int .u32 s.sub, .int .u64 s.off, .int .u64 s.size, .int .i64 s.align] 52)) r s)
      rw [← hw5]
      have hq5 := set5_heap s ((Lib.hid (HC.out.alloc (.cells #[.int .u32 s.cpu, .int .u32 s.sub, .int .u64 s.off, .int .u64 s.size, .int .i64 s.align] 52))).out.heap HRES.out (by simp))
      rw [← hw5] at hq5
      have HC5 : Hid (Chg [] w w5) := Lib.hid (by rw [hw5]; exact (HW0.out.then (Lib.hid (HC.out.alloc (.cells #[.int .u32 s.cpu, .int .u32 s.sub, .int .u64 s.off, .int .u64 s.size, .int .i64 s.align] 52))).out).new (set5_chg _ _ _) (Nat.le_of_eq HR0.out.symm))
      have g0 := cell_of_heap hq5 0
      have g1 := cell_of_heap hq5 1
      have g2 := cell_of_heap hq5 2
      have g3 := cell_of_heap hq5 3
      have g4 := cell_of_heap hq5 4
      simp at g0 g1 g2 g3 g4
      clear hq5 hw5
      refine bodyPost_ret (v := .tuple #[s.val, .int .i64 0]) (by simp [results, Tryd.results23, go_sem, g0, g1, g2, g3, g4, SL.val]) rfl ?_
      rw [HE.out, HV.out]
      exact ⟨rfl, HC5.out⟩
    | none =>
      have HF := Lib.hid (hf)
      clear hf
      have HC1 := Lib.hid (hch1.alloc (.cells #[.int .u32 0, .int .u32 0, .int .u64 0, .int .u64 0, .int .i64 0] 52))
      clear hch1
      simp only [Option.getD_none, Option.isSome_none, SL.val, SL.zero]
      go_wp2_with fail
      refine (find_any 0 (by decide) ls Hok.out v _ (HR.out.frame (HW0.out.then HC1.out)) hlen).mono ?_
      rintro e w2 ⟨rfl, hch2⟩
      have HC := Lib.hid (HC1.out.then hch2)
      clear hch2
      cases hf : findS 0 ls with
      | some s =>
        have HV : Hid (pickV 2 ls = s) := Lib.hid (by simp [pickV, pickS, hf, HF.out])
        have HE : Hid (pickE 2 ls = 0) := Lib.hid (by simp [pickE, pickS, hf, HF.out])
        clear hf
        simp only [Option.getD_some, Option.isSome_some, SL.val]
        have hres := (Lib.hid (HC.out.alloc (.cells #[.int .u32 s.cpu, .int .u32 s.sub, .int .u64 s.off, .int .u64 s.size, .int .i64 s.align] 52))).out.heap HRES.out (by simp)
        have f0 := frozen_of_heap hres 0
        have f1 := frozen_of_heap hres 1
        have f2 := frozen_of_heap hres 2
        have f3 := frozen_of_heap hres 3
        have f4 := frozen_of_heap hres 4
        have d0 := cell_of_heap hres 0
        have d1 := cell_of_heap hres 1
        have d2 := cell_of_heap hres 2
        have d3 := cell_of_heap hres 3
        have d4 := cell_of_heap hres 4
        simp at d0 d1 d2 d3 d4
        clear hres
        go_wp2
        obtain ⟨w5, hw5⟩ : ∃ w5, w5 = set5 (w2.alloc (.cells #[.int .u32 s.cpu, .int .u32 s.sub, .int .u64 s.off, .int .u64 s.size, .int .i64 s.align] 52)) r s := ⟨_, rfl⟩
        change bodyPost _ _ _ _ _ (set5 (w2.alloc (.cells #[.int .u32 s.cpu, .int .u32 s.sub, .int .u64 s.off, .int .u64 s.size, .int .i64 s.align] 52)) r s)
        rw [← hw5]
        have hq5 := set5_heap s ((Lib.hid (HC.out.alloc (.cells #[.int .u32 s.cpu, .int .u32 s.sub, .int .u64 s.off, .int .u64 s.size, .int .i64 s.align] 52))).out.heap HRES.out (by simp))
        rw [← hw5] at hq5
        have HC5 : Hid (Chg [] w w5) := Lib.hid (by rw [hw5]; exact (HW0.out.then (Lib.hid (HC.out.alloc (.cells #[.int .u32 s.cpu, .int .u32 s.sub, .int .u64 s.off, .int .u64 s.size, .int .i64 s.align] 52))).out).new (set5_chg _ _ _) (Nat.le_of_eq HR0.out.symm))
        have g0 := cell_of_heap hq5 0
        have g1 := cell_of_heap hq5 1
        have g2 := cell_of_heap hq5 2
        have g3 := cell_of_heap hq5 3
        have g4 := cell_of_heap hq5 4
        simp at g0 g1 g2 g3 g4
        clear hq5 hw5
        refine bodyPost_ret (v := .tuple #[s.val, .int .i64 0]) (by simp [results, Tryd.results23, go_sem, g0, g1, g2, g3, g4, SL.val]) rfl ?_
        rw [HE.out, HV.out]
        exact ⟨rfl, HC5.out⟩
      | none =>
        have HV : Hid (pickV 2 ls = .zero) := Lib.hid (by simp [pickV, pickS, hf, HF.out])
        have HE : Hid (pickE 2 ls = 6) := Lib.hid (by simp [pickE, pickS, hf, HF.out])
        clear hf
        simp only [Option.getD_none, Option.isSome_none, SL.val, SL.zero]
        have hres := (Lib.hid (HC.out.alloc (.cells #[.int .u32 0, .int .u32 0, .int .u64 0, .int .u64 0, .int .i64 0] 52))).out.heap HRES.out (by simp)
        have f0 := frozen_of_heap hres 0
        have f1 := frozen_of_heap hres 1
        have f2 := frozen_of_heap hres 2
        have f3 := frozen_of_heap hres 3
        have f4 := frozen_of_heap hres 4
        have d0 := cell_of_heap hres 0
        have d1 := cell_of_heap hres 1
        have d2 := cell_of_heap hres 2
        have d3 := cell_of_heap hres 3
        have d4 := cell_of_heap hres 4
        simp at d0 d1 d2 d3 d4
        clear hres
        go_wp2
        obtain ⟨w5, hw5⟩ : ∃ w5, w5 = set5 (w2.alloc (.cells #[.int .u32 0, .int .u32 0, .int .u64 0, .int .u64 0, .int .i64 0] 52)) r .zero := ⟨_, rfl⟩
        change bodyPost _ _ _ _ _ (set5 (w2.alloc (.cells #[.int .u32 0, .int .u32 0, .int .u64 0, .int .u64 0, .int .i64 0] 52)) r .zero)
        rw [← hw5]
        have hq5 := set5_heap .zero ((Lib.hid (HC.out.alloc (.cells #[.int .u32 0, .int .u32 0, .int .u64 0, .int .u64 0, .int .i64 0] 52))).out.heap HRES.out (by simp))
        rw [← hw5] at hq5
        have HC5 : Hid (Chg [] w w5) := Lib.hid (by rw [hw5]; exact (HW0.out.then (Lib.hid (HC.out.alloc (.cells #[.int .u32 0, .int .u32 0, .int .u64 0, .int .u64 0, .int .i64 0] 52))).out).new (set5_chg _ _ _) (Nat.le_of_eq HR0.out.symm))
        have g0 := cell_of_heap hq5 0
        have g1 := cell_of_heap hq5 1
        have g2 := cell_of_heap hq5 2
        have g3 := cell_of_heap hq5 3
        have g4 := cell_of_heap hq5 4
        simp at g0 g1 g2 g3 g4
        clear hq5 hw5
        refine bodyPost_ret (v := .tuple #[SL.zero.val, .int .i64 6]) (by simp [results, Tryd.results23, go_sem, g0, g1, g2, g3, g4, SL.val]) rfl ?_
        rw [HE.out, HV.out]
        exact ⟨rfl, HC5.out⟩
  · by_cases h1 : arch = 1
    · subst h1
      clear h2
      go_enter Tryd.func23, Tryd.ntmps23
      go_wp2_with fail
      obtain ⟨w0, hw0⟩ : ∃ w0, w0 = w.alloc (.cells #[.int .u32 0, .int .u32 0, .int .u64 0, .int .u64 0, .int .i64 0] 52) := ⟨_, rfl⟩
      obtain ⟨r, hr⟩ : ∃ r, r = w.heap.size := ⟨_, rfl⟩
      have HRES : Hid (w0.heap[r]? = some (.cells #[.int .u32 0, .int .u32 0, .int .u64 0, .int .u64 0, .int .i64 0] 52 (0, 0))) := Lib.hid (by rw [hw0, hr]; exact heap_alloc_eq _ _)
      have HW0 : Hid (Chg [] w w0) := Lib.hid (by rw [hw0]; exact (Chg.refl _ _).alloc _)
      have HR0 : Hid (r = w.heap.size) := Lib.hid (hr)
      rw [← hr, ← hw0]
      clear hw0 hr
      refine (find_any 0 (by decide) ls Hok.out v w0 (HR.out.frame HW0.out) hlen).mono ?_
      rintro e w2 ⟨rfl, hch2⟩
      have HC := Lib.hid (hch2)
      clear hch2
      cases hf : findS 0 ls with
      | some s =>
        have HV : Hid (pickV 1 ls = s) := Lib.hid (by simp [pickV, pickS, hf])
        have HE : Hid (pickE 1 ls = 0) := Lib.hid (by simp [pickE, pickS, hf])
        clear hf
        simp only [Option.getD_some, Option.isSome_some, SL.val]
        have hres := (Lib.hid (HC.out.alloc (.cells #[.int .u32 s.cpu, .int .u32 s.sub, .int .u64 s.off, .int .u64 s.size, .int .i64 s.align] 52))).out.heap HRES.out (by simp)
        have f0 := frozen_of_heap hres 0
        have f1 := frozen_of_heap hres 1
        have f2 := frozen_of_heap hres 2
        have f3 := frozen_of_heap hres 3
        have f4 := frozen_of_heap hres 4
        have d0 := cell_of_heap hres 0
        have d1 := cell_of_heap hres 1
        have d2 := cell_of_heap hres 2
        have d3 := cell_of_heap hres 3
        have d4 := cell_of_heap hres 4
        simp at d0 d1 d2 d3 d4
        clear hres
        go_wp2
        obtain ⟨w5, hw5⟩ : ∃ w5, w5 = set5 (w2.alloc (.cells #[.int .u32 s.cpu, .int .u32 s.sub, .int .u64 s.off, .int .u64 s.size, .int .i64 s.align] 52)) r s := ⟨_, rfl⟩
        change bodyPost _ _ _ _ _ (set5 (w2.alloc (.cells #[.int .u32 s.cpu, .int .u32 s.sub, .int .u64 s.off, .int .u64 s.size, .int .i64 s.align] 52)) r s)
        rw [← hw5]
        have hq5 := set5_heap s ((Lib.hid (HC.out.alloc (.cells #[.int .u32 s.cpu, .int .u32 s.sub, .int .u64 s.off, .int .u64 s.size, .int .i64 s.align] 52))).out.heap HRES.out (by simp))
        rw [← hw5] at hq5
        have HC5 : Hid (Chg [] w w5) := Lib.hid (by rw [hw5]; exact (HW0.out.then (Lib.hid (HC.out.alloc (.cells #[.int .u32 s.cpu, .int .u32 s.sub, .int .u64 s.off, .int .u64 s.size, .int .i64 s.align] 52))).out).new (set5_chg _ _ _) (Nat.le_of_eq HR0.out.symm))
        have g0 := cell_of_heap hq5 0
        have g1 := cell_of_heap hq5 1
        have g2 := cell_of_heap hq5 2
        have g3 := cell_of_heap hq5 3
        have g4 := cell_of_heap hq5 4
        simp at g0 g1 g2 g3 g4
        clear hq5 hw5
        refine bodyPost_ret (v := .tuple #[s.val, .int .i64 0]) (by simp [results, Tryd.results23, go_sem, g0, g1, g2, g3, g4, SL.val]) rfl ?_
        rw [HE.out, HV.out]
        exact ⟨rfl, HC5.out⟩
      | none =>
        have HV : Hid (pickV 1 ls = .zero) := Lib.hid (by simp [pickV, pickS, hf])
        have HE : Hid (pickE 1 ls = 6) := Lib.hid (by simp [pickE, pickS, hf])
        clear hf
        simp only [Option.getD_none, Option.isSome_none, SL.val, SL.zero]
        have hres := (Lib.hid (HC.out.alloc (.cells #[.int .u32 0, .int .u32 0, .int .u64 0, .int .u64 0, .int .i64 0] 52))).out.heap HRES.out (by simp)
        have f0 := frozen_of_heap hres 0
        have f1 := frozen_of_heap hres 1
        have f2 := frozen_of_heap hres 2
        have f3 := frozen_of_heap hres 3
        have f4 := frozen_of_heap hres 4
        have d0 := cell_of_heap hres 0
        have d1 := cell_of_heap hres 1
        have d2 := cell_of_heap hres 2
        have d3 := cell_of_heap hres 3
        have d4 := cell_of_heap hres 4
        simp at d0 d1 d2 d3 d4
        clear hres
        go_wp2
        obtain ⟨w5, hw5⟩ : ∃ w5, w5 = set5 (w2.alloc (.cells #[.int .u32 0, .int .u32 0, .int .u64 0, .int .u64 0, .int .i64 0] 52)) r .zero := ⟨_, rfl⟩
        change bodyPost _ _ _ _ _ (set5 (w2.alloc (.cells #[.int .u32 0, .int .u32 0, .int .u64 0, .int .u64 0, .int .i64 0] 52)) r .zero)
        rw [← hw5]
        have hq5 := set5_heap .zero ((Lib.hid (HC.out.alloc (.cells #[.int .u32 0, .int .u32 0, .int .u64 0, .int .u64 0, .int .i64 0] 52))).out.heap HRES.out (by simp))
        rw [← hw5] at hq5
        have HC5 : Hid (Chg [] w w5) := Lib.hid (by rw [hw5]; exact (HW0.out.then (Lib.hid (HC.out.alloc (.cells #[.int .u32 0, .int .u32 0, .int .u64 0, .int .u64 0, .int .i64 0] 52))).out).new (set5_chg _ _ _) (Nat.le_of_eq HR0.out.symm))
        have g0 := cell_of_heap hq5 0
        have g1 := cell_of_heap hq5 1
        have g2 := cell_of_heap hq5 2
        have g3 := cell_of_heap hq5 3
        have g4 := cell_of_heap hq5 4
        simp at g0 g1 g2 g3 g4
        clear hq5 hw5
        refine bodyPost_ret (v := .tuple #[SL.zero.val, .int .i64 6]) (by simp [results, Tryd.results23, go_sem, g0, g1, g2, g3, g4, SL.val]) rfl ?_
        rw [HE.out, HV.out]
        exact ⟨rfl, HC5.out⟩
    · have HV : Hid (pickV arch ls = .zero) := Lib.hid (by simp [pickV, pickS, h1, h2])
      have HE : Hid (pickE arch ls = 2) := Lib.hid (by simp [pickE, h1, h2])
      have k1 : (arch == 1) = false := by rw [beq_eq_false_iff_ne]; exact h1
      have k2 : (arch == 2) = false := by rw [beq_eq_false_iff_ne]; exact h2
      clear h1 h2
      go_enter Tryd.func23, Tryd.ntmps23
      go_wp2_with fail
      obtain ⟨w0, hw0⟩ : ∃ w0, w0 = w.alloc (.cells #[.int .u32 0, .int .u32 0, .int .u64 0, .int .u64 0, .int .i64 0] 52) := ⟨_, rfl⟩
      obtain ⟨r, hr⟩ : ∃ r, r = w.heap.size := ⟨_, rfl⟩
      have HRES : Hid (w0.heap[r]? = some (.cells #[.int .u32 0, .int .u32 0, .int .u64 0, .int .u64 0, .int .i64 0] 52 (0, 0))) := Lib.hid (by rw [hw0, hr]; exact heap_alloc_eq _ _)
      have HW0 : Hid (Chg [] w w0) := Lib.hid (by rw [hw0]; exact (Chg.refl _ _).alloc _)
      have HR0 : Hid (r = w.heap.size) := Lib.hid (hr)
      rw [← hr, ← hw0]
      clear hw0 hr
      have hres := (Lib.hid (Chg.refl [] w0)).out.heap HRES.out (by simp)
      have f0 := frozen_of_heap hres 0
      have f1 := frozen_of_heap hres 1
      have f2 := frozen_of_heap hres 2
      have f3 := frozen_of_heap hres 3
      have f4 := frozen_of_heap hres 4
      have d0 := cell_of_heap hres 0
      have d1 := cell_of_heap hres 1
      have d2 := cell_of_heap hres 2
      have d3 := cell_of_heap hres 3
      have d4 := cell_of_heap hres 4
      simp at d0 d1 d2 d3 d4
      clear hres
      go_wp2
      refine bodyPost_ret (v := .tuple #[SL.zero.val, .int .i64 2]) (by simp [results, Tryd.results23, go_sem, d0, d1, d2, d3, d4, SL.val, SL.zero]) rfl ?_
      rw [HE.out, HV.out]
      exact ⟨rfl, HW0.out⟩

set_option maxHeartbeats 1000000 in
theorem RPick_any (arch : Int) (ls : List SL) (hok : ∀ s ∈ ls, s.ok) (v : Value) (w : World) (rd : SlRd w v ls) (hlen : ls.length ≤ 70368744177664) :
    Calls Tryd.prog 24 #[v, .int .i64 arch] w fun e w' => e = .returned (.tuple #[(pickV arch ls).val, .int .i64 (pickE arch ls)]) ∧ Chg [] w w' := by
  have HR := Lib.hid (rd)
  obtain ⟨a, n, cap, rfl, rfl, hc1, hc2, hx⟩ := rd
  have Hx := Lib.hid hx
  have Hok := Lib.hid hok
  clear hx hok
  clear hc1 hc2
  by_cases h2 : arch = 2
  · subst h2
    go_enter Tryd.func24, Tryd.ntmps24
    go_wp2_with fail
    obtain ⟨w0, hw0⟩ : ∃ w0, w0 = w.alloc (.cells #[.int .u32 0, .int .u32 0, .int .u64 0, .int .u64 0, .int .i64 0] 52) := ⟨_, rfl⟩
    obtain ⟨r, hr⟩ : ∃ r, r = w.heap.size := ⟨_, rfl⟩
    have HRES : Hid (w0.heap[r]? = some (.cells #[.int .u32 0, .int .u32 0, .int .u64 0, .int .u64 0, .int .i64 0] 52 (0, 0))) := Lib.hid (by rw [hw0, hr]; exact heap_alloc_eq _ _)
    have HW0 : Hid (Chg [] w w0) := Lib.hid (by rw [hw0]; exact (Chg.refl _ _).alloc _)
    have HR0 : Hid (r = w.heap.size) := Lib.hid (hr)
    rw [← hr, ← hw0]
    clear hw0 hr
    refine (Find_any 0 (by decide) ls Hok.out _ w0 (HR.out.frame HW0.out) hlen).mono ?_
    rintro e w1 ⟨i0, rfl, h0, hch1⟩
    have HC1 := Lib.hid (hch1)
    clear hch1
    go_wp2_with fail
    refine (Find_any 2 (by decide) ls Hok.out _ w1 (HR.out.frame (HW0.out.then HC1.out)) hlen).mono ?_
    rintro e w2 ⟨i2, rfl, h2, hch2⟩
    have HC2 := Lib.hid (HC1.out.then hch2)
    clear hch2
    rcases h2 with ⟨rfl, hf2⟩ | ⟨k', rfl, hlt', hf'⟩
    · rcases h0 with ⟨rfl, hf⟩ | ⟨k, rfl, hlt, hf⟩
      · skip
        have HV : Hid (pickV 2 ls = .zero) := Lib.hid (by simp [pickV, pickS, hf, hf2])
        have HE : Hid (pickE 2 ls = 6) := Lib.hid (by simp [pickE, pickS, hf, hf2])
        have hres := HC2.out.heap HRES.out (by simp)
        have f0 := frozen_of_heap hres 0
        have f1 := frozen_of_heap hres 1
        have f2 := frozen_of_heap hres 2
        have f3 := frozen_of_heap hres 3
        have f4 := frozen_of_heap hres 4
        have d0 := cell_of_heap hres 0
        have d1 := cell_of_heap hres 1
        have d2 := cell_of_heap hres 2
        have d3 := cell_of_heap hres 3
        have d4 := cell_of_heap hres 4
        simp at d0 d1 d2 d3 d4
        clear hres
        go_wp2
        obtain ⟨w5, hw5⟩ : ∃ w5, w5 = set5 w2 r .zero := ⟨_, rfl⟩
        change bodyPost _ _ _ _ _ (set5 w2 r .zero)
        rw [← hw5]
        have hq5 := set5_heap .zero (HC2.out.heap HRES.out (by simp))
        rw [← hw5] at hq5
        have HC5 : Hid (Chg [] w w5) := Lib.hid (by rw [hw5]; exact (HW0.out.then HC2.out).new (set5_chg _ _ _) (Nat.le_of_eq HR0.out.symm))
        have g0 := cell_of_heap hq5 0
        have g1 := cell_of_heap hq5 1
        have g2 := cell_of_heap hq5 2
        have g3 := cell_of_heap hq5 3
        have g4 := cell_of_heap hq5 4
        simp at g0 g1 g2 g3 g4
        clear hq5 hw5
        refine bodyPost_ret (v := .tuple #[SL.zero.val, .int .i64 6]) (by simp [results, Tryd.results24, go_sem, g0, g1, g2, g3, g4, SL.val]) rfl ?_
        rw [HE.out, HV.out]
        exact ⟨rfl, HC5.out⟩
      · skip
        obtain ⟨b, off, rfl, hb, hcell⟩ := Hx.out (by rintro rfl; simp at hlt)
        obtain ⟨h1, h2, h3, h4, h5⟩ := hcell k hlt
        obtain ⟨s, hs'⟩ : ∃ s, s = ls.getD k .zero := ⟨_, rfl⟩
        rw [← hs'] at h1 h2 h3 h4 h5 hf
        have kk := HW0.out.then HC2.out
        have k1 := kk.cell h1 (by simp)
        have k2 := kk.cell h2 (by simp)
        have k3 := kk.cell h3 (by simp)
        have k4 := kk.cell h4 (by simp)
        have k5 := kk.cell h5 (by simp)
        clear h1 h2 h3 h4 h5 hcell kk hs'
        have HV : Hid (pickV 2 ls = s) := Lib.hid (by simp [pickV, pickS, hf, hf2])
        have HE : Hid (pickE 2 ls = 0) := Lib.hid (by simp [pickE, pickS, hf, hf2])
        clear hf
        have hres := HC2.out.heap HRES.out (by simp)
        have f0 := frozen_of_heap hres 0
        have f1 := frozen_of_heap hres 1
        have f2 := frozen_of_heap hres 2
        have f3 := frozen_of_heap hres 3
        have f4 := frozen_of_heap hres 4
        have d0 := cell_of_heap hres 0
        have d1 := cell_of_heap hres 1
        have d2 := cell_of_heap hres 2
        have d3 := cell_of_heap hres 3
        have d4 := cell_of_heap hres 4
        simp at d0 d1 d2 d3 d4
        clear hres
        go_wp2
        obtain ⟨w5, hw5⟩ : ∃ w5, w5 = set5 w2 r s := ⟨_, rfl⟩
        change bodyPost _ _ _ _ _ (set5 w2 r s)
        rw [← hw5]
        have hq5 := set5_heap s (HC2.out.heap HRES.out (by simp))
        rw [← hw5] at hq5
        have HC5 : Hid (Chg [] w w5) := Lib.hid (by rw [hw5]; exact (HW0.out.then HC2.out).new (set5_chg _ _ _) (Nat.le_of_eq HR0.out.symm))
        have g0 := cell_of_heap hq5 0
        have g1 := cell_of_heap hq5 1
        have g2 := cell_of_heap hq5 2
        have g3 := cell_of_heap hq5 3
        have g4 := cell_of_heap hq5 4
        simp at g0 g1 g2 g3 g4
        clear hq5 hw5
        refine bodyPost_ret (v := .tuple #[s.val, .int .i64 0]) (by simp [results, Tryd.results24, go_sem, g0, g1, g2, g3, g4, SL.val]) rfl ?_
        rw [HE.out, HV.out]
        exact ⟨rfl, HC5.out⟩
    · clear h0
      go_wp2_with fail
      refine (Find_any 2 (by decide) ls Hok.out _ w2 (HR.out.frame (HW0.out.then HC2.out)) hlen).mono ?_
      rintro e w3 ⟨i3, rfl, h3, hch3⟩
      rcases h3 with ⟨rfl, hf3⟩ | ⟨k, rfl, hlt, hf⟩
      · rw [hf3] at hf'; cases hf'
      · clear hf' hlt'
        have HC := Lib.hid (HC2.out.then hch3)
        clear hch3
        obtain ⟨b, off, rfl, hb, hcell⟩ := Hx.out (by rintro rfl; simp at hlt)
        obtain ⟨h1, h2, h3, h4, h5⟩ := hcell k hlt
        obtain ⟨s, hs'⟩ : ∃ s, s = ls.getD k .zero := ⟨_, rfl⟩
        rw [← hs'] at h1 h2 h3 h4 h5 hf
        have kk := HW0.out.then HC.out
        have k1 := kk.cell h1 (by simp)
        have k2 := kk.cell h2 (by simp)
        have k3 := kk.cell h3 (by simp)
        have k4 := kk.cell h4 (by simp)
        have k5 := kk.cell h5 (by simp)
        clear h1 h2 h3 h4 h5 hcell kk hs'
        have HV : Hid (pickV 2 ls = s) := Lib.hid (by simp [pickV, pickS, hf])
        have HE : Hid (pickE 2 ls = 0) := Lib.hid (by simp [pickE, pickS, hf])
        clear hf
        have hres := HC.out.heap HRES.out (by simp)
        have f0 := frozen_of_heap hres 0
        have f1 := frozen_of_heap hres 1
        have f2 := frozen_of_heap hres 2
        have f3 := frozen_of_heap hres 3
        have f4 := frozen_of_heap hres 4
        have d0 := cell_of_heap hres 0
        have d1 := cell_of_heap hres 1
        have d2 := cell_of_heap hres 2
        have d3 := cell_of_heap hres 3
        have d4 := cell_of_heap hres 4
        simp at d0 d1 d2 d3 d4
        clear hres
        go_wp2
        obtain ⟨w5, hw5⟩ : ∃ w5, w5 = set5 w3 r s := ⟨_, rfl⟩
        change bodyPost _ _ _ _ _ (set5 w3 r s)
        rw [← hw5]
        have hq5 := set5_heap s (HC.out.heap HRES.out (by simp))
        rw [← hw5] at hq5
        have HC5 : Hid (Chg [] w w5) := Lib.hid (by rw [hw5]; exact (HW0.out.then HC.out).new (set5_chg _ _ _) (Nat.le_of_eq HR0.out.symm))
        have g0 := cell_of_heap hq5 0
        have g1 := cell_of_heap hq5 1
        have g2 := cell_of_heap hq5 2
        have g3 := cell_of_heap hq5 3
        have g4 := cell_of_heap hq5 4
        simp at g0 g1 g2 g3 g4
        clear hq5 hw5
        refine bodyPost_ret (v := .tuple #[s.val, .int .i64 0]) (by simp [results, Tryd.results24, go_sem, g0, g1, g2, g3, g4, SL.val]) rfl ?_
        rw [HE.out, HV.out]
        exact ⟨rfl, HC5.out⟩
  · by_cases h1 : arch = 1
    · subst h1
      clear h2
      go_enter Tryd.func24, Tryd.ntmps24
      go_wp2_with fail
      obtain ⟨w0, hw0⟩ : ∃ w0, w0 = w.alloc (.cells #[.int .u32 0, .int .u32 0, .int .u64 0, .int .u64 0, .int .i64 0] 52) := ⟨_, rfl⟩
      obtain ⟨r, hr⟩ : ∃ r, r = w.heap.size := ⟨_, rfl⟩
      have HRES : Hid (w0.heap[r]? = some (.cells #[.int .u32 0, .int .u32 0, .int .u64 0, .int .u64 0, .int .i64 0] 52 (0, 0))) := Lib.hid (by rw [hw0, hr]; exact heap_alloc_eq _ _)
      have HW0 : Hid (Chg [] w w0) := Lib.hid (by rw [hw0]; exact (Chg.refl _ _).alloc _)
      have HR0 : Hid (r = w.heap.size) := Lib.hid (hr)
      rw [← hr, ← hw0]
      clear hw0 hr
      refine (Find_any 0 (by decide) ls Hok.out _ w0 (HR.out.frame HW0.out) hlen).mono ?_
      rintro e w1 ⟨i0, rfl, h0, hch1⟩
      have HC1 := Lib.hid (hch1)
      clear hch1
      rcases h0 with ⟨rfl, hf⟩ | ⟨k, rfl, hlt, hf⟩
      · skip
        have HV : Hid (pickV 1 ls = .zero) := Lib.hid (by simp [pickV, pickS, hf])
        have HE : Hid (pickE 1 ls = 6) := Lib.hid (by simp [pickE, pickS, hf])
        have hres := HC1.out.heap HRES.out (by simp)
        have f0 := frozen_of_heap hres 0
        have f1 := frozen_of_heap hres 1
        have f2 := frozen_of_heap hres 2
        have f3 := frozen_of_heap hres 3
        have f4 := frozen_of_heap hres 4
        have d0 := cell_of_heap hres 0
        have d1 := cell_of_heap hres 1
        have d2 := cell_of_heap hres 2
        have d3 := cell_of_heap hres 3
        have d4 := cell_of_heap hres 4
        simp at d0 d1 d2 d3 d4
        clear hres
        go_wp2
        obtain ⟨w5, hw5⟩ : ∃ w5, w5 = set5 w1 r .zero := ⟨_, rfl⟩
        change bodyPost _ _ _ _ _ (set5 w1 r .zero)
        rw [← hw5]
        have hq5 := set5_heap .zero (HC1.out.heap HRES.out (by simp))
        rw [← hw5] at hq5
        have HC5 : Hid (Chg [] w w5) := Lib.hid (by rw [hw5]; exact (HW0.out.then HC1.out).new (set5_chg _ _ _) (Nat.le_of_eq HR0.out.symm))
        have g0 := cell_of_heap hq5 0
        have g1 := cell_of_heap hq5 1
        have g2 := cell_of_heap hq5 2
        have g3 := cell_of_heap hq5 3
        have g4 := cell_of_heap hq5 4
        simp at g0 g1 g2 g3 g4
        clear hq5 hw5
        refine bodyPost_ret (v := .tuple #[SL.zero.val, .int .i64 6]) (by simp [results, Tryd.results24, go_sem, g0, g1, g2, g3, g4, SL.val]) rfl ?_
        rw [HE.out, HV.out]
        exact ⟨rfl, HC5.out⟩
      · skip
        obtain ⟨b, off, rfl, hb, hcell⟩ := Hx.out (by rintro rfl; simp at hlt)
        obtain ⟨h1, h2, h3, h4, h5⟩ := hcell k hlt
        obtain ⟨s, hs'⟩ : ∃ s, s = ls.getD k .zero := ⟨_, rfl⟩
        rw [← hs'] at h1 h2 h3 h4 h5 hf
        have kk := HW0.out.then HC1.out
        have k1 := kk.cell h1 (by simp)
        have k2 := kk.cell h2 (by simp)
        have k3 := kk.cell h3 (by simp)
        have k4 := kk.cell h4 (by simp)
        have k5 := kk.cell h5 (by simp)
        clear h1 h2 h3 h4 h5 hcell kk hs'
        have HV : Hid (pickV 1 ls = s) := Lib.hid (by simp [pickV, pickS, hf])
        have HE : Hid (pickE 1 ls = 0) := Lib.hid (by simp [pickE, pickS, hf])
        clear hf
        have hres := HC1.out.heap HRES.out (by simp)
        have f0 := frozen_of_heap hres 0
        have f1 := frozen_of_heap hres 1
        have f2 := frozen_of_heap hres 2
        have f3 := frozen_of_heap hres 3
        have f4 := frozen_of_heap hres 4
        have d0 := cell_of_heap hres 0
        have d1 := cell_of_heap hres 1
        have d2 := cell_of_heap hres 2
        have d3 := cell_of_heap hres 3
        have d4 := cell_of_heap hres 4
        simp at d0 d1 d2 d3 d4
        clear hres
        go_wp2
        obtain ⟨w5, hw5⟩ : ∃ w5, w5 = set5 w1 r s := ⟨_, rfl⟩
        change bodyPost _ _ _ _ _ (set5 w1 r s)
        rw [← hw5]
        have hq5 := set5_heap s (HC1.out.heap HRES.out (by simp))
        rw [← hw5] at hq5
        have HC5 : Hid (Chg [] w w5) := Lib.hid (by rw [hw5]; exact (HW0.out.then HC1.out).new (set5_chg _ _ _) (Nat.le_of_eq HR0.out.symm))
        have g0 := cell_of_heap hq5 0
        have g1 := cell_of_heap hq5 1
        have g2 := cell_of_heap hq5 2
        have g3 := cell_of_heap hq5 3
        have g4 := cell_of_heap hq5 4
        simp at g0 g1 g2 g3 g4
        clear hq5 hw5
        refine bodyPost_ret (v := .tuple #[s.val, .int .i64 0]) (by simp [results, Tryd.results24, go_sem, g0, g1, g2, g3, g4, SL.val]) rfl ?_
        rw [HE.out, HV.out]
        exact ⟨rfl, HC5.out⟩
    · have HV : Hid (pickV arch ls = .zero) := Lib.hid (by simp [pickV, pickS, h1, h2])
      have HE : Hid (pickE arch ls = 2) := Lib.hid (by simp [pickE, h1, h2])
      have k1 : (arch != 1) = true := by rw [bne_iff_ne]; exact h1
      have k2 : (arch != 2) = true := by rw [bne_iff_ne]; exact h2
      clear h1 h2
      go_enter Tryd.func24, Tryd.ntmps24
      go_wp2_with fail
      obtain ⟨w0, hw0⟩ : ∃ w0, w0 = w.alloc (.cells #[.int .u32 0, .int .u32 0, .int .u64 0, .int .u64 0, .int .i64 0] 52) := ⟨_, rfl⟩
      obtain ⟨r, hr⟩ : ∃ r, r = w.heap.size := ⟨_, rfl⟩
      have HRES : Hid (w0.heap[r]? = some (.cells #[.int .u32 0, .int .u32 0, .int .u64 0, .int .u64 0, .int .i64 0] 52 (0, 0))) := Lib.hid (by rw [hw0, hr]; exact heap_alloc_eq _ _)
      have HW0 : Hid (Chg [] w w0) := Lib.hid (by rw [hw0]; exact (Chg.refl _ _).alloc _)
      have HR0 : Hid (r = w.heap.size) := Lib.hid (hr)
      rw [← hr, ← hw0]
      clear hw0 hr
      have hres := (Lib.hid (Chg.refl [] w0)).out.heap HRES.out (by simp)
      have f0 := frozen_of_heap hres 0
      have f1 := frozen_of_heap hres 1
      have f2 := frozen_of_heap hres 2
      have f3 := frozen_of_heap hres 3
      have f4 := frozen_of_heap hres 4
      have d0 := cell_of_heap hres 0
      have d1 := cell_of_heap hres 1
      have d2 := cell_of_heap hres 2
      have d3 := cell_of_heap hres 3
      have d4 := cell_of_heap hres 4
      simp at d0 d1 d2 d3 d4
      clear hres
      go_wp2
      refine bodyPost_ret (v := .tuple #[SL.zero.val, .int .i64 2]) (by simp [results, Tryd.results24, go_sem, d0, d1, d2, d3, d4, SL.val, SL.zero]) rfl ?_
      rw [HE.out, HV.out]
      exact ⟨rfl, HW0.out⟩
end Go.Proofs.YtchkombikjcokaaDoor
