/- clevislaw03.FatPicks. -/
import Derived.Test.YtchkombikjcokaaDoorKnown3
namespace Go.Proofs.YtchkombikjcokaaDoor
open Go.RowKit
set_option maxRecDepth 100000

set_option maxHeartbeats 1000000 in
theorem FatPicks_walk (w : World) (hg : Env w) (ls : List SL) (a : Option Addr) (cap : Nat) (rd : SlRd w (.slice a ls.length cap) ls) (hok : ∀ s ∈ ls, s.ok) (arch : Int) (_ : (Lit.int .i64 arch).wf = true) :
    Calls Tryd.prog 5 #[.slice a ls.length cap, .int .i64 arch] w fun e w' => e = .returned (.bool true) ∧ Chg [] w w' := by
  have HG := Lib.hid hg
  have HR := Lib.hid rd
  have Hok := Lib.hid hok
  clear hg rd hok
  by_cases hl : 60 < ls.length
  · have k1 : decide ((60 : Int) < (ls.length : Int)) = true := by simp; omega
    clear hl
    go_enter Tryd.func5, Tryd.ntmps5
    go_wp2_with fail
    refine (known3 w HG.out).mono ?_
    rintro e w1 ⟨rfl, hch⟩
    have Hch := Lib.hid hch
    clear hch
    go_wp2
    go_ret
    exact ⟨rfl, Hch.out⟩
  · have k1 : decide ((60 : Int) < (ls.length : Int)) = false := by simp; omega
    have hlen : ls.length ≤ 70368744177664 := by omega
    clear hl
    obtain ⟨s, hs⟩ : ∃ s, s = pickV arch ls := ⟨_, rfl⟩
    obtain ⟨E, hE⟩ : ∃ E, E = pickE arch ls := ⟨_, rfl⟩
    have HP := Lib.hid (Pick_any arch ls Hok.out)
    have HQ := Lib.hid (RPick_any arch ls Hok.out)
    rw [← hs, ← hE] at HP HQ
    clear hs hE
    obtain ⟨c, u, o, z, g⟩ := s
    simp only [SL.val] at HP HQ
    go_enter Tryd.func5, Tryd.ntmps5
    go_wp2_with fail
    refine (HP.out _ w HR.out hlen).mono ?_
    rintro e w1 ⟨rfl, hch⟩
    have C1 := Lib.hid (hch)
    clear hch
    go_wp2_with fail
    obtain ⟨X, hX⟩ : ∃ q, q = w1.heap.size := ⟨_, rfl⟩
    obtain ⟨v1, hv1⟩ : ∃ q, q = w1.alloc (.cells #[.int .u32 c, .int .u32 u, .int .u64 o, .int .u64 z, .int .i64 g] 52) := ⟨_, rfl⟩
    have BX : Hid (v1.heap[X]? = some (.cells #[.int .u32 c, .int .u32 u, .int .u64 o, .int .u64 z, .int .i64 g] 52 (0, 0))) := Lib.hid (by rw [hv1, hX]; exact heap_alloc_eq _ _)
    have Cv1 : Hid (Chg [] w1 v1) := Lib.hid (by rw [hv1]; exact (Chg.refl _ _).alloc _)
    rw [← hX, ← hv1]
    clear hX hv1
    refine (HQ.out _ v1 (HR.out.frame (C1.out.then Cv1.out)) hlen).mono ?_
    rintro e w2 ⟨rfl, hch⟩
    have C2 := Lib.hid (hch)
    replace hch := hch.alloc (.cells #[.int .u32 c, .int .u32 u, .int .u64 o, .int .u64 z, .int .i64 g] 52)
    have bx := hch.heap BX.out (by simp)
    have x0 := cell_of_heap bx 0
    have x1 := cell_of_heap bx 1
    have x2 := cell_of_heap bx 2
    have x3 := cell_of_heap bx 3
    have x4 := cell_of_heap bx 4
    simp at x0 x1 x2 x3 x4
    clear hch bx
    go_wp2_with fail
    clear x0 x1 x2 x3 x4
    obtain ⟨Y, hY⟩ : ∃ q, q = w2.heap.size := ⟨_, rfl⟩
    obtain ⟨v2, hv2⟩ : ∃ q, q = w2.alloc (.cells #[.int .u32 c, .int .u32 u, .int .u64 o, .int .u64 z, .int .i64 g] 52) := ⟨_, rfl⟩
    have BY : Hid (v2.heap[Y]? = some (.cells #[.int .u32 c, .int .u32 u, .int .u64 o, .int .u64 z, .int .i64 g] 52 (0, 0))) := Lib.hid (by rw [hv2, hY]; exact heap_alloc_eq _ _)
    have Cv2 : Hid (Chg [] w2 v2) := Lib.hid (by rw [hv2]; exact (Chg.refl _ _).alloc _)
    rw [← hY, ← hv2]
    clear hY hv2
    have D := Lib.hid (C1.out.then (Cv1.out.then (C2.out.then Cv2.out)))
    refine (known3 v2 (HG.out.frame D.out (by simp))).mono ?_
    rintro e w3 ⟨rfl, hch⟩
    have C3 := Lib.hid (hch)
    clear hch
    go_wp2
    go_ret
    exact ⟨rfl, D.out.then C3.out⟩
end Go.Proofs.YtchkombikjcokaaDoor
