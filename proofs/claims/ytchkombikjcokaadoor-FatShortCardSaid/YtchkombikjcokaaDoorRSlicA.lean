/- The document's Slice, whatever the bytes. -/
import Derived.Test.YtchkombikjcokaaDoorRSlice
import Derived.Test.YtchkombikjcokaaDoorRSs
namespace Go.Proofs.YtchkombikjcokaaDoor
open Go.RowKit
set_option maxRecDepth 100000

theorem RSlice_any (arch : Int) (l : List UInt8) (a : Option Addr) (cap : Nat) (w : World) (rd : Rd w (.slice a l.length cap) (bytesV l)) (hl : l.length ≤ 70368744177664) :
    Calls Tryd.prog 20 #[.slice a l.length cap, .int .i64 arch] w fun e w' => e = .returned (.tuple #[takenV arch l, .int .i64 (takenE arch l)]) ∧ Chg [] w w' := by
  have hs : ∀ w1, Chg [] w w1 → _ := fun w1 hc => RSlices_any l a cap w1 (rd.frame hc (fun _ _ hm => by cases hm))
  by_cases h : arch = 1 ∨ arch = 2
  · by_cases h0 : sliceE l = 0
    · have e1 : takenE arch l = pickE arch (sliceL l) := by unfold takenE; rw [if_pos h, if_pos h0]
      have e2 : takenV arch l = spanV (pickV arch (sliceL l)).off (pickV arch (sliceL l)).size := by unfold takenV; rw [if_pos h, if_pos h0]
      rw [e1, e2]
      refine RSlice_of arch h _ w (sliceL l) (sliceL_ok l (by omega)) (by have := sliceL_len l; omega) (fun w1 hc => (hs w1 hc).mono fun e w' ⟨v, he, h1, h2, h3⟩ => ⟨v, ?_, h1 h0, h3⟩)
      rw [he, h0]
    · have e1 : takenE arch l = sliceE l := by unfold takenE; rw [if_pos h, if_neg h0]
      have e2 : takenV arch l = spanV 0 0 := by unfold takenV; rw [if_pos h, if_neg h0]
      rw [e1, e2]
      refine RSlice_err arch h _ _ h0 w (fun w1 hc => (hs w1 hc).mono fun e w' ⟨v, he, h1, h2, h3⟩ => ⟨?_, h3⟩)
      rw [he, h2 h0]
  · have e1 : takenE arch l = 2 := by unfold takenE; rw [if_neg h]
    have e2 : takenV arch l = spanV 0 0 := by unfold takenV; rw [if_neg h]
    rw [e1, e2]
    exact RSlice_arch arch h _ w
end Go.Proofs.YtchkombikjcokaaDoor
