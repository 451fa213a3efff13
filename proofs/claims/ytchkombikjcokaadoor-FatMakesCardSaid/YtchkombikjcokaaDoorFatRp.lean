/- Plain: each slice that is told stands in the file. -/
import Derived.Test.YtchkombikjcokaaDoorSliceF
namespace Go.Proofs.YtchkombikjcokaaDoor
open Go.RowKit
set_option maxRecDepth 100000

theorem entE_in (l : List UInt8) (size width : Nat) (h : entE l size width apE = 0) : ∀ s ∈ entries l size width (num l 4 4), s.off + s.size ≤ l.length := by
  unfold entE at h
  split at h
  · exact absurd h (by decide)
  split at h
  · exact absurd h (by decide)
  split at h
  · exact absurd h (by decide)
  split at h
  · rename_i hm
    unfold maysB at hm
    rw [List.all_eq_true] at hm
    intro s hs
    have := hm s hs
    unfold mayS at this
    simp only [Bool.and_eq_true, decide_eq_true_eq] at this
    exact this.2
  · exact absurd h (by decide)
theorem sliceL_in (l : List UInt8) (h : sliceE l = 0) : ∀ s ∈ sliceL l, s.off + s.size ≤ l.length := by
  unfold sliceE at h
  split at h
  · exact absurd h (by decide)
  split at h
  · exact absurd h (by decide)
  split at h
  · rename_i m
    unfold sliceL
    rw [if_pos m]
    intro s hs
    rw [List.mem_singleton] at hs
    subst hs
    show 0 + l.length ≤ l.length
    omega
  · rename_i m1
    split at h
    · rename_i m2
      unfold sliceL
      rw [if_neg m1, if_pos m2]
      exact entE_in l 20 4 h
    · rename_i m2
      split at h
      · unfold sliceL
        rw [if_neg m1, if_neg m2]
        exact entE_in l 32 8 h
      · exact absurd h (by decide)
/-- The span that is taken, as two numbers. -/
def takenO (arch : Int) (l : List UInt8) : Nat := if arch = 1 ∨ arch = 2 then (if sliceE l = 0 then (pickV arch (sliceL l)).off else 0) else 0
def takenZ (arch : Int) (l : List UInt8) : Nat := if arch = 1 ∨ arch = 2 then (if sliceE l = 0 then (pickV arch (sliceL l)).size else 0) else 0
theorem takenV_eq (arch : Int) (l : List UInt8) : takenV arch l = spanV (takenO arch l) (takenZ arch l) := by
  unfold takenV takenO takenZ
  split
  · split <;> rfl
  · rfl
theorem findS_mem {sub : Nat} {ls : List SL} {s : SL} (h : findS sub ls = some s) : s ∈ ls := List.mem_of_find?_eq_some h
theorem pickS_mem {arch : Int} {ls : List SL} {s : SL} (h : pickS arch ls = some s) : s ∈ ls := by
  unfold pickS at h
  split at h
  · cases h2 : findS 2 ls with
    | some t => rw [h2] at h; cases h; exact findS_mem h2
    | none => rw [h2] at h; exact findS_mem h
  · split at h
    · exact findS_mem h
    · cases h
theorem taken_in (arch : Int) (l : List UInt8) : takenO arch l + takenZ arch l ≤ l.length := by
  unfold takenO takenZ
  split
  · split
    · rename_i h0
      unfold pickV
      cases hp : pickS arch (sliceL l) with
      | none => show 0 + 0 ≤ _; omega
      | some s => exact sliceL_in l h0 s (pickS_mem hp)
    · omega
  · omega
end Go.Proofs.YtchkombikjcokaaDoor
