/- What a fixup that came in reads as, where it stands bounded (EndB). -/
import Derived.Test.YtgmlcmmphhmogaaEndB
import Derived.Test.YtgmlcmmphhmogaaFxOrd
namespace Go.Proofs.Ytgmlcmmphhmogaa
open Go.ChangeShapes Go.WideShapes Go.RowKit
set_option maxRecDepth 100000

theorem Try.tyFix : (Try.prog.underlying 25).map tyOf = some [(22, 0), (23, 1), (22, 2), (3, 3), (9, 4), (2, 5), (4, 6)] := by kernel_rfl
theorem Try.cFix : Try.prog.cellsOf 25 = 7 := by kernel_rfl
theorem Try.uFixKind : Try.prog.underlying 23 = some (.int .i64) := by kernel_rfl
theorem at_u64 {z : Int} (h : (Lit.int .u64 z).wf = true) : 0 ≤ z ∧ z < 18446744073709551616 := by
  constructor <;> (simp [Lit.wf, IntKind.min, IntKind.max, IntKind.signed, IntKind.bits] at h; omega)
theorem open_fixw {H : Type} {enc : TypeId × Value → H} {W : World} {b0 : Nat} {v : Value} {d : DataW H} {ps : List MemPlace} (hv : Value.okWide Try.prog W .any b0 25 v)
    (h : DataW.Trod enc Try.prog W 0 (fun _ => true) true 25 v d ps) : ∃ f : Fx, v = f.v ∧ 0 ≤ f.at_ ∧ f.at_ < 18446744073709551616 := by
  obtain ⟨fs, hu⟩ : ∃ fs, Try.prog.underlying 25 = some (.struct fs) := by
    have h := Try.tyFix
    cases hu : Try.prog.underlying 25 with
    | none => rw [hu] at h; cases h
    | some d =>
      rw [hu] at h
      simp only [Option.map_some, Option.some.injEq] at h
      cases d with
      | struct fs => exact ⟨fs, rfl⟩
      | _ => exact absurd h.symm (by simp [tyOf])
  obtain ⟨cs, rfl, hsz⟩ := okWide_struct hu hv
  obtain ⟨fuel, hf⟩ := h
  obtain ⟨hl, hfld⟩ := struct_at Try.tyFix (by simp) hf
  obtain ⟨_, _, t0⟩ := hfld 0 _ _ rfl
  obtain ⟨_, _, t1⟩ := hfld 1 _ _ rfl
  obtain ⟨_, _, t2⟩ := hfld 2 _ _ rfl
  obtain ⟨_, _, t3⟩ := hfld 3 _ _ rfl
  obtain ⟨_, _, t4⟩ := hfld 4 _ _ rfl
  obtain ⟨_, _, t5⟩ := hfld 5 _ _ rfl
  obtain ⟨_, _, t6⟩ := hfld 6 _ _ rfl
  obtain ⟨z0, c0, y0⟩ := int_at Try.underlying22 t0
  obtain ⟨z1, c1, _⟩ := int_at Try.uFixKind t1
  obtain ⟨z2, c2, _⟩ := int_at Try.underlying22 t2
  obtain ⟨z3, c3, _⟩ := int_at Try.underlying3 t3
  obtain ⟨z4, c4⟩ := str_at Try.underlying9 t4
  obtain ⟨z5, c5, _⟩ := int_at Try.underlying2 t5
  obtain ⟨z6, c6⟩ := bool_at Try.underlying4 t6
  refine ⟨⟨z0, z1, z2, z3, z4, z5, z6⟩, ?_, at_u64 y0⟩
  rw [Try.cFix] at hsz
  unfold Fx.v
  congr 1
  have e : (Value.agg cs).cells = cs := rfl
  rw [e] at c0 c1 c2 c3 c4 c5 c6
  apply Array.ext_getElem?
  intro i
  match i with
  | 0 => simpa using c0
  | 1 => simpa using c1
  | 2 => simpa using c2
  | 3 => simpa using c3
  | 4 => simpa using c4
  | 5 => simpa using c5
  | 6 => simpa using c6
  | i + 7 => rw [Array.getElem?_eq_none (by omega)]; simp
end Go.Proofs.Ytgmlcmmphhmogaa
