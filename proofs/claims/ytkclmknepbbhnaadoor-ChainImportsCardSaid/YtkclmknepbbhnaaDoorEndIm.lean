/- What an argument of the type api.Import reads as (printed by mkopen1.py). -/
import Derived.Test.YtkclmknepbbhnaaDoorEndD
import Derived.Test.YtkclmknepbbhnaaDoorRecImp
namespace Go.Proofs.YtkclmknepbbhnaaDoor
open Go.ChangeShapes Go.WideShapes Go.RowKit
set_option maxRecDepth 100000

theorem Tryd.ty1Imp : (Tryd.prog.underlying 23).map tyOf = some [(3, 0), (4, 1), (9, 2), (2, 3)] := by kernel_rfl
theorem Tryd.c1Imp : Tryd.prog.cellsOf 23 = 4 := by kernel_rfl
theorem Tryd.u1Imp_ord : Tryd.prog.underlying 3 = some (.int .i64) := by kernel_rfl
theorem Tryd.u1Imp_weak : Tryd.prog.underlying 4 = some (.bool) := by kernel_rfl
theorem Tryd.u1Imp_sym : Tryd.prog.underlying 9 = some (.string) := by kernel_rfl
theorem Tryd.u1Imp_add : Tryd.prog.underlying 2 = some (.int .i64) := by kernel_rfl
theorem open_imp {H : Type} {enc : TypeId × Value → H} {W : World} {b0 : Nat} {v : Value} {d : DataW H} {ps : List MemPlace} (hv : Value.okWide Tryd.prog W .any b0 23 v)
    (h : DataW.Trod enc Tryd.prog W 0 (fun _ => true) true 23 v d ps) : ∃ f : Imp, v = impL.val f ∧ f.wf := by
  obtain ⟨fs, hu⟩ : ∃ fs, Tryd.prog.underlying 23 = some (.struct fs) := by
    have h := Tryd.ty1Imp
    cases hu : Tryd.prog.underlying 23 with
    | none => rw [hu] at h; cases h
    | some d =>
      rw [hu] at h
      simp only [Option.map_some, Option.some.injEq] at h
      cases d with
      | struct fs => exact ⟨fs, rfl⟩
      | _ => exact absurd h.symm (by simp [tyOf])
  obtain ⟨cs, rfl, hsz⟩ := okWide_struct hu hv
  obtain ⟨fuel, hf⟩ := h
  obtain ⟨hl, hfld⟩ := struct_at Tryd.ty1Imp (by simp) hf
  obtain ⟨_, _, t0⟩ := hfld 0 _ _ rfl
  obtain ⟨_, _, t1⟩ := hfld 1 _ _ rfl
  obtain ⟨_, _, t2⟩ := hfld 2 _ _ rfl
  obtain ⟨_, _, t3⟩ := hfld 3 _ _ rfl
  obtain ⟨z0, c0, w0⟩ := int_at Tryd.u1Imp_ord t0
  obtain ⟨z1, c1⟩ := bool_at Tryd.u1Imp_weak t1
  obtain ⟨z2, c2⟩ := str_at Tryd.u1Imp_sym t2
  obtain ⟨z3, c3, w3⟩ := int_at Tryd.u1Imp_add t3
  refine ⟨⟨z0, z1, z2, z3⟩, ?_, ⟨w0, w3⟩⟩
  rw [Tryd.c1Imp] at hsz
  show Value.agg cs = Value.agg _
  congr 1
  have e : (Value.agg cs).cells = cs := rfl
  rw [e] at c0 c1 c2 c3
  apply Array.ext_getElem?
  intro i
  match i with
  | 0 => simpa [impL, Imp.cells] using c0
  | 1 => simpa [impL, Imp.cells] using c1
  | 2 => simpa [impL, Imp.cells] using c2
  | 3 => simpa [impL, Imp.cells] using c3
  | i + 4 => rw [Array.getElem?_eq_none (by omega)]; simp [impL, Imp.cells]
end Go.Proofs.YtkclmknepbbhnaaDoor
