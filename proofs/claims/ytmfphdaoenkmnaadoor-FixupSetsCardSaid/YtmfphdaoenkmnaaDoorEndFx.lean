/- What a fixup that came in reads as. -/
import Derived.Test.YtmfphdaoenkmnaaDoorEnd12
import Derived.Test.YtmfphdaoenkmnaaDoorFxOrd
namespace Go.Proofs.YtmfphdaoenkmnaaDoor
open Go.ChangeShapes Go.WideShapes Go.RowKit
set_option maxRecDepth 100000

theorem Tryd.tyFix : (Tryd.prog.underlying 32).map tyOf = some [(29, 0), (30, 1), (29, 2), (3, 3), (9, 4), (2, 5), (4, 6)] := by kernel_rfl
theorem Tryd.cFix : Tryd.prog.cellsOf 32 = 7 := by kernel_rfl
theorem Tryd.uFixKind : Tryd.prog.underlying 30 = some (.int .i64) := by kernel_rfl
section
variable {H : Type} {enc : TypeId × Value → H} {P : Program} {w : World} {base : Nat} {spare : Nat → Bool} {held : Bool}
theorem str_at {t : TypeId} (hu : P.underlying t = some .string) {n o k : Nat} {cs : List Value} {y : DataW H × List MemPlace} (h : DataW.trod enc P w base spare held n t ((cs.drop o).take k) = some y) :
    ∃ s : ByteArray, cs[o]? = some (.string s) := by
  obtain ⟨z, hc, _, _⟩ := DataW.trod_string hu h
  refine ⟨z, ?_⟩
  have : ((cs.drop o).take k)[0]? = some (.string z) := by rw [hc]; rfl
  rw [List.getElem?_take] at this
  split at this
  · simpa using this
  · cases this
theorem bool_at {t : TypeId} (hu : P.underlying t = some .bool) {n o k : Nat} {cs : List Value} {y : DataW H × List MemPlace} (h : DataW.trod enc P w base spare held n t ((cs.drop o).take k) = some y) :
    ∃ s : Bool, cs[o]? = some (.bool s) := by
  obtain ⟨z, hc, _⟩ := DataW.trod_bool hu h
  refine ⟨z, ?_⟩
  have : ((cs.drop o).take k)[0]? = some (.bool z) := by rw [hc]; rfl
  rw [List.getElem?_take] at this
  split at this
  · simpa using this
  · cases this
end
theorem open_fix {H : Type} {enc : TypeId × Value → H} {W : World} {b0 : Nat} {v : Value} {d : DataW H} {ps : List MemPlace} (hv : Value.okWide Tryd.prog W .any b0 32 v)
    (h : DataW.Trod enc Tryd.prog W 0 (fun _ => true) true 32 v d ps) : ∃ f : Fx, v = f.v := by
  obtain ⟨fs, hu⟩ : ∃ fs, Tryd.prog.underlying 32 = some (.struct fs) := by
    have h := Tryd.tyFix
    cases hu : Tryd.prog.underlying 32 with
    | none => rw [hu] at h; cases h
    | some d =>
      rw [hu] at h
      simp only [Option.map_some, Option.some.injEq] at h
      cases d with
      | struct fs => exact ⟨fs, rfl⟩
      | _ => exact absurd h.symm (by simp [tyOf])
  obtain ⟨cs, rfl, hsz⟩ := okWide_struct hu hv
  obtain ⟨fuel, hf⟩ := h
  obtain ⟨hl, hfld⟩ := struct_at Tryd.tyFix (by simp) hf
  obtain ⟨_, _, t0⟩ := hfld 0 _ _ rfl
  obtain ⟨_, _, t1⟩ := hfld 1 _ _ rfl
  obtain ⟨_, _, t2⟩ := hfld 2 _ _ rfl
  obtain ⟨_, _, t3⟩ := hfld 3 _ _ rfl
  obtain ⟨_, _, t4⟩ := hfld 4 _ _ rfl
  obtain ⟨_, _, t5⟩ := hfld 5 _ _ rfl
  obtain ⟨_, _, t6⟩ := hfld 6 _ _ rfl
  obtain ⟨z0, c0, _⟩ := int_at Tryd.underlying29 t0
  obtain ⟨z1, c1, _⟩ := int_at Tryd.uFixKind t1
  obtain ⟨z2, c2, _⟩ := int_at Tryd.underlying29 t2
  obtain ⟨z3, c3, _⟩ := int_at Tryd.underlying3 t3
  obtain ⟨z4, c4⟩ := str_at Tryd.underlying9 t4
  obtain ⟨z5, c5, _⟩ := int_at Tryd.underlying2 t5
  obtain ⟨z6, c6⟩ := bool_at Tryd.underlying4 t6
  refine ⟨⟨z0, z1, z2, z3, z4, z5, z6⟩, ?_⟩
  rw [Tryd.cFix] at hsz
  unfold Fx.v
  congr 1
  have e : (Value.agg cs).cells = cs := rfl
  rw [e] at c0 c1 c2 c3 c4 c5 c6
  apply Array.ext_getElem?
  intro i
  match i with
  | 0 => simpa using c0
  | 1 => simpa using c1
  | 2 => simpa using c2
  | 3 => simpa using c3
  | 4 => simpa using c4
  | 5 => simpa using c5
  | 6 => simpa using c6
  | i + 7 => rw [Array.getElem?_eq_none (by omega)]; simp
end Go.Proofs.YtmfphdaoenkmnaaDoor
