/- Lemmas, laid together: part 46 of 46. Conditions: none but each lemma's own. -/
import Derived.Test.YtaipelkegemoeaaGreatDoorJ45
import Derived.Test.YtaipelkegemoeaaGreatDoorJ28
/- What a slice of fixups that came in reads as (a row with laid variables: EndD). -/
namespace Go.Proofs.YtaipelkegemoeaaGreatDoor
open Go.ChangeShapes Go.WideShapes Go.RowKit
set_option maxRecDepth 100000

theorem Tryz.tyFix : (Tryz.prog.underlying 46).map tyOf = some [(28, 0), (44, 1), (28, 2), (3, 3), (9, 4), (2, 5), (4, 6)] := by kernel_rfl
theorem Tryz.cFix : Tryz.prog.cellsOf 46 = 7 := by kernel_rfl
theorem Tryz.uFixKind : Tryz.prog.underlying 44 = some (.int .i64) := by kernel_rfl
theorem Tryz.uFixs : Tryz.prog.underlying 23 = some (.slice 46) := by kernel_rfl
theorem at_u64 {z : Int} (h : (Lit.int .u64 z).wf = true) : 0 ≤ z ∧ z < 18446744073709551616 := by
  constructor <;> (simp [Lit.wf, IntKind.min, IntKind.max, IntKind.signed, IntKind.bits] at h; omega)
theorem open_fixs {H : Type} {enc : TypeId × Value → H} {W : World} {a : Option Addr} {len cap : Nat} {d : DataW H} {ps : List MemPlace}
    (h : DataW.Trod enc Tryz.prog W 0 (fun _ => true) true 23 (.slice a len cap) d ps) :
    ∃ ls : List Fx, ls.length = len ∧ FxRd W (.slice a len cap) ls ∧ ∀ f ∈ ls, 0 ≤ f.at_ ∧ f.at_ < 18446744073709551616 := by
  obtain ⟨h1, h2, h3⟩ := open_rows Tryz.uFixs Tryz.cFix (by decide) h
  rcases Nat.eq_zero_or_pos len with rfl | hp
  · exact ⟨[], rfl, ⟨_, _, _, rfl, rfl, h1, h2, fun h => absurd rfl h⟩, fun s hs => by cases hs⟩
  · obtain ⟨b, off, rfl, hb, hi⟩ := h3 hp
    obtain ⟨ms, hl, hq⟩ := list_of Fx.zero (fun j s => (0 ≤ s.at_ ∧ s.at_ < 18446744073709551616) ∧ ∀ c, c < 7 → W.cell? ⟨b, off + j * 7 + c, none⟩ = s.cells[c]?) len (fun j hj => by
      obtain ⟨cs, n, x, ht, hcl, hat⟩ := hi j hj
      obtain ⟨_, hfld⟩ := struct_at Tryz.tyFix (by simp) ht
      obtain ⟨_, _, t0⟩ := hfld 0 _ _ rfl
      obtain ⟨_, _, t1⟩ := hfld 1 _ _ rfl
      obtain ⟨_, _, t2⟩ := hfld 2 _ _ rfl
      obtain ⟨_, _, t3⟩ := hfld 3 _ _ rfl
      obtain ⟨_, _, t4⟩ := hfld 4 _ _ rfl
      obtain ⟨_, _, t5⟩ := hfld 5 _ _ rfl
      obtain ⟨_, _, t6⟩ := hfld 6 _ _ rfl
      obtain ⟨z0, c0, w0⟩ := int_at Tryz.underlying28 t0
      obtain ⟨z1, c1, _⟩ := int_at Tryz.uFixKind t1
      obtain ⟨z2, c2, _⟩ := int_at Tryz.underlying28 t2
      obtain ⟨z3, c3, _⟩ := int_at Tryz.underlying3 t3
      obtain ⟨z4, c4⟩ := str_at Tryz.underlying9 t4
      obtain ⟨z5, c5, _⟩ := int_at Tryz.underlying2 t5
      obtain ⟨z6, c6⟩ := bool_at Tryz.underlying4 t6
      refine ⟨⟨z0, z1, z2, z3, z4, z5, z6⟩, (by have := at_u64 w0; simp only; omega), fun c hc => ?_⟩
      rw [hat c hc]
      match c, hc with
      | 0, _ => exact c0
      | 1, _ => exact c1
      | 2, _ => exact c2
      | 3, _ => exact c3
      | 4, _ => exact c4
      | 5, _ => exact c5
      | 6, _ => exact c6
      | c + 7, hc => exact absurd hc (by omega))
    refine ⟨ms, hl, ⟨_, _, _, rfl, hl.symm, h1, h2, fun _ => ⟨b, off, rfl, hb, fun j hj => (hq j (by omega)).2⟩⟩, fun s hs => ?_⟩
    obtain ⟨j, hj, rfl⟩ := List.getElem_of_mem hs
    have := (hq j (by omega)).1
    rwa [List.getD_eq_getElem?_getD, List.getElem?_eq_getElem hj] at this
end Go.Proofs.YtaipelkegemoeaaGreatDoor
