/- What a slice of imports that came in reads as. -/
import Derived.Test.YtljndlnmpnkecaaEndB
import Derived.Test.YtljndlnmpnkecaaRecImp
namespace Go.Proofs.Ytljndlnmpnkecaa
open Go.ChangeShapes Go.WideShapes Go.RowKit
set_option maxRecDepth 100000

theorem Try.tyImp : (Try.prog.underlying 29).map tyOf = some [(3, 0), (4, 1), (9, 2), (2, 3)] := by kernel_rfl
theorem Try.cImp : Try.prog.cellsOf 29 = 4 := by kernel_rfl
theorem Try.uImps : Try.prog.underlying 22 = some (.slice 29) := by kernel_rfl
theorem Try.uImp_ord : Try.prog.underlying 3 = some (.int .i64) := by kernel_rfl
theorem Try.uImp_weak : Try.prog.underlying 4 = some (.bool) := by kernel_rfl
theorem Try.uImp_sym : Try.prog.underlying 9 = some (.string) := by kernel_rfl
theorem Try.uImp_add : Try.prog.underlying 2 = some (.int .i64) := by kernel_rfl
theorem open_imps {H : Type} {enc : TypeId × Value → H} {W : World} {a : Option Addr} {len cap : Nat} {d : DataW H} {ps : List MemPlace}
    (h : DataW.Trod enc Try.prog W 0 (fun _ => true) true 22 (.slice a len cap) d ps) :
    ∃ ls : List Imp, ls.length = len ∧ impL.Rd W (.slice a len cap) ls ∧ ∀ x ∈ ls, Imp.wf x := by
  obtain ⟨h1, h2, h3⟩ := open_rows Try.uImps Try.cImp (by decide) h
  rcases Nat.eq_zero_or_pos len with rfl | hp
  · exact ⟨[], rfl, ⟨_, _, _, rfl, rfl, h1, h2, fun h => absurd rfl h⟩, fun s hs => by cases hs⟩
  · obtain ⟨b, off, rfl, hb, hi⟩ := h3 hp
    obtain ⟨ms, hl, hq⟩ := list_of Imp.zero (fun j s => Imp.wf s ∧ ∀ c, c < 4 → W.cell? ⟨b, off + j * 4 + c, none⟩ = s.cells[c]?) len (fun j hj => by
      obtain ⟨cs, n, x, ht, hcl, hat⟩ := hi j hj
      obtain ⟨_, hfld⟩ := struct_at Try.tyImp (by simp) ht
      obtain ⟨_, _, t0⟩ := hfld 0 _ _ rfl
      obtain ⟨_, _, t1⟩ := hfld 1 _ _ rfl
      obtain ⟨_, _, t2⟩ := hfld 2 _ _ rfl
      obtain ⟨_, _, t3⟩ := hfld 3 _ _ rfl
      obtain ⟨z0, c0, w0⟩ := int_at Try.uImp_ord t0
      obtain ⟨z1, c1⟩ := bool_at Try.uImp_weak t1
      obtain ⟨z2, c2⟩ := str_at Try.uImp_sym t2
      obtain ⟨z3, c3, w3⟩ := int_at Try.uImp_add t3
      refine ⟨⟨z0, z1, z2, z3⟩, ⟨w0, w3⟩, fun c hc => ?_⟩
      rw [hat c hc]
      match c, hc with
      | 0, _ => exact c0
      | 1, _ => exact c1
      | 2, _ => exact c2
      | 3, _ => exact c3
      | c + 4, hc => exact absurd hc (by omega))
    refine ⟨ms, hl, ⟨_, _, _, rfl, hl.symm, h1, h2, fun _ => ⟨b, off, rfl, hb, fun j hj => (hq j (by omega)).2⟩⟩, fun s hs => ?_⟩
    obtain ⟨j, hj, rfl⟩ := List.getElem_of_mem hs
    have := (hq j (by omega)).1
    rwa [List.getD_eq_getElem?_getD, List.getElem?_eq_getElem hj] at this
end Go.Proofs.Ytljndlnmpnkecaa
