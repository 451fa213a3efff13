/- What a slice of fixups that came in reads as. -/
import Derived.Test.YtmfphdaoenkmnaaDoorEndFx
import Derived.Test.YtmfphdaoenkmnaaDoorFxRow
namespace Go.Proofs.YtmfphdaoenkmnaaDoor
open Go.ChangeShapes Go.WideShapes Go.RowKit
set_option maxRecDepth 100000

theorem Tryd.uFixs : Tryd.prog.underlying 22 = some (.slice 32) := by kernel_rfl
theorem list_of {α : Type} (d : α) (Q : Nat → α → Prop) : ∀ n, (∀ i, i < n → ∃ s, Q i s) → ∃ l : List α, l.length = n ∧ ∀ i, i < n → Q i (l.getD i d)
  | 0, _ => ⟨[], rfl, fun i hi => absurd hi (Nat.not_lt_zero i)⟩
  | n + 1, h => by
    obtain ⟨l, hl, hq⟩ := list_of d Q n (fun i hi => h i (by omega))
    obtain ⟨s, hs⟩ := h n (by omega)
    refine ⟨l ++ [s], by simp [hl], fun i hi => ?_⟩
    by_cases hin : i < n
    · have := hq i hin
      rw [List.getD_eq_getElem?_getD] at this ⊢
      rw [List.getElem?_append_left (by omega)]
      exact this
    · obtain rfl : i = n := by omega
      rw [List.getD_eq_getElem?_getD, List.getElem?_append_right (by omega), hl, Nat.sub_self]
      exact hs
/-- A slice of structs whose cells are C each: its elements' cells, and what is read of each. -/
theorem open_rows {H : Type} {enc : TypeId × Value → H} {T E : TypeId} {C : Nat} {W : World} {a : Option Addr} {len cap : Nat} {d : DataW H} {ps : List MemPlace} (hu : Tryd.prog.underlying T = some (.slice E)) (hC : Tryd.prog.cellsOf E = C) (hC0 : 0 < C)
    (h : DataW.Trod enc Tryd.prog W 0 (fun _ => true) true T (.slice a len cap) d ps) :
    len ≤ cap ∧ cap ≤ maxLen ∧ (0 < len → ∃ b off, a = some ⟨b, off, none⟩ ∧ b < W.heap.size ∧
      ∀ i, i < len → ∃ cs n x, DataW.trod enc Tryd.prog W 0 (fun _ => true) true n E cs = some x ∧ cs.length = C ∧ ∀ j, j < C → W.cell? ⟨b, off + i * C + j, none⟩ = cs[j]?) := by
  obtain ⟨fuel, hf⟩ := h
  rcases Go.Deep.open_slice hu hf with ⟨hcs, _⟩ | ⟨ad, l, c, m, n, D, Pl, hcs, _, hl, hm, hmm, _, hi⟩
  · simp [Value.cells] at hcs
    obtain ⟨rfl, rfl, rfl⟩ := hcs
    exact ⟨Nat.le_refl _, Nat.zero_le _, fun h => absurd h (by omega)⟩
  · simp [Value.cells] at hcs
    obtain ⟨rfl, rfl, rfl⟩ := hcs
    refine ⟨hl, hm, fun hp => ?_⟩
    have hm' : m = cap := by simpa using hmm
    rw [hC] at hi
    have key : ∀ i, i < len → ∃ cs n x, DataW.trod enc Tryd.prog W 0 (fun _ => true) true n E cs = some x ∧ cs.length = C ∧ ∀ j, j < C → W.cell? (ad.add (i * C + j)) = cs[j]? := fun i hil => by
      obtain ⟨cs, hc, ht⟩ := hi i (by omega)
      obtain ⟨_, hcl, hat⟩ := World.cells?_some hc
      exact ⟨cs, _, _, ht, hcl, fun j hj => by rw [← Go.Deep.add_add]; exact hat j hj⟩
    obtain ⟨b, off, spot⟩ := ad
    obtain ⟨cs, _, _, _, hcl, hc0⟩ := key 0 hp
    have h0 := hc0 0 hC0
    have hv : cs[0]? = some (cs[0]'(by omega)) := List.getElem?_eq_getElem (by omega)
    rw [hv] at h0
    have hspot : spot = none := by simpa [Addr.add] using World.cell?_spot h0
    subst hspot
    refine ⟨b, off, rfl, ?_, fun i hil => ?_⟩
    · rw [Go.WideShapes.add_plain] at h0
      exact World.block_lt_of_cell? _ _ h0
    · obtain ⟨cs, n, x, ht, hcl, hat⟩ := key i hil
      exact ⟨cs, n, x, ht, hcl, fun j hj => by rw [← hat j hj, Go.WideShapes.add_plain, Nat.add_assoc]⟩

theorem open_fixs {H : Type} {enc : TypeId × Value → H} {W : World} {a : Option Addr} {len cap : Nat} {d : DataW H} {ps : List MemPlace}
    (h : DataW.Trod enc Tryd.prog W 0 (fun _ => true) true 22 (.slice a len cap) d ps) :
    ∃ ls : List Fx, ls.length = len ∧ FxRd W (.slice a len cap) ls ∧ ∀ f ∈ ls, 0 ≤ f.at_ ∧ f.at_ < 18446744073709551616 := by
  obtain ⟨h1, h2, h3⟩ := open_rows Tryd.uFixs Tryd.cFix (by decide) h
  rcases Nat.eq_zero_or_pos len with rfl | hp
  · exact ⟨[], rfl, ⟨_, _, _, rfl, rfl, h1, h2, fun h => absurd rfl h⟩, fun s hs => by cases hs⟩
  · obtain ⟨b, off, rfl, hb, hi⟩ := h3 hp
    obtain ⟨ms, hl, hq⟩ := list_of Fx.zero (fun j s => (0 ≤ s.at_ ∧ s.at_ < 18446744073709551616) ∧ ∀ c, c < 7 → W.cell? ⟨b, off + j * 7 + c, none⟩ = s.cells[c]?) len (fun j hj => by
      obtain ⟨cs, n, x, ht, hcl, hat⟩ := hi j hj
      obtain ⟨_, hfld⟩ := struct_at Tryd.tyFix (by simp) ht
      obtain ⟨_, _, t0⟩ := hfld 0 _ _ rfl
      obtain ⟨_, _, t1⟩ := hfld 1 _ _ rfl
      obtain ⟨_, _, t2⟩ := hfld 2 _ _ rfl
      obtain ⟨_, _, t3⟩ := hfld 3 _ _ rfl
      obtain ⟨_, _, t4⟩ := hfld 4 _ _ rfl
      obtain ⟨_, _, t5⟩ := hfld 5 _ _ rfl
      obtain ⟨_, _, t6⟩ := hfld 6 _ _ rfl
      obtain ⟨z0, c0, w0⟩ := int_at Tryd.underlying29 t0
      obtain ⟨z1, c1, _⟩ := int_at Tryd.uFixKind t1
      obtain ⟨z2, c2, _⟩ := int_at Tryd.underlying29 t2
      obtain ⟨z3, c3, _⟩ := int_at Tryd.underlying3 t3
      obtain ⟨z4, c4⟩ := str_at Tryd.underlying9 t4
      obtain ⟨z5, c5, _⟩ := int_at Tryd.underlying2 t5
      obtain ⟨z6, c6⟩ := bool_at Tryd.underlying4 t6
      refine ⟨⟨z0, z1, z2, z3, z4, z5, z6⟩, (by have := bounds_u64 w0; simp only; omega), fun c hc => ?_⟩
      rw [hat c hc]
      match c, hc with
      | 0, _ => exact c0
      | 1, _ => exact c1
      | 2, _ => exact c2
      | 3, _ => exact c3
      | 4, _ => exact c4
      | 5, _ => exact c5
      | 6, _ => exact c6
      | c + 7, hc => exact absurd hc (by omega))
    refine ⟨ms, hl, ⟨_, _, _, rfl, hl.symm, h1, h2, fun _ => ⟨b, off, rfl, hb, fun j hj => (hq j (by omega)).2⟩⟩, fun s hs => ?_⟩
    obtain ⟨j, hj, rfl⟩ := List.getElem_of_mem hs
    have := (hq j (by omega)).1
    rwa [List.getD_eq_getElem?_getD, List.getElem?_eq_getElem hj] at this
end Go.Proofs.YtmfphdaoenkmnaaDoor
