/- What a slice of structs that came in reads as, whatever its fields; a slice of slices of a fat file. -/
import Derived.Test.YtchkombikjcokaaDoorEnd
import Derived.Test.YtchkombikjcokaaDoorFind
import Derived.Deep.Slices
namespace Go.Proofs.YtchkombikjcokaaDoor
open Go.ChangeShapes Go.WideShapes Go.RowKit

def tyOf : TypeDesc → List (TypeId × Nat)
  | .struct fs => fs.toList.map fun f => (f.type, f.offset)
  | _ => []
section
variable {H : Type} {enc : TypeId × Value → H} {P : Program} {w : World} {base : Nat} {spare : Nat → Bool} {held : Bool}
theorem struct_at {t : TypeId} {l : List (TypeId × Nat)} (h : (P.underlying t).map tyOf = some l) (hne : l ≠ []) {fuel : Nat} {cs : List Value} {x : DataW H × List MemPlace}
    (ht : DataW.trod enc P w base spare held fuel t cs = some x) :
    cs.length = P.cellsOf t ∧ ∀ (j : Nat) (ty : TypeId) (o : Nat), l[j]? = some (ty, o) → ∃ n y, DataW.trod enc P w base spare held n ty ((cs.drop o).take (P.cellsOf ty)) = some y := by
  cases hu : P.underlying t with
  | none => rw [hu] at h; cases h
  | some d =>
    rw [hu] at h
    simp only [Option.map_some, Option.some.injEq] at h
    cases d with
    | struct fs =>
      obtain ⟨xs, n, _, rfl, hl, hlen, hf⟩ := DataW.trod_struct hu ht
      refine ⟨hl, fun j ty o hj => ?_⟩
      rw [← h] at hj
      simp only [tyOf, List.getElem?_map, Array.getElem?_toList] at hj
      cases hfj : fs[j]? with
      | none => rw [hfj] at hj; cases hj
      | some f =>
        rw [hfj] at hj
        simp only [Option.map_some, Option.some.injEq, Prod.mk.injEq] at hj
        obtain ⟨rfl, rfl⟩ := hj
        have hjl : j < fs.size := (Array.getElem?_eq_some_iff.1 hfj).1
        have hy : xs[j]? = some (xs[j]'(by omega)) := List.getElem?_eq_getElem (by omega)
        exact ⟨_, _, (hf j f hfj).trans hy⟩
    | _ => exact absurd h.symm hne
theorem int_at {t : TypeId} {K : IntKind} (hu : P.underlying t = some (.int K)) {n o k : Nat} {cs : List Value} {y : DataW H × List MemPlace} (h : DataW.trod enc P w base spare held n t ((cs.drop o).take k) = some y) :
    ∃ z : Int, cs[o]? = some (.int K z) ∧ (Lit.int K z).wf = true := by
  obtain ⟨z, hc, _, hw⟩ := DataW.trod_int hu h
  refine ⟨z, ?_, hw⟩
  have : ((cs.drop o).take k)[0]? = some (.int K z) := by rw [hc]; rfl
  rw [List.getElem?_take] at this
  split at this
  · simpa using this
  · cases this
end
theorem list_of {α : Type} (d : α) (Q : Nat → α → Prop) : ∀ n, (∀ i, i < n → ∃ s, Q i s) → ∃ l : List α, l.length = n ∧ ∀ i, i < n → Q i (l.getD i d)
  | 0, _ => ⟨[], rfl, fun i hi => absurd hi (Nat.not_lt_zero i)⟩
  | n + 1, h => by
    obtain ⟨l, hl, hq⟩ := list_of d Q n (fun i hi => h i (by omega))
    obtain ⟨s, hs⟩ := h n (by omega)
    refine ⟨l ++ [s], by simp [hl], fun i hi => ?_⟩
    by_cases hin : i < n
    · have := hq i hin
      rw [List.getD_eq_getElem?_getD] at this ⊢
      rw [List.getElem?_append_left (by omega)]
      exact this
    · obtain rfl : i = n := by omega
      rw [List.getD_eq_getElem?_getD, List.getElem?_append_right (by omega), hl, Nat.sub_self]
      exact hs
/-- A slice of structs whose cells are C each: its elements' cells, and what is read of each. -/
theorem open_rows {H : Type} {enc : TypeId × Value → H} {T E : TypeId} {C : Nat} {W : World} {a : Option Addr} {len cap : Nat} {d : DataW H} {ps : List MemPlace} (hu : Tryd.prog.underlying T = some (.slice E)) (hC : Tryd.prog.cellsOf E = C) (hC0 : 0 < C)
    (h : DataW.Trod enc Tryd.prog W 0 (fun _ => true) true T (.slice a len cap) d ps) :
    len ≤ cap ∧ cap ≤ maxLen ∧ (0 < len → ∃ b off, a = some ⟨b, off, none⟩ ∧ b < W.heap.size ∧
      ∀ i, i < len → ∃ cs n x, DataW.trod enc Tryd.prog W 0 (fun _ => true) true n E cs = some x ∧ cs.length = C ∧ ∀ j, j < C → W.cell? ⟨b, off + i * C + j, none⟩ = cs[j]?) := by
  obtain ⟨fuel, hf⟩ := h
  rcases Go.Deep.open_slice hu hf with ⟨hcs, _⟩ | ⟨ad, l, c, m, n, D, Pl, hcs, _, hl, hm, hmm, _, hi⟩
  · simp [Value.cells] at hcs
    obtain ⟨rfl, rfl, rfl⟩ := hcs
    exact ⟨Nat.le_refl _, Nat.zero_le _, fun h => absurd h (by omega)⟩
  · simp [Value.cells] at hcs
    obtain ⟨rfl, rfl, rfl⟩ := hcs
    refine ⟨hl, hm, fun hp => ?_⟩
    have hm' : m = cap := by simpa using hmm
    rw [hC] at hi
    have key : ∀ i, i < len → ∃ cs n x, DataW.trod enc Tryd.prog W 0 (fun _ => true) true n E cs = some x ∧ cs.length = C ∧ ∀ j, j < C → W.cell? (ad.add (i * C + j)) = cs[j]? := fun i hil => by
      obtain ⟨cs, hc, ht⟩ := hi i (by omega)
      obtain ⟨_, hcl, hat⟩ := World.cells?_some hc
      exact ⟨cs, _, _, ht, hcl, fun j hj => by rw [← Go.Deep.add_add]; exact hat j hj⟩
    obtain ⟨b, off, spot⟩ := ad
    obtain ⟨cs, _, _, _, hcl, hc0⟩ := key 0 hp
    have h0 := hc0 0 hC0
    have hv : cs[0]? = some (cs[0]'(by omega)) := List.getElem?_eq_getElem (by omega)
    rw [hv] at h0
    have hspot : spot = none := by simpa [Addr.add] using World.cell?_spot h0
    subst hspot
    refine ⟨b, off, rfl, ?_, fun i hil => ?_⟩
    · rw [Go.WideShapes.add_plain] at h0
      exact World.block_lt_of_cell? _ _ h0
    · obtain ⟨cs, n, x, ht, hcl, hat⟩ := key i hil
      exact ⟨cs, n, x, ht, hcl, fun j hj => by rw [← hat j hj, Go.WideShapes.add_plain, Nat.add_assoc]⟩

theorem Tryd.tySl : (Tryd.prog.underlying 52).map tyOf = some [(22, 0), (22, 1), (44, 2), (3, 4)] := by kernel_rfl
theorem Tryd.tySp : (Tryd.prog.underlying 44).map tyOf = some [(42, 0), (42, 1)] := by kernel_rfl
theorem Tryd.uSls : Tryd.prog.underlying 37 = some (.slice 52) := by kernel_rfl
theorem Tryd.cSl : Tryd.prog.cellsOf 52 = 5 := by kernel_rfl
theorem Tryd.cSp : Tryd.prog.cellsOf 44 = 2 := by kernel_rfl
theorem open_sls {H : Type} {enc : TypeId × Value → H} {W : World} {a : Option Addr} {len cap : Nat} {d : DataW H} {ps : List MemPlace}
    (h : DataW.Trod enc Tryd.prog W 0 (fun _ => true) true 37 (.slice a len cap) d ps) :
    ∃ ls : List SL, ls.length = len ∧ SlRd W (.slice a len cap) ls ∧ ∀ s ∈ ls, s.ok := by
  obtain ⟨h1, h2, h3⟩ := open_rows Tryd.uSls Tryd.cSl (by decide) h
  rcases Nat.eq_zero_or_pos len with rfl | hp
  · exact ⟨[], rfl, ⟨_, _, _, rfl, rfl, h1, h2, fun h => absurd rfl h⟩, fun s hs => by cases hs⟩
  · obtain ⟨b, off, rfl, hb, hi⟩ := h3 hp
    obtain ⟨ls, hl, hq⟩ := list_of SL.zero (fun j s => s.ok ∧ W.cell? ⟨b, off + j * 5, none⟩ = some (.int .u32 s.cpu) ∧ W.cell? ⟨b, off + j * 5 + 1, none⟩ = some (.int .u32 s.sub) ∧ W.cell? ⟨b, off + j * 5 + 2, none⟩ = some (.int .u64 s.off) ∧
      W.cell? ⟨b, off + j * 5 + 3, none⟩ = some (.int .u64 s.size) ∧ W.cell? ⟨b, off + j * 5 + 4, none⟩ = some (.int .i64 s.align)) len (fun j hj => by
      obtain ⟨cs, n, x, ht, hcl, hat⟩ := hi j hj
      obtain ⟨_, hf⟩ := struct_at Tryd.tySl (by simp) ht
      obtain ⟨_, _, t0⟩ := hf 0 _ _ rfl
      obtain ⟨_, _, t1⟩ := hf 1 _ _ rfl
      obtain ⟨_, _, t2⟩ := hf 2 _ _ rfl
      obtain ⟨_, _, t3⟩ := hf 3 _ _ rfl
      obtain ⟨z0, c0, w0⟩ := int_at Tryd.underlying22 t0
      obtain ⟨z1, c1, w1⟩ := int_at Tryd.underlying22 t1
      obtain ⟨z4, c4, w4⟩ := int_at Tryd.underlying3 t3
      obtain ⟨_, hg⟩ := struct_at Tryd.tySp (by simp) t2
      obtain ⟨_, _, t20⟩ := hg 0 _ _ rfl
      obtain ⟨_, _, t21⟩ := hg 1 _ _ rfl
      obtain ⟨z2, c2, w2⟩ := int_at Tryd.underlying42 t20
      obtain ⟨z3, c3, w3⟩ := int_at Tryd.underlying42 t21
      rw [Tryd.cSp] at c2 c3
      have c2' : cs[2]? = some (.int .u64 z2) := by
        rw [List.getElem?_take] at c2
        simpa using c2
      have c3' : cs[3]? = some (.int .u64 z3) := by
        rw [List.getElem?_take] at c3
        simpa using c3
      have b0 := bounds_u32 w0
      have b1 := bounds_u32 w1
      have b2 := bounds_u64 w2
      have b3 := bounds_u64 w3
      have b4 := bounds_i64 w4
      refine ⟨⟨z0.toNat, z1.toNat, z2.toNat, z3.toNat, z4⟩, ⟨by simp only; omega, by simp only; omega, by simp only; omega, by simp only; omega, by simp only; omega, by simp only; omega⟩, ?_, ?_, ?_, ?_, ?_⟩
      · have := hat 0 (by decide); rw [c0] at this; rw [Nat.add_zero] at this; rw [this]; simp only; rw [Int.toNat_of_nonneg b0.1]
      · have := hat 1 (by decide); rw [c1] at this; rw [this]; simp only; rw [Int.toNat_of_nonneg b1.1]
      · have := hat 2 (by decide); rw [c2'] at this; rw [this]; simp only; rw [Int.toNat_of_nonneg b2.1]
      · have := hat 3 (by decide); rw [c3'] at this; rw [this]; simp only; rw [Int.toNat_of_nonneg b3.1]
      · have := hat 4 (by decide); rw [c4] at this; exact this)
    refine ⟨ls, hl, ⟨_, _, _, rfl, hl.symm, h1, h2, fun _ => ⟨b, off, rfl, hb, fun j hj => (hq j (by omega)).2⟩⟩, fun s hs => ?_⟩
    obtain ⟨j, hj, rfl⟩ := List.getElem_of_mem hs
    have := (hq j (by omega)).1
    rwa [List.getD_eq_getElem?_getD, List.getElem?_eq_getElem hj] at this
end Go.Proofs.YtchkombikjcokaaDoor
