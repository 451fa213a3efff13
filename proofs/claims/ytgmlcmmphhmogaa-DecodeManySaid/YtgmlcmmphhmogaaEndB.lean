/- The row's ends, bare: the arguments read as they did; what slices of records that came in read as. -/
import Derived.Test.YtgmlcmmphhmogaaRows
import Derived.Test.YtgmlcmmphhmogaaF
import Derived.Test.YtgmlcmmphhmogaaProg
import Derived.Test.YtgmlcmmphhmogaaChecked
import Derived.ChangeSame
import Derived.ChangeVars
import Derived.JoinedOf
import Derived.JoinedAt
import Derived.RowKit
import Derived.RowKitTokens
import Derived.LaidLaws
import Derived.ProofKit
import Derived.OpenShut
import Derived.ShutString
import Derived.ChangeOld
import Derived.ChangeMaps5
import Derived.Deep.Slices
namespace Go.Proofs.Ytgmlcmmphhmogaa
open Go.ChangeShapes Go.WideShapes Go.RowKit
theorem Try.own : ownKnob Try.prog.godebug = none := by kernel_rfl
theorem Try.laidOut : laidOutB Try.prog = true := by kernel_rfl
/-- All arguments read as they did. -/
theorem trodAll_below {H : Type} {enc : TypeId × Value → H} {W W' : World} : ∀ {ts : List TypeId} {vs : List Value} {ds : List (DataW H)} {ps : List MemPlace},
    DataW.TrodAll enc Try.prog W 0 (fun _ => true) true ts vs ds ps → (∀ t ∈ ts, Try.prog.readableRec t = true ∧ t < Try.prog.types.size) → Below W.heap.size W W' →
    DataW.TrodAll enc Try.prog W' 0 (fun b => decide (b < W.heap.size)) true ts vs ds ps
  | [], vs, ds, ps, h, _, _ => by
    obtain ⟨rfl, rfl, rfl⟩ := trodAll_nil h
    exact trodAll_mk0
  | t :: ts, vs, ds, ps, h, ht, hb => by
    obtain ⟨v0, vs0, d0, ds0, p0, q0, rfl, rfl, rfl, h0, r0⟩ := trodAll_cons h
    have k0 := h0
    have lt0 : ∀ x ∈ p0, x.block < W.heap.size := by obtain ⟨m, hm⟩ := k0; exact DataW.trod_lt m _ _ _ hm
    exact trodAll_cons_mk (Below.trod Try.laidOut (ht t (List.mem_cons_self ..)).1 (ht t (List.mem_cons_self ..)).2 h0 hb lt0) (trodAll_below r0 (fun t' h' => ht t' (List.mem_cons_of_mem _ h')) hb)
def tyOf : TypeDesc → List (TypeId × Nat)
  | .struct fs => fs.toList.map fun f => (f.type, f.offset)
  | _ => []
section
variable {H : Type} {enc : TypeId × Value → H} {P : Program} {w : World} {base : Nat} {spare : Nat → Bool} {held : Bool}
theorem struct_at {t : TypeId} {l : List (TypeId × Nat)} (h : (P.underlying t).map tyOf = some l) (hne : l ≠ []) {fuel : Nat} {cs : List Value} {x : DataW H × List MemPlace}
    (ht : DataW.trod enc P w base spare held fuel t cs = some x) :
    cs.length = P.cellsOf t ∧ ∀ (j : Nat) (ty : TypeId) (o : Nat), l[j]? = some (ty, o) → ∃ n y, DataW.trod enc P w base spare held n ty ((cs.drop o).take (P.cellsOf ty)) = some y := by
  cases hu : P.underlying t with
  | none => rw [hu] at h; cases h
  | some d =>
    rw [hu] at h
    simp only [Option.map_some, Option.some.injEq] at h
    cases d with
    | struct fs =>
      obtain ⟨xs, n, _, rfl, hl, hlen, hf⟩ := DataW.trod_struct hu ht
      refine ⟨hl, fun j ty o hj => ?_⟩
      rw [← h] at hj
      simp only [tyOf, List.getElem?_map, Array.getElem?_toList] at hj
      cases hfj : fs[j]? with
      | none => rw [hfj] at hj; cases hj
      | some f =>
        rw [hfj] at hj
        simp only [Option.map_some, Option.some.injEq, Prod.mk.injEq] at hj
        obtain ⟨rfl, rfl⟩ := hj
        have hjl : j < fs.size := (Array.getElem?_eq_some_iff.1 hfj).1
        have hy : xs[j]? = some (xs[j]'(by omega)) := List.getElem?_eq_getElem (by omega)
        exact ⟨_, _, (hf j f hfj).trans hy⟩
    | _ => exact absurd h.symm hne
theorem int_at {t : TypeId} {K : IntKind} (hu : P.underlying t = some (.int K)) {n o k : Nat} {cs : List Value} {y : DataW H × List MemPlace} (h : DataW.trod enc P w base spare held n t ((cs.drop o).take k) = some y) :
    ∃ z : Int, cs[o]? = some (.int K z) ∧ (Lit.int K z).wf = true := by
  obtain ⟨z, hc, _, hw⟩ := DataW.trod_int hu h
  refine ⟨z, ?_, hw⟩
  have : ((cs.drop o).take k)[0]? = some (.int K z) := by rw [hc]; rfl
  rw [List.getElem?_take] at this
  split at this
  · simpa using this
  · cases this
end
section
variable {H : Type} {enc : TypeId × Value → H} {P : Program} {w : World} {base : Nat} {spare : Nat → Bool} {held : Bool}
theorem str_at {t : TypeId} (hu : P.underlying t = some .string) {n o k : Nat} {cs : List Value} {y : DataW H × List MemPlace} (h : DataW.trod enc P w base spare held n t ((cs.drop o).take k) = some y) :
    ∃ s : ByteArray, cs[o]? = some (.string s) := by
  obtain ⟨z, hc, _, _⟩ := DataW.trod_string hu h
  refine ⟨z, ?_⟩
  have : ((cs.drop o).take k)[0]? = some (.string z) := by rw [hc]; rfl
  rw [List.getElem?_take] at this
  split at this
  · simpa using this
  · cases this
theorem bool_at {t : TypeId} (hu : P.underlying t = some .bool) {n o k : Nat} {cs : List Value} {y : DataW H × List MemPlace} (h : DataW.trod enc P w base spare held n t ((cs.drop o).take k) = some y) :
    ∃ s : Bool, cs[o]? = some (.bool s) := by
  obtain ⟨z, hc, _⟩ := DataW.trod_bool hu h
  refine ⟨z, ?_⟩
  have : ((cs.drop o).take k)[0]? = some (.bool z) := by rw [hc]; rfl
  rw [List.getElem?_take] at this
  split at this
  · simpa using this
  · cases this
end
theorem list_of {α : Type} (d : α) (Q : Nat → α → Prop) : ∀ n, (∀ i, i < n → ∃ s, Q i s) → ∃ l : List α, l.length = n ∧ ∀ i, i < n → Q i (l.getD i d)
  | 0, _ => ⟨[], rfl, fun i hi => absurd hi (Nat.not_lt_zero i)⟩
  | n + 1, h => by
    obtain ⟨l, hl, hq⟩ := list_of d Q n (fun i hi => h i (by omega))
    obtain ⟨s, hs⟩ := h n (by omega)
    refine ⟨l ++ [s], by simp [hl], fun i hi => ?_⟩
    by_cases hin : i < n
    · have := hq i hin
      rw [List.getD_eq_getElem?_getD] at this ⊢
      rw [List.getElem?_append_left (by omega)]
      exact this
    · obtain rfl : i = n := by omega
      rw [List.getD_eq_getElem?_getD, List.getElem?_append_right (by omega), hl, Nat.sub_self]
      exact hs
/-- A slice of structs whose cells are C each: its elements' cells, and what is read of each. -/
theorem open_rows {H : Type} {enc : TypeId × Value → H} {T E : TypeId} {C : Nat} {W : World} {a : Option Addr} {len cap : Nat} {d : DataW H} {ps : List MemPlace} (hu : Try.prog.underlying T = some (.slice E)) (hC : Try.prog.cellsOf E = C) (hC0 : 0 < C)
    (h : DataW.Trod enc Try.prog W 0 (fun _ => true) true T (.slice a len cap) d ps) :
    len ≤ cap ∧ cap ≤ maxLen ∧ (0 < len → ∃ b off, a = some ⟨b, off, none⟩ ∧ b < W.heap.size ∧
      ∀ i, i < len → ∃ cs n x, DataW.trod enc Try.prog W 0 (fun _ => true) true n E cs = some x ∧ cs.length = C ∧ ∀ j, j < C → W.cell? ⟨b, off + i * C + j, none⟩ = cs[j]?) := by
  obtain ⟨fuel, hf⟩ := h
  rcases Go.Deep.open_slice hu hf with ⟨hcs, _⟩ | ⟨ad, l, c, m, n, D, Pl, hcs, _, hl, hm, hmm, _, hi⟩
  · simp [Value.cells] at hcs
    obtain ⟨rfl, rfl, rfl⟩ := hcs
    exact ⟨Nat.le_refl _, Nat.zero_le _, fun h => absurd h (by omega)⟩
  · simp [Value.cells] at hcs
    obtain ⟨rfl, rfl, rfl⟩ := hcs
    refine ⟨hl, hm, fun hp => ?_⟩
    have hm' : m = cap := by simpa using hmm
    rw [hC] at hi
    have key : ∀ i, i < len → ∃ cs n x, DataW.trod enc Try.prog W 0 (fun _ => true) true n E cs = some x ∧ cs.length = C ∧ ∀ j, j < C → W.cell? (ad.add (i * C + j)) = cs[j]? := fun i hil => by
      obtain ⟨cs, hc, ht⟩ := hi i (by omega)
      obtain ⟨_, hcl, hat⟩ := World.cells?_some hc
      exact ⟨cs, _, _, ht, hcl, fun j hj => by rw [← Go.Deep.add_add]; exact hat j hj⟩
    obtain ⟨b, off, spot⟩ := ad
    obtain ⟨cs, _, _, _, hcl, hc0⟩ := key 0 hp
    have h0 := hc0 0 hC0
    have hv : cs[0]? = some (cs[0]'(by omega)) := List.getElem?_eq_getElem (by omega)
    rw [hv] at h0
    have hspot : spot = none := by simpa [Addr.add] using World.cell?_spot h0
    subst hspot
    refine ⟨b, off, rfl, ?_, fun i hil => ?_⟩
    · rw [Go.WideShapes.add_plain] at h0
      exact World.block_lt_of_cell? _ _ h0
    · obtain ⟨cs, n, x, ht, hcl, hat⟩ := key i hil
      exact ⟨cs, n, x, ht, hcl, fun j hj => by rw [← hat j hj, Go.WideShapes.add_plain, Nat.add_assoc]⟩

end Go.Proofs.Ytgmlcmmphhmogaa
