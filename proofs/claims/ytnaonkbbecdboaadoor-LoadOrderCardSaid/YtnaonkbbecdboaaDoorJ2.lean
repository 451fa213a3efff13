/- Lemmas, laid together: part 2 of 39. Conditions: none but each lemma's own. -/
import Derived.Test.YtnaonkbbecdboaaDoorRows
import Derived.Test.YtnaonkbbecdboaaDoorCards
import Derived.Test.YtnaonkbbecdboaaDoorTie
import Derived.Test.YtnaonkbbecdboaaDoorJ1
import Derived.ChangeSame
import Derived.ChangeVars
import Derived.JoinedOf
import Derived.RowKit
import Derived.RowKitTokens
import Derived.LaidLaws
import Derived.LaidHandle
import Derived.Stop.Joined
import Derived.ProofKit
import Derived.OpenShut
import Derived.ShutString
import Derived.ChangeOld
import Derived.SevenTiedAt
/- From a law's walk to its row and its card: what all laws of the seat share. After the guide's Derived/Test/ToyasProofs.lean and ToyasCard.lean. -/
namespace Go.Proofs.YtnaonkbbecdboaaDoor
open Go.ChangeShapes Go.WideShapes Go.RowKit

theorem Tryd.own : ownKnob Tryd.prog.godebug = none := by kernel_rfl
theorem Tryd.laidOut : laidOutB Tryd.prog = true := by kernel_rfl
theorem Tryd.et : Tryd.prog.globalNamed "errors.errorType" = some 0 := by kernel_rfl
theorem Tryd.rt : (Tryd.prog.cutTypes.find? (·.1 == "internal/reflectlite.rtype")).map (·.2) = some 149 := by kernel_rfl
theorem Tryd.tsize : Tryd.prog.types.size = 198 := by kernel_rfl
theorem Tryd.oneRow : ((List.range 198).filter fun t => Tryd.prog.rowNamed t [101, 114, 114, 111, 114]) = [92] := by kernel_rfl
theorem Tryd.underU8 : Tryd.prog.underlying 5 = some (.int .u8) := Tryd.underlying5

/-- What the row's condition on errors.errorType gives a walk: the variable's one cell. -/
theorem env_of_laid {W : World} (h : laidMetH Tryd.prog [("errors.errorType", Rows.laid_errors_errorType)] W) : Env W := by
  have h' : laidMet Tryd.prog [] W ∧ handlesMet Tryd.prog [("errors.errorType", Rows.laid_errors_errorType)] W := h
  obtain ⟨name, u, ty, e1, e2, e3, e4, e5⟩ := h'.2 _ (List.mem_singleton.2 rfl)
  have en : name = [101, 114, 114, 111, 114] := (Option.some.inj e1).symm
  subst en
  obtain rfl := Option.some.inj (Tryd.rt.symm.trans e2)
  have hm : ty ∈ (List.range 198).filter fun t => Tryd.prog.rowNamed t [101, 114, 114, 111, 114] := List.mem_filter.2 ⟨List.mem_range.2 (by rw [← Tryd.tsize]; exact e3), e4⟩
  rw [Tryd.oneRow] at hm
  obtain rfl := List.mem_singleton.1 hm
  have hh : typeHandle Tryd.prog 92 = .pointer (some ⟨2, 92, none⟩) := by kernel_rfl
  rw [hh] at e5
  show W.cell? _ = _
  simpa using World.var?_cell Tryd.et e5 0

/-- A world that meets the condition: the settled one, the variable's cell laid. -/
noncomputable def laidWorld (os : Os) : World :=
  let w0 := World.holding Tryd.prog os ⟨#[], #[], []⟩
  { w0 with heap := w0.heap.modify 0 fun
      | .cells _ t frozen => .cells #[.iface 149 (.agg #[.pointer (some ⟨2, 92, none⟩)])] t frozen
      | o => o }
theorem laidWorld_met (os : Os) (args : Array Value) : laidMetH Tryd.prog [("errors.errorType", Rows.laid_errors_errorType)] ((laidWorld os).forCall (fun _ _ => 0) ⟨#[], args, []⟩).memory :=
  laidMetH_of_parts (laidMet_nil _ _) (by kernel_rfl)

/-- All arguments read as they did. -/
theorem trodAll_below {H : Type} {enc : TypeId × Value → H} {W W' : World} : ∀ {ts : List TypeId} {vs : List Value} {ds : List (DataW H)} {ps : List MemPlace},
    DataW.TrodAll enc Tryd.prog W 0 (fun _ => true) true ts vs ds ps → (∀ t ∈ ts, Tryd.prog.readableRec t = true ∧ t < Tryd.prog.types.size) → Below W.heap.size W W' →
    DataW.TrodAll enc Tryd.prog W' 0 (fun b => decide (b < W.heap.size)) true ts vs ds ps
  | [], vs, ds, ps, h, _, _ => by
    obtain ⟨rfl, rfl, rfl⟩ := trodAll_nil h
    exact trodAll_mk0
  | t :: ts, vs, ds, ps, h, ht, hb => by
    obtain ⟨v0, vs0, d0, ds0, p0, q0, rfl, rfl, rfl, h0, r0⟩ := trodAll_cons h
    have k0 := h0
    have lt0 : ∀ x ∈ p0, x.block < W.heap.size := by obtain ⟨m, hm⟩ := k0; exact DataW.trod_lt m _ _ _ hm
    exact trodAll_cons_mk (Below.trod Tryd.laidOut (ht t (List.mem_cons_self ..)).1 (ht t (List.mem_cons_self ..)).2 h0 hb lt0) (trodAll_below r0 (fun t' h' => ht t' (List.mem_cons_of_mem _ h')) hb)

/-- What a slice of integers that came in reads as. -/
theorem open_row {H : Type} {enc : TypeId × Value → H} {K : IntKind} {T E : TypeId} {W : World} {a : Option Addr} {len cap : Nat} {d : DataW H} {ps : List MemPlace} (hu : Tryd.prog.underlying T = some (.slice E)) (he : Tryd.prog.underlying E = some (.int K)) (hc : Tryd.prog.cellsOf E = 1)
    (h : DataW.Trod enc Tryd.prog W 0 (fun _ => true) true T (.slice a len cap) d ps) :
    ∃ zs : List Int, zs.length = len ∧ Rd W (.slice a len cap) (zs.map (Value.int K)) ∧ ∀ n ∈ zs, (Lit.int K n).wf = true := by
  obtain ⟨fuel, hf⟩ := h
  rcases open_ints hu he hc hf with ⟨hcs, _⟩ | ⟨x, l, c, zs, hcs, _, hl, hm, hz, _, hcell, hwz⟩
  · simp [Value.cells] at hcs
    obtain ⟨rfl, rfl, rfl⟩ := hcs
    exact ⟨[], rfl, Rd.nil W, fun _ hm => by cases hm⟩
  · simp [Value.cells] at hcs
    obtain ⟨rfl, rfl, rfl⟩ := hcs
    have hz' : zs.length = cap := by simpa using hz
    refine ⟨zs.take len, by simp; omega, ?_, fun n hn => hwz n (List.mem_of_mem_take hn)⟩
    refine ⟨_, _, _, rfl, by simp; omega, hl, hm, fun hne => ?_⟩
    have hpos : 0 < len := by
      rcases Nat.eq_zero_or_pos len with h0 | h0
      · subst h0; simp at hne
      · exact h0
    obtain ⟨b, off, rfl, hc'⟩ := ints_at hcell (by omega)
    refine ⟨b, off, rfl, fun j hj => ?_⟩
    simp only [List.length_map, List.length_take] at hj
    rw [hc' j (by omega)]
    simp [show j < len by omega, show j < zs.length by omega]
/-- .. of bytes. -/
theorem open_bytes {H : Type} {enc : TypeId × Value → H} {T E : TypeId} {W : World} {a : Option Addr} {len cap : Nat} {d : DataW H} {ps : List MemPlace} (hu : Tryd.prog.underlying T = some (.slice E)) (he : Tryd.prog.underlying E = some (.int .u8)) (hc : Tryd.prog.cellsOf E = 1)
    (h : DataW.Trod enc Tryd.prog W 0 (fun _ => true) true T (.slice a len cap) d ps) :
    ∃ l : List UInt8, l.length = len ∧ Rd W (.slice a len cap) (bytesV l) := by
  obtain ⟨zs, hl, hr, hw⟩ := open_row hu he hc h
  refine ⟨zs.map fun n => UInt8.ofNat n.toNat, by simpa using hl, ?_⟩
  have e : bytesV (zs.map fun n => UInt8.ofNat n.toNat) = zs.map (Value.int .u8) := by
    unfold bytesV
    rw [List.map_map]
    refine List.map_congr_left fun n hn => ?_
    have hb := bounds_u8 (hw n hn)
    have : (UInt8.ofNat n.toNat).toNat = n.toNat := by simp; omega
    simp only [Function.comp, byteV, this, Int.toNat_of_nonneg hb.1]
  rw [e]
  exact hr
end Go.Proofs.YtnaonkbbecdboaaDoor
