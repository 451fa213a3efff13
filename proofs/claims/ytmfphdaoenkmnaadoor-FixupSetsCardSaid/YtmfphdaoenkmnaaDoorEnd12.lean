/- The row's condition where three tables of the library's are listed (cut out of this claim's other texts by shake.py). -/
import Derived.Test.YtmfphdaoenkmnaaDoorRows
import Derived.Test.YtmfphdaoenkmnaaDoorCards
import Derived.Test.YtmfphdaoenkmnaaDoorTie
import Derived.Test.YtmfphdaoenkmnaaDoorBase12
import Derived.ChangeSame
import Derived.ChangeVars
import Derived.JoinedOf
import Derived.RowKit
import Derived.RowKitTokens
import Derived.LaidLaws
import Derived.LaidHandle
import Derived.Stop.Joined
import Derived.ProofKit
import Derived.OpenShut
import Derived.ShutString
import Derived.ChangeOld
import Derived.SevenTiedAt
import Derived.Lib.LaidTab
import Derived.Stop.LaidErr
import Derived.ChangeMaps5
import Derived.Deep.Slices
namespace Go.Proofs.YtmfphdaoenkmnaaDoor
open Go.RowKit
open Go.ChangeShapes Go.WideShapes Go.RowKit
theorem Tryd.own : ownKnob Tryd.prog.godebug = none := by kernel_rfl
theorem Tryd.laidOut : laidOutB Tryd.prog = true := by kernel_rfl
/-- All arguments read as they did. -/
theorem trodAll_below {H : Type} {enc : TypeId × Value → H} {W W' : World} : ∀ {ts : List TypeId} {vs : List Value} {ds : List (DataW H)} {ps : List MemPlace},
    DataW.TrodAll enc Tryd.prog W 0 (fun _ => true) true ts vs ds ps → (∀ t ∈ ts, Tryd.prog.readableRec t = true ∧ t < Tryd.prog.types.size) → Below W.heap.size W W' →
    DataW.TrodAll enc Tryd.prog W' 0 (fun b => decide (b < W.heap.size)) true ts vs ds ps
  | [], vs, ds, ps, h, _, _ => by
    obtain ⟨rfl, rfl, rfl⟩ := trodAll_nil h
    exact trodAll_mk0
  | t :: ts, vs, ds, ps, h, ht, hb => by
    obtain ⟨v0, vs0, d0, ds0, p0, q0, rfl, rfl, rfl, h0, r0⟩ := trodAll_cons h
    have k0 := h0
    have lt0 : ∀ x ∈ p0, x.block < W.heap.size := by obtain ⟨m, hm⟩ := k0; exact DataW.trod_lt m _ _ _ hm
    exact trodAll_cons_mk (Below.trod Tryd.laidOut (ht t (List.mem_cons_self ..)).1 (ht t (List.mem_cons_self ..)).2 h0 hb lt0) (trodAll_below r0 (fun t' h' => ht t' (List.mem_cons_of_mem _ h')) hb)
open Go.ChangeShapes Go.WideShapes Go.RowKit
def deB64 : List Int := match (Rows.laid_math_bits_deBruijn64tab : DataW Unit) with
  | .agg l => l.map fun | .lit (.int _ z) => z | _ => 0
  | _ => []
theorem tz_of_laid3 {W : World} (h : laidMetH Tryd.prog [("math/bits.deBruijn32tab", Rows.laid_math_bits_deBruijn32tab), ("math/bits.deBruijn64tab", Rows.laid_math_bits_deBruijn64tab), ("internal/strconv.uint64pow10", Rows.laid_internal_strconv_uint64pow10)] W) : Tz W := by
  have h1 : Lib.TabIs Tryd.prog W "math/bits.deBruijn64tab" .u8 deB64 :=
    Lib.tabIs_of_head (rest := [("internal/strconv.uint64pow10", Rows.laid_internal_strconv_uint64pow10)]) (g := 3) (t := 112) (e := 5) (n := 64) (by kernel_rfl) (by kernel_rfl) Tryd.underlying112 Tryd.underlying5 (by kernel_rfl) (by kernel_rfl)
      (laidMet.tail (show laidMet Tryd.prog [("math/bits.deBruijn32tab", Rows.laid_math_bits_deBruijn32tab), ("math/bits.deBruijn64tab", Rows.laid_math_bits_deBruijn64tab), ("internal/strconv.uint64pow10", Rows.laid_internal_strconv_uint64pow10)] W from h))
  unfold Lib.TabIs World.var? at h1
  rw [show Tryd.prog.globalNamed "math/bits.deBruijn64tab" = some 3 from by kernel_rfl] at h1
  simp only [Option.bind_some] at h1
  unfold Tz
  cases hh : W.heap[3]? with
  | none => rw [hh] at h1; cases h1
  | some o =>
    rw [hh] at h1
    cases o with
    | cells c t f =>
      have h2 : c = (deB64.map fun z => Value.int .u8 z).toArray := by simpa using h1
      rw [cell_of_heap hh, h2]
      rfl
    | _ => cases h1
def tabCells : DataW Unit → Array Value
  | .agg l => (l.map fun | .lit (.int k z) => Value.int k z | _ => undef).toArray
  | _ => #[]
def Obj.withCells (cs : Array Value) : Obj → Obj
  | .cells _ t frozen => .cells cs t frozen
  | o => o
/-- A world that meets the condition: the settled one, the variables' cells laid. -/
noncomputable def laidWorld3 (os : Os) : World :=
  let w0 := World.holding Tryd.prog os ⟨#[], #[], []⟩
  { w0 with heap := ((w0.heap.modify 2 (Obj.withCells (tabCells Rows.laid_math_bits_deBruijn32tab))).modify 3 (Obj.withCells (tabCells Rows.laid_math_bits_deBruijn64tab))).modify 0 (Obj.withCells (tabCells Rows.laid_internal_strconv_uint64pow10)) }
theorem laidWorld3_met (os : Os) (args : Array Value) : laidMetH Tryd.prog [("math/bits.deBruijn32tab", Rows.laid_math_bits_deBruijn32tab), ("math/bits.deBruijn64tab", Rows.laid_math_bits_deBruijn64tab), ("internal/strconv.uint64pow10", Rows.laid_internal_strconv_uint64pow10)] ((laidWorld3 os).forCall (fun _ _ => 0) ⟨#[], args, []⟩).memory :=
  show laidMet Tryd.prog [("math/bits.deBruijn32tab", Rows.laid_math_bits_deBruijn32tab), ("math/bits.deBruijn64tab", Rows.laid_math_bits_deBruijn64tab), ("internal/strconv.uint64pow10", Rows.laid_internal_strconv_uint64pow10)] ((laidWorld3 os).forCall (fun _ _ => 0) ⟨#[], args, []⟩).memory from laidMet_of_run' 8 (by kernel_rfl) (by kernel_rfl)
open Go.ChangeShapes Go.WideShapes Go.RowKit
def tyOf : TypeDesc → List (TypeId × Nat)
  | .struct fs => fs.toList.map fun f => (f.type, f.offset)
  | _ => []
section
variable {H : Type} {enc : TypeId × Value → H} {P : Program} {w : World} {base : Nat} {spare : Nat → Bool} {held : Bool}
theorem struct_at {t : TypeId} {l : List (TypeId × Nat)} (h : (P.underlying t).map tyOf = some l) (hne : l ≠ []) {fuel : Nat} {cs : List Value} {x : DataW H × List MemPlace}
    (ht : DataW.trod enc P w base spare held fuel t cs = some x) :
    cs.length = P.cellsOf t ∧ ∀ (j : Nat) (ty : TypeId) (o : Nat), l[j]? = some (ty, o) → ∃ n y, DataW.trod enc P w base spare held n ty ((cs.drop o).take (P.cellsOf ty)) = some y := by
  cases hu : P.underlying t with
  | none => rw [hu] at h; cases h
  | some d =>
    rw [hu] at h
    simp only [Option.map_some, Option.some.injEq] at h
    cases d with
    | struct fs =>
      obtain ⟨xs, n, _, rfl, hl, hlen, hf⟩ := DataW.trod_struct hu ht
      refine ⟨hl, fun j ty o hj => ?_⟩
      rw [← h] at hj
      simp only [tyOf, List.getElem?_map, Array.getElem?_toList] at hj
      cases hfj : fs[j]? with
      | none => rw [hfj] at hj; cases hj
      | some f =>
        rw [hfj] at hj
        simp only [Option.map_some, Option.some.injEq, Prod.mk.injEq] at hj
        obtain ⟨rfl, rfl⟩ := hj
        have hjl : j < fs.size := (Array.getElem?_eq_some_iff.1 hfj).1
        have hy : xs[j]? = some (xs[j]'(by omega)) := List.getElem?_eq_getElem (by omega)
        exact ⟨_, _, (hf j f hfj).trans hy⟩
    | _ => exact absurd h.symm hne
theorem int_at {t : TypeId} {K : IntKind} (hu : P.underlying t = some (.int K)) {n o k : Nat} {cs : List Value} {y : DataW H × List MemPlace} (h : DataW.trod enc P w base spare held n t ((cs.drop o).take k) = some y) :
    ∃ z : Int, cs[o]? = some (.int K z) ∧ (Lit.int K z).wf = true := by
  obtain ⟨z, hc, _, hw⟩ := DataW.trod_int hu h
  refine ⟨z, ?_, hw⟩
  have : ((cs.drop o).take k)[0]? = some (.int K z) := by rw [hc]; rfl
  rw [List.getElem?_take] at this
  split at this
  · simpa using this
  · cases this
end
end Go.Proofs.YtmfphdaoenkmnaaDoor
