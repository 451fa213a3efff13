/- The row's condition where three tables of the library's are listed. -/
import Derived.Test.YtchkombikjcokaaDoorEnd
import Derived.Test.YtchkombikjcokaaDoorHex
import Derived.Lib.LaidTab
import Derived.Stop.LaidErr
import Derived.ChangeMaps5
namespace Go.Proofs.YtchkombikjcokaaDoor
open Go.ChangeShapes Go.WideShapes Go.RowKit

def deB64 : List Int := match (Rows.laid_math_bits_deBruijn64tab : DataW Unit) with
  | .agg l => l.map fun | .lit (.int _ z) => z | _ => 0
  | _ => []
theorem tz_of_laid3 {W : World} (h : laidMetH Tryd.prog [("math/bits.deBruijn32tab", Rows.laid_math_bits_deBruijn32tab), ("math/bits.deBruijn64tab", Rows.laid_math_bits_deBruijn64tab), ("internal/strconv.uint64pow10", Rows.laid_internal_strconv_uint64pow10)] W) : Tz W := by
  have h1 : Lib.TabIs Tryd.prog W "math/bits.deBruijn64tab" .u8 deB64 :=
    Lib.tabIs_of_head (rest := [("internal/strconv.uint64pow10", Rows.laid_internal_strconv_uint64pow10)]) (g := 4) (t := 218) (e := 5) (n := 64) (by kernel_rfl) (by kernel_rfl) Tryd.underlying218 Tryd.underlying5 (by kernel_rfl) (by kernel_rfl)
      (laidMet.tail (show laidMet Tryd.prog [("math/bits.deBruijn32tab", Rows.laid_math_bits_deBruijn32tab), ("math/bits.deBruijn64tab", Rows.laid_math_bits_deBruijn64tab), ("internal/strconv.uint64pow10", Rows.laid_internal_strconv_uint64pow10)] W from h))
  unfold Lib.TabIs World.var? at h1
  rw [show Tryd.prog.globalNamed "math/bits.deBruijn64tab" = some 4 from by kernel_rfl] at h1
  simp only [Option.bind_some] at h1
  unfold Tz
  cases hh : W.heap[4]? with
  | none => rw [hh] at h1; cases h1
  | some o =>
    rw [hh] at h1
    cases o with
    | cells c t f =>
      have h2 : c = (deB64.map fun z => Value.int .u8 z).toArray := by simpa using h1
      rw [cell_of_heap hh, h2]
      rfl
    | _ => cases h1
def tabCells : DataW Unit → Array Value
  | .agg l => (l.map fun | .lit (.int k z) => Value.int k z | _ => undef).toArray
  | _ => #[]
def Obj.withCells (cs : Array Value) : Obj → Obj
  | .cells _ t frozen => .cells cs t frozen
  | o => o
/-- A world that meets the condition: the settled one, the variables' cells laid. -/
noncomputable def laidWorld3 (os : Os) : World :=
  let w0 := laidWorld os
  { w0 with heap := ((w0.heap.modify 3 (Obj.withCells (tabCells Rows.laid_math_bits_deBruijn32tab))).modify 4 (Obj.withCells (tabCells Rows.laid_math_bits_deBruijn64tab))).modify 1 (Obj.withCells (tabCells Rows.laid_internal_strconv_uint64pow10)) }
theorem laidWorld3_met (os : Os) (args : Array Value) : laidMetH Tryd.prog [("math/bits.deBruijn32tab", Rows.laid_math_bits_deBruijn32tab), ("math/bits.deBruijn64tab", Rows.laid_math_bits_deBruijn64tab), ("internal/strconv.uint64pow10", Rows.laid_internal_strconv_uint64pow10)] ((laidWorld3 os).forCall (fun _ _ => 0) ⟨#[], args, []⟩).memory :=
  show laidMet Tryd.prog [("math/bits.deBruijn32tab", Rows.laid_math_bits_deBruijn32tab), ("math/bits.deBruijn64tab", Rows.laid_math_bits_deBruijn64tab), ("internal/strconv.uint64pow10", Rows.laid_internal_strconv_uint64pow10)] ((laidWorld3 os).forCall (fun _ _ => 0) ⟨#[], args, []⟩).memory from laidMet_of_run' 8 (by kernel_rfl) (by kernel_rfl)
end Go.Proofs.YtchkombikjcokaaDoor
