/- The row's condition where three tables of the library's are listed beside errors.errorType. -/
import Derived.Test.YtpodphfdoonidaaDoorEnd
import Derived.Test.YtpodphfdoonidaaDoorCursorCodes
import Derived.Stop.LaidErr
import Derived.ChangeMaps5
namespace Go.Proofs.YtpodphfdoonidaaDoor
open Go.ChangeShapes Go.WideShapes Go.RowKit

theorem split4 {W : World} (h : laidMetH Tryd.prog [("math/bits.deBruijn32tab", Rows.laid_math_bits_deBruijn32tab), ("math/bits.deBruijn64tab", Rows.laid_math_bits_deBruijn64tab), ("internal/strconv.uint64pow10", Rows.laid_internal_strconv_uint64pow10), ("errors.errorType", Rows.laid_errors_errorType)] W) :
    laidMet Tryd.prog [("math/bits.deBruijn32tab", Rows.laid_math_bits_deBruijn32tab), ("math/bits.deBruijn64tab", Rows.laid_math_bits_deBruijn64tab), ("internal/strconv.uint64pow10", Rows.laid_internal_strconv_uint64pow10)] W ∧ handlesMet Tryd.prog [("errors.errorType", Rows.laid_errors_errorType)] W := h
theorem env_of_laid4 {W : World} (h : laidMetH Tryd.prog [("math/bits.deBruijn32tab", Rows.laid_math_bits_deBruijn32tab), ("math/bits.deBruijn64tab", Rows.laid_math_bits_deBruijn64tab), ("internal/strconv.uint64pow10", Rows.laid_internal_strconv_uint64pow10), ("errors.errorType", Rows.laid_errors_errorType)] W) : Env W :=
  env_of_laid (show laidMetH Tryd.prog [("errors.errorType", Rows.laid_errors_errorType)] W from ⟨laidMet_nil _ _, (split4 h).2⟩)
theorem tab_of_laid4 {W : World} (h : laidMetH Tryd.prog [("math/bits.deBruijn32tab", Rows.laid_math_bits_deBruijn32tab), ("math/bits.deBruijn64tab", Rows.laid_math_bits_deBruijn64tab), ("internal/strconv.uint64pow10", Rows.laid_internal_strconv_uint64pow10), ("errors.errorType", Rows.laid_errors_errorType)] W) : Tab W :=
  Lib.tabIs_of_head (rest := []) (g := 2) (t := 146) (e := 27) (n := 20) (by kernel_rfl) (by kernel_rfl) Tryd.underlying146 Tryd.underlying27 (by kernel_rfl) (by kernel_rfl)
    (laidMet.tail (laidMet.tail (split4 h).1))
def tabCells : DataW Unit → Array Value
  | .agg l => (l.map fun | .lit (.int k z) => Value.int k z | _ => undef).toArray
  | _ => #[]
def Obj.withCells (cs : Array Value) : Obj → Obj
  | .cells _ t frozen => .cells cs t frozen
  | o => o
/-- A world that meets the condition: the settled one, the variables' cells laid. -/
noncomputable def laidWorld4 (os : Os) : World :=
  let w0 := laidWorld os
  { w0 with heap := ((w0.heap.modify 3 (Obj.withCells (tabCells Rows.laid_math_bits_deBruijn32tab))).modify 4 (Obj.withCells (tabCells Rows.laid_math_bits_deBruijn64tab))).modify 2 (Obj.withCells (tabCells Rows.laid_internal_strconv_uint64pow10)) }
theorem laidWorld4_met (os : Os) (args : Array Value) : laidMetH Tryd.prog [("math/bits.deBruijn32tab", Rows.laid_math_bits_deBruijn32tab), ("math/bits.deBruijn64tab", Rows.laid_math_bits_deBruijn64tab), ("internal/strconv.uint64pow10", Rows.laid_internal_strconv_uint64pow10), ("errors.errorType", Rows.laid_errors_errorType)] ((laidWorld4 os).forCall (fun _ _ => 0) ⟨#[], args, []⟩).memory :=
  laidMetH_of_parts (laidMet_of_run' 8 (by kernel_rfl) (by kernel_rfl)) (by kernel_rfl)
end Go.Proofs.YtpodphfdoonidaaDoor
