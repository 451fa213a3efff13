/- slices.Equal of rows of fixups; fixup.Same. -/
import Derived.Test.YtgmlcmmphhmogaaFxFSet
namespace Go.Proofs.Ytgmlcmmphhmogaa
open Go.RowKit
set_option maxRecDepth 100000

end Go.Proofs.Ytgmlcmmphhmogaa
