/- clevisref12.Same. -/
import Derived.Test.YtgmlcmmphhmogaaFxRSet
namespace Go.Proofs.Ytgmlcmmphhmogaa
open Go.RowKit
set_option maxRecDepth 100000

end Go.Proofs.Ytgmlcmmphhmogaa
