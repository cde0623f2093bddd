/- The drawing of the arguments of StableColours, ColoursOf, ColourCounts. -/
import Derived.Test.YtefneihlgclkbaaDoorPkD
namespace Go.Proofs.YtefneihlgclkbaaDoor.draw
set_option linter.unusedVariables false
set_option linter.unusedSimpArgs false
open Go.ChangeShapes Go.WideShapes Go.ChangeAt Go.RowKit
open Go.Proofs.YtefneihlgclkbaaDoor.lib Go.Proofs.YtefneihlgclkbaaDoor.st Go.Proofs.YtefneihlgclkbaaDoor.flow Go.Proofs.YtefneihlgclkbaaDoor.chain

end Go.Proofs.YtefneihlgclkbaaDoor.draw
