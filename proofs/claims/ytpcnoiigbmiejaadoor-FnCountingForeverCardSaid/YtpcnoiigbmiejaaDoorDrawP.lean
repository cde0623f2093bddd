/- The drawing of the arguments of SameColours, ColourRound, BothColours. -/
import Derived.Test.YtpcnoiigbmiejaaDoorPair8
namespace Go.Proofs.YtpcnoiigbmiejaaDoor.drawp
set_option linter.unusedVariables false
set_option linter.unusedSimpArgs false
open Go.ChangeShapes Go.WideShapes Go.ChangeAt Go.RowKit
open Go.Proofs.YtpcnoiigbmiejaaDoor.lib Go.Proofs.YtpcnoiigbmiejaaDoor.st Go.Proofs.YtpcnoiigbmiejaaDoor.flow Go.Proofs.YtpcnoiigbmiejaaDoor.chain Go.Proofs.YtpcnoiigbmiejaaDoor.draw Go.Proofs.YtpcnoiigbmiejaaDoor.shuf Go.Proofs.YtpcnoiigbmiejaaDoor.pair
/-- what DrawBothColours leaves -/
def DrawnQ1 (w : World) (e : Ending) (w' : World) : Prop :=
  ∃ (n : Int) (s r : ByteArray) (m : Int) (t q : ByteArray) (x : Int), e = .returned (.tuple #[.agg #[.int .i64 n, .string s, .string r], .agg #[.int .i64 m, .string t, .string q], .int .i64 x]) ∧ (Lit.int .i64 n).wf = true ∧ s.size ≤ 100 ∧ r.size ≤ 100 ∧ (Lit.int .i64 m).wf = true ∧ t.size ≤ 100 ∧ q.size ≤ 100 ∧ (Lit.int .i64 x).wf = true ∧ Below w.heap.size w w'

end Go.Proofs.YtpcnoiigbmiejaaDoor.drawp
