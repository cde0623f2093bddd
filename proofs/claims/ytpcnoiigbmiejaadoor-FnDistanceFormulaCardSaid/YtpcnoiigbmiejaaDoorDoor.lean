/- A world for the witness of a row that lists the library's two tables: the settled one, the tables' blocks holding what their initialisers lay. -/
import Derived.Test.YtpcnoiigbmiejaaDoorRows
import Derived.ProofKit
import Derived.Deep.DeepHandedRow
namespace Go.Proofs.YtpcnoiigbmiejaaDoor.door
set_option linter.unusedVariables false
set_option linter.unusedSimpArgs false
noncomputable def firstCells : Array Value := (Go.Pinned.utf8FirstZ.map fun n : Nat => Value.int .u8 (n : Int)).toArray
def acceptCells : Array Value := #[.int .u8 128, .int .u8 191, .int .u8 160, .int .u8 191, .int .u8 128, .int .u8 159, .int .u8 144, .int .u8 191, .int .u8 128, .int .u8 143, .int .u8 0, .int .u8 0, .int .u8 0, .int .u8 0, .int .u8 0, .int .u8 0, .int .u8 0, .int .u8 0, .int .u8 0, .int .u8 0, .int .u8 0, .int .u8 0, .int .u8 0, .int .u8 0, .int .u8 0, .int .u8 0, .int .u8 0, .int .u8 0, .int .u8 0, .int .u8 0, .int .u8 0, .int .u8 0]
/-- a block's cells laid anew -/
def relaid (cs : Array Value) : Obj → Obj
  | .cells _ t frozen => .cells cs t frozen
  | o => o
noncomputable def laidHeap (h : Array Obj) : Array Obj := (h.modify 0 (relaid firstCells)).modify 1 (relaid acceptCells)
noncomputable def laidWorld (os : Os) : World := { World.holding Tryd.prog os ⟨#[], #[], []⟩ with heap := laidHeap (World.holding Tryd.prog os ⟨#[], #[], []⟩).heap }
end Go.Proofs.YtpcnoiigbmiejaaDoor.door
