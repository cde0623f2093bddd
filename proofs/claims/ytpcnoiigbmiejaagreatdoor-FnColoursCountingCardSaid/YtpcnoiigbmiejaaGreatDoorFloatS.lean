/- Structures' variables made in a region that draws its order. -/
import Derived.Test.YtpcnoiigbmiejaaGreatDoorPk2
import Derived.Test.YtpcnoiigbmiejaaGreatDoorBase
namespace Go.Proofs.YtpcnoiigbmiejaaGreatDoor.chain
set_option linter.unusedVariables false
set_option linter.unusedSimpArgs false
open Go Go.RowKit Go.Proofs.YtpcnoiigbmiejaaGreatDoor.lib Go.Proofs.YtpcnoiigbmiejaaGreatDoor.st
end Go.Proofs.YtpcnoiigbmiejaaGreatDoor.chain
