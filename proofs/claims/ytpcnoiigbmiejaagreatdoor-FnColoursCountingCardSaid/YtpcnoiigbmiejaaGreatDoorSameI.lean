/- sameBall and SameBall of the program. -/
import Derived.Test.YtpcnoiigbmiejaaGreatDoorPkG
import Derived.Test.YtpcnoiigbmiejaaGreatDoorEach2
import Derived.Test.YtpcnoiigbmiejaaGreatDoorBallO
import Derived.Test.YtpcnoiigbmiejaaGreatDoorFloatS
namespace Go.Proofs.YtpcnoiigbmiejaaGreatDoor.same
set_option linter.unusedVariables false
set_option linter.unusedSimpArgs false
open Go.ChangeShapes Go.WideShapes Go.ChangeAt Go.RowKit
open Go.Proofs.YtpcnoiigbmiejaaGreatDoor.lib Go.Proofs.YtpcnoiigbmiejaaGreatDoor.st Go.Proofs.YtpcnoiigbmiejaaGreatDoor.base Go.Proofs.YtpcnoiigbmiejaaGreatDoor.make Go.Proofs.YtpcnoiigbmiejaaGreatDoor.near Go.Proofs.YtpcnoiigbmiejaaGreatDoor.dist Go.Proofs.YtpcnoiigbmiejaaGreatDoor.ball Go.Proofs.YtpcnoiigbmiejaaGreatDoor.fits Go.Proofs.YtpcnoiigbmiejaaGreatDoor.part Go.Proofs.YtpcnoiigbmiejaaGreatDoor.around Go.Proofs.YtpcnoiigbmiejaaGreatDoor.ord Go.Proofs.YtpcnoiigbmiejaaGreatDoor.each Go.Proofs.YtpcnoiigbmiejaaGreatDoor.chain Go.Proofs.YtpcnoiigbmiejaaGreatDoor.flow

/-- what is told: whether the order begins with the middle; one is enough -/
def stB (_ : Bool) (o : List Nat) : Bool × Bool := (o.getD 0 0 == 0, false)
/-- some order of the first structure fits the second one and begins with its first element -/
def found (n : Nat) (sa ra sb rb : ByteArray) : Bool := (ords n (okB n sa ra sb rb) n []).head?.any fun o => o.getD 0 0 == 0
end Go.Proofs.YtpcnoiigbmiejaaGreatDoor.same
