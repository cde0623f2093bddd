/- eachShape, the whole. -/
import Derived.Test.YtpcnoiigbmiejaaGreatDoorEach
import Derived.Laws.EntriesVeiled
namespace Go.Proofs.YtpcnoiigbmiejaaGreatDoor.each
set_option linter.unusedVariables false
set_option linter.unusedSimpArgs false
open Go.ChangeShapes Go.WideShapes Go.ChangeAt Go.RowKit
open Go.Proofs.YtpcnoiigbmiejaaGreatDoor.lib Go.Proofs.YtpcnoiigbmiejaaGreatDoor.st Go.Proofs.YtpcnoiigbmiejaaGreatDoor.base Go.Proofs.YtpcnoiigbmiejaaGreatDoor.ord Go.Proofs.YtpcnoiigbmiejaaGreatDoor.fits Go.Proofs.YtpcnoiigbmiejaaGreatDoor.sl
variable {n : Nat} {sa ra sb rb : ByteArray} {ft : FuncId} {cs : Array Value}
variable {σ : Type} {st : σ → List Nat → σ × Bool} {Inv Fin : σ → World → Prop} {B : Nat}
/-- the world in which the search begins -/
def start (n : Nat) (sa ra sb rb : ByteArray) (ft : FuncId) (cs : Array Value) (w : World) : World :=
  ((((((w.alloc (.cells #[.int .i64 n, .string sa, .string ra] 24)).alloc (.cells #[.int .i64 n, .string sb, .string rb] 24)).alloc (.cells #[.func (.func ft) #[] cs] 65)).alloc (.cells #[] 3)).alloc
    (.cells #[.slice (some ⟨w.heap.size + 1 + 1 + 1, 0, none⟩) 0 0] 29)).alloc (.cells #[.func (.func 82) #[] (caps w.heap.size)] 59))
end Go.Proofs.YtpcnoiigbmiejaaGreatDoor.each
