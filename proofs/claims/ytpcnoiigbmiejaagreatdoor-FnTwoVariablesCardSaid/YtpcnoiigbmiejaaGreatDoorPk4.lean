/- Several texts in one: Still, GoB. -/
import Derived.Test.YtpcnoiigbmiejaaGreatDoorPk2
import Derived.Test.YtpcnoiigbmiejaaGreatDoorPk1
import Derived.Test.YtpcnoiigbmiejaaGreatDoorPk3
import Derived.Test.YtpcnoiigbmiejaaGreatDoorPk5
/- Lists in the same way: stillSame, sameWay and IsPartial of the program. -/
namespace Go.Proofs.YtpcnoiigbmiejaaGreatDoor.still
set_option linter.unusedVariables false
set_option linter.unusedSimpArgs false
open Go.ChangeShapes Go.WideShapes Go.ChangeAt Go.RowKit
open Go.Proofs.YtpcnoiigbmiejaaGreatDoor.lib Go.Proofs.YtpcnoiigbmiejaaGreatDoor.st Go.Proofs.YtpcnoiigbmiejaaGreatDoor.base Go.Proofs.YtpcnoiigbmiejaaGreatDoor.flow Go.Proofs.YtpcnoiigbmiejaaGreatDoor.fits

end Go.Proofs.YtpcnoiigbmiejaaGreatDoor.still

/- What the program's games compute, in plain words. -/
namespace Go.Proofs.YtpcnoiigbmiejaaGreatDoor.gob
set_option linter.unusedVariables false
set_option linter.unusedSimpArgs false
open Go.Proofs.YtpcnoiigbmiejaaGreatDoor.base Go.Proofs.YtpcnoiigbmiejaaGreatDoor.still Go.Proofs.YtpcnoiigbmiejaaGreatDoor.game

/-- the structure by its bits -/
def gr (N : Nat) (s r : ByteArray) : Gr := ⟨N, bitAt s, fun x y => bitAt r (x * N + y)⟩
def Els (N : Nat) (l : List Nat) : Prop := ∀ x, x ∈ l → x < N
theorem Els.snoc {N : Nat} {l : List Nat} (h : Els N l) {x : Nat} (hx : x < N) : Els N (l ++ [x]) := fun y hy => by
  rcases List.mem_append.1 hy with h' | h'
  · exact h y h'
  · rw [List.mem_singleton.1 h']; exact hx
theorem Els.get {N : Nat} {l : List Nat} (h : Els N l) {i : Nat} (hi : i < l.length) : l.getD i 0 < N := by
  rw [List.getD_eq_getElem?_getD, List.getElem?_eq_getElem hi]
  exact h _ (List.getElem_mem _)
section
variable {N : Nat} {sa ra : ByteArray} {M : Nat} {sb rb : ByteArray} {la lb : List Nat}
theorem getD_take {l : List Nat} {i k : Nat} (h : k < i) : (l.take i).getD k 0 = l.getD k 0 := by
  simp [List.getD_eq_getElem?_getD, List.getElem?_take, h]
end
end Go.Proofs.YtpcnoiigbmiejaaGreatDoor.gob
