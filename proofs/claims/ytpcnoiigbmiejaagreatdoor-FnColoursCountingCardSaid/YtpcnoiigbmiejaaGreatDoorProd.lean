/- ProductOf, in the program and in the reference. -/
import Derived.Test.YtpcnoiigbmiejaaGreatDoorRows
import Derived.Test.YtpcnoiigbmiejaaGreatDoorBase
import Derived.Test.YtpcnoiigbmiejaaGreatDoorMake
import Derived.Test.YtpcnoiigbmiejaaGreatDoorFlow
namespace Go.Proofs.YtpcnoiigbmiejaaGreatDoor.prod
set_option linter.unusedVariables false
set_option linter.unusedSimpArgs false
open Go.ChangeShapes Go.WideShapes Go.ChangeAt Go.RowKit
open Go.Proofs.YtpcnoiigbmiejaaGreatDoor.lib Go.Proofs.YtpcnoiigbmiejaaGreatDoor.st Go.Proofs.YtpcnoiigbmiejaaGreatDoor.base Go.Proofs.YtpcnoiigbmiejaaGreatDoor.make Go.Proofs.YtpcnoiigbmiejaaGreatDoor.flow

/-- what ProductOf returns -/
def okP (n : Int) (s r : ByteArray) (m : Int) (t q : ByteArray) : Bool := validB n s r && (validB m t q && decide (n * m ≤ 8))
def pSet (s : ByteArray) (m : Nat) (t : ByteArray) (x : Nat) : Bool := bitAt s (x / m) && bitAt t (x % m)
def pRel (n : Nat) (r : ByteArray) (m : Nat) (q : ByteArray) (x y : Nat) : Bool := bitAt r (x / m * n + y / m) && bitAt q (x % m * m + y % m)
def ps (n : Int) (s r : ByteArray) (m : Int) (t q : ByteArray) : ByteArray := if okP n s r m t q = true then bS (pSet s m.toNat t) (n.toNat * m.toNat) else ⟨#[]⟩
def pr (n : Int) (s r : ByteArray) (m : Int) (t q : ByteArray) : ByteArray := if okP n s r m t q = true then bR (pRel n.toNat r m.toNat q) (n.toNat * m.toNat) (n.toNat * m.toNat) else ⟨#[]⟩
theorem valid_size {n : Int} {s r : ByteArray} (h : validB n s r = true) : ∃ N : Nat, n = N ∧ 1 ≤ N ∧ N ≤ 8 ∧ s.size = N ∧ r.size = N * N := by
  obtain ⟨⟨h2, h3⟩, hs, hr, _⟩ := validB_iff.1 h
  refine ⟨n.toNat, by omega, by omega, by omega, by omega, ?_⟩
  have e : (n.toNat : Int) = n := by omega
  have : ((n.toNat * n.toNat : Nat) : Int) = n * n := by rw [Int.natCast_mul, e]
  omega

/- the reference -/
theorem l1Bit_at (b : Bool) (w : World) : Calls Tryz.prog 58 #[.bool b] w fun e w' => e = .returned (.string (bit1 b)) ∧ w' = w := (l1Bit_any b w).mono fun _ _ h => ⟨h.1, h.2.symm⟩

end Go.Proofs.YtpcnoiigbmiejaaGreatDoor.prod
