/- BallOf in the program and in the reference. -/
import Derived.Test.YtpcnoiigbmiejaaGreatDoorPkG
namespace Go.Proofs.YtpcnoiigbmiejaaGreatDoor.ball
set_option linter.unusedVariables false
set_option linter.unusedSimpArgs false
open Go.ChangeShapes Go.WideShapes Go.ChangeAt Go.RowKit
open Go.Proofs.YtpcnoiigbmiejaaGreatDoor.lib Go.Proofs.YtpcnoiigbmiejaaGreatDoor.st Go.Proofs.YtpcnoiigbmiejaaGreatDoor.base Go.Proofs.YtpcnoiigbmiejaaGreatDoor.near Go.Proofs.YtpcnoiigbmiejaaGreatDoor.dist Go.Proofs.YtpcnoiigbmiejaaGreatDoor.ins

/-- what BallOf returns -/
noncomputable def ballR (n : Int) (s r : ByteArray) (x rad : Int) : List Int := if elemB n s r x = true then (if basic.inB rad 0 100 = true then ballTo n.toNat r x.toNat rad n.toNat else []) else []

theorem len0 (n : Int) (s r : ByteArray) (x rad : Int) : s.size + r.size ≤ 1048576 → (ballR n s r x rad).length ≤ 4194304 := by
  intro _; unfold ballR; split
  · rename_i h
    obtain ⟨N, X, rfl, rfl, hX, hN, _⟩ := valid_nat h
    split
    · have := ballTo_len N r X rad N
      simp; omega
    · simp
  · simp
end Go.Proofs.YtpcnoiigbmiejaaGreatDoor.ball
