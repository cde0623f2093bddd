/- BallOf in the program and in the reference. -/
import Derived.Test.YtpcnoiigbmiejaaGreatDoorPkG
namespace Go.Proofs.YtpcnoiigbmiejaaGreatDoor.ball
set_option linter.unusedVariables false
set_option linter.unusedSimpArgs false
open Go.ChangeShapes Go.WideShapes Go.ChangeAt Go.RowKit
open Go.Proofs.YtpcnoiigbmiejaaGreatDoor.lib Go.Proofs.YtpcnoiigbmiejaaGreatDoor.st Go.Proofs.YtpcnoiigbmiejaaGreatDoor.base Go.Proofs.YtpcnoiigbmiejaaGreatDoor.near Go.Proofs.YtpcnoiigbmiejaaGreatDoor.dist Go.Proofs.YtpcnoiigbmiejaaGreatDoor.ins

/-- what BallOf returns -/
noncomputable def ballR (n : Int) (s r : ByteArray) (x rad : Int) : List Int := if elemB n s r x = true then (if basic.inB rad 0 100 = true then ballTo n.toNat r x.toNat rad n.toNat else []) else []

theorem l9Radius_any (d : Int) (w : World) : Calls Tryz.prog 42 #[.int .i64 d] w fun e w' => e = .returned (.bool (basic.inB d 0 100)) ∧ w = w' := by
  go_enter Tryz.func42, Tryz.ntmps42
  go_wp2_with fail
  refine (basic.l1In_any _ _ _ _).mono ?_
  rintro e w1 ⟨rfl, rfl⟩
  go_wp2
  go_ret
  exact ⟨rfl, rfl⟩

theorem len0 (n : Int) (s r : ByteArray) (x rad : Int) : s.size + r.size ≤ 1048576 → (ballR n s r x rad).length ≤ 4194304 := by
  intro _; unfold ballR; split
  · rename_i h
    obtain ⟨N, X, rfl, rfl, hX, hN, _⟩ := valid_nat h
    split
    · have := ballTo_len N r X rad N
      simp; omega
    · simp
  · simp
end Go.Proofs.YtpcnoiigbmiejaaGreatDoor.ball
