/- Balls of the same shape, in plain words. -/
import Derived.Test.YtpcnoiigbmiejaaGreatDoorSameI
import Derived.Test.YtpcnoiigbmiejaaGreatDoorPkO
import Derived.Test.YtpcnoiigbmiejaaGreatDoorCls
namespace Go.Proofs.YtpcnoiigbmiejaaGreatDoor.same
set_option linter.unusedVariables false
set_option linter.unusedSimpArgs false
open Go.Proofs.YtpcnoiigbmiejaaGreatDoor.base Go.Proofs.YtpcnoiigbmiejaaGreatDoor.fits Go.Proofs.YtpcnoiigbmiejaaGreatDoor.around Go.Proofs.YtpcnoiigbmiejaaGreatDoor.part Go.Proofs.YtpcnoiigbmiejaaGreatDoor.cls
theorem sameB_iff {n : Nat} {sa ra : ByteArray} {x m : Nat} {sb rb : ByteArray} {y : Nat} {rad : Int} :
    sameB n sa ra x m sb rb y rad = true ↔ aN n ra x rad = aN m rb y rad ∧ fits.Twin (aN n ra x rad) (aS n sa ra x rad) (aR n ra x rad) (aS m sb rb y rad) (aR m rb y rad) := by
  unfold sameB found
  rw [Bool.and_eq_true, decide_eq_true_iff, head_twin (show 1 ≤ aN n ra x rad from midN_pos n ra x rad)]
theorem sameB_refl (n : Nat) (s r : ByteArray) (x : Nat) (rad : Int) : sameB n s r x n s r x rad = true := sameB_iff.2 ⟨rfl, fits.Twin.refl _ _ (midN_pos n r x rad)⟩
theorem sameB_symm {n : Nat} {sa ra : ByteArray} {x m : Nat} {sb rb : ByteArray} {y : Nat} {rad : Int} (h : sameB n sa ra x m sb rb y rad = true) : sameB m sb rb y n sa ra x rad = true := by
  obtain ⟨e, h⟩ := sameB_iff.1 h
  refine sameB_iff.2 ⟨e.symm, ?_⟩
  rw [← e]
  exact h.symm (midN_pos n ra x rad)
theorem sameB_comm (n : Nat) (sa ra : ByteArray) (x m : Nat) (sb rb : ByteArray) (y : Nat) (rad : Int) : sameB n sa ra x m sb rb y rad = sameB m sb rb y n sa ra x rad :=
  Bool.eq_iff_iff.2 ⟨sameB_symm, sameB_symm⟩
theorem sameB_trans {n : Nat} {sa ra : ByteArray} {x m : Nat} {sb rb : ByteArray} {y k : Nat} {sc rc : ByteArray} {z : Nat} {rad : Int} (h : sameB n sa ra x m sb rb y rad = true) (h2 : sameB m sb rb y k sc rc z rad = true) : sameB n sa ra x k sc rc z rad = true := by
  obtain ⟨e, h⟩ := sameB_iff.1 h
  obtain ⟨e2, h2⟩ := sameB_iff.1 h2
  refine sameB_iff.2 ⟨e.trans e2, ?_⟩
  rw [← e] at h2
  exact h.trans (midN_pos n ra x rad) h2
/-- two elements of one structure -/
noncomputable def shp (n : Nat) (s r : ByteArray) (rad : Int) (y x : Nat) : Bool := sameB n s r y n s r x rad
theorem shp_eqv (n : Nat) (s r : ByteArray) (rad : Int) : Eqv (shp n s r rad) n where
  refl x _ := sameB_refl n s r x rad
  symm x y _ _ h := sameB_symm h
  trans x y z _ _ _ h1 h2 := sameB_trans h1 h2
end Go.Proofs.YtpcnoiigbmiejaaGreatDoor.same
