/- InRel of the program at a valid structure's elements. -/
import Derived.Test.YtpcnoiigbmiejaaGreatDoorNear
namespace Go.Proofs.YtpcnoiigbmiejaaGreatDoor.inrel
set_option linter.unusedVariables false
set_option linter.unusedSimpArgs false
open Go.ChangeShapes Go.WideShapes Go.ChangeAt Go.RowKit
open Go.Proofs.YtpcnoiigbmiejaaGreatDoor.lib Go.Proofs.YtpcnoiigbmiejaaGreatDoor.st Go.Proofs.YtpcnoiigbmiejaaGreatDoor.base Go.Proofs.YtpcnoiigbmiejaaGreatDoor.near
theorem implValid_any (n : Int) (s r : ByteArray) (w : World) (hs : s.size ≤ 9223372036854775807) (hr : r.size ≤ 9223372036854775807) :
    Calls Tryz.prog 10 #[.agg #[.int .i64 n, .string s, .string r]] w fun e w' => e = .returned (.bool (validB n s r)) ∧ Below w.heap.size w w' := by
  have AW : Hid (Below w.heap.size w (w.alloc (.cells #[.int .i64 n, .string s, .string r] 24))) := (Below.refl _ _).alloc (Nat.le_refl _) _
  go_enter Tryz.func10, Tryz.ntmps10
  go_wp2_with fail
  refine (isStructure_any n s r _ hs hr).mono ?_
  rintro e w1 ⟨rfl, hw⟩
  have AW1 : Hid (Below w.heap.size w w1) := AW.out.trans (hw.mono (by simp))
  clear hw
  go_wp2
  go_ret
  exact ⟨rfl, AW1.out⟩
end Go.Proofs.YtpcnoiigbmiejaaGreatDoor.inrel
