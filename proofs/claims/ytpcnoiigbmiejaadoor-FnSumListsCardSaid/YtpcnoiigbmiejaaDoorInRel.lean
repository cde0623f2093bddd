/- InRel of the program at a valid structure's elements. -/
import Derived.Test.YtpcnoiigbmiejaaDoorNear
namespace Go.Proofs.YtpcnoiigbmiejaaDoor.inrel
set_option linter.unusedVariables false
set_option linter.unusedSimpArgs false
open Go.ChangeShapes Go.WideShapes Go.ChangeAt Go.RowKit
open Go.Proofs.YtpcnoiigbmiejaaDoor.lib Go.Proofs.YtpcnoiigbmiejaaDoor.st Go.Proofs.YtpcnoiigbmiejaaDoor.base Go.Proofs.YtpcnoiigbmiejaaDoor.near
theorem implValid_any (n : Int) (s r : ByteArray) (w : World) (hs : s.size ≤ 9223372036854775807) (hr : r.size ≤ 9223372036854775807) :
    Calls Tryd.prog 12 #[.agg #[.int .i64 n, .string s, .string r]] w fun e w' => e = .returned (.bool (validB n s r)) ∧ Below w.heap.size w w' := by
  have AW : Hid (Below w.heap.size w (w.alloc (.cells #[.int .i64 n, .string s, .string r] 24))) := (Below.refl _ _).alloc (Nat.le_refl _) _
  go_enter Tryd.func12, Tryd.ntmps12
  go_wp2_with fail
  refine (isStructure_any n s r _ hs hr).mono ?_
  rintro e w1 ⟨rfl, hw⟩
  have AW1 : Hid (Below w.heap.size w w1) := AW.out.trans (hw.mono (by simp))
  clear hw
  go_wp2
  go_ret
  exact ⟨rfl, AW1.out⟩
end Go.Proofs.YtpcnoiigbmiejaaDoor.inrel
