/- Structures' variables made in a region that draws its order. -/
import Derived.Test.YtpcnoiigbmiejaaGreatDoorFloat
import Derived.Test.YtpcnoiigbmiejaaGreatDoorBase
namespace Go.Proofs.YtpcnoiigbmiejaaGreatDoor.chain
set_option linter.unusedVariables false
set_option linter.unusedSimpArgs false
open Go Go.RowKit Go.Proofs.YtpcnoiigbmiejaaGreatDoor.lib Go.Proofs.YtpcnoiigbmiejaaGreatDoor.st
/-- a structure of nothing -/
def zS : Array Value := #[.int .i64 0, .string ⟨#[]⟩, .string ⟨#[]⟩]
theorem allocS : Allocs Tryz.prog 24 zS := by
  intro ρ o h w
  unfold execOp
  simp only [h]
  have hz : (Tryz.prog.info? 24).map (fun i => (i.zero, i.size, i.bytes)) = some (some (.agg zS), 3, 40) := by kernel_rfl
  obtain ⟨i, hi, hz0, hz1, hz2⟩ := info_parts hz
  simp [go_sem, hi, hz0]
  rfl
theorem of_drew {w w' : World} (h : Below w.drew.heap.size w.drew w') : Below w.heap.size w w' := by
  cases h; constructor <;> assumption
end Go.Proofs.YtpcnoiigbmiejaaGreatDoor.chain
