/- partOf: the structure of some elements, in the program. -/
import Derived.Test.YtpcnoiigbmiejaaGreatDoorPkO
import Derived.Test.YtpcnoiigbmiejaaGreatDoorMake
namespace Go.Proofs.YtpcnoiigbmiejaaGreatDoor.part
set_option linter.unusedVariables false
set_option linter.unusedSimpArgs false
open Go.ChangeShapes Go.WideShapes Go.ChangeAt Go.RowKit
open Go.Proofs.YtpcnoiigbmiejaaGreatDoor.lib Go.Proofs.YtpcnoiigbmiejaaGreatDoor.st Go.Proofs.YtpcnoiigbmiejaaGreatDoor.base Go.Proofs.YtpcnoiigbmiejaaGreatDoor.make Go.Proofs.YtpcnoiigbmiejaaGreatDoor.flow Go.Proofs.YtpcnoiigbmiejaaGreatDoor.fits

/-- the bits of the part -/
def pS (sa : ByteArray) (l : List Nat) (x : Nat) : Bool := bitAt sa (l.getD x 0)
def pR (n : Nat) (ra : ByteArray) (l : List Nat) (x y : Nat) : Bool := bitAt ra (l.getD x 0 * n + l.getD y 0)
/-- where a list lies that is not empty -/
theorem lies {w : World} {ao : Option Addr} {m cap : Nat} {l : List Nat} (h : Reads w (.slice ao m cap) (ints l)) (hm : m = l.length) (h1 : 1 ≤ m) :
    ∃ b off, ao = some ⟨b, off, none⟩ ∧ b < w.heap.size ∧ ∀ i, i < m → w.cell? ⟨b, off + i, none⟩ = some (.int .i64 (l.getD i 0 : Nat)) := by
  obtain ⟨ao', c', hv', hc', _⟩ := h
  simp only [Value.slice.injEq] at hv'
  rw [ints_len] at hc'
  rcases hc' with h | ⟨b, off, he, hc⟩
  · have h2 : (ints l).length = 0 := by rw [h]; rfl
    rw [ints_len] at h2; omega
  · have key : ∀ i, i < m → w.cell? ⟨b, off + i, none⟩ = some (.int .i64 (l.getD i 0 : Nat)) := fun i hi => by rw [hc i (by omega), ints_get]
    exact ⟨b, off, hv'.1.trans he, World.block_lt_of_cell? w _ (key 0 (by omega)), key⟩
theorem getD_lt {l : List Nat} {n i : Nat} (h : ∀ y, y ∈ l → y < n) (hi : i < l.length) : l.getD i 0 < n := by
  rw [List.getD_eq_getElem?_getD, List.getElem?_eq_getElem hi]; exact h _ (List.getElem_mem hi)

end Go.Proofs.YtpcnoiigbmiejaaGreatDoor.part
