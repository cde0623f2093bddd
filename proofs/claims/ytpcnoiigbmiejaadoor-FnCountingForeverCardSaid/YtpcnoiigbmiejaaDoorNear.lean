/- The elements next to an element: nearOf and NearOf, in the program and in the reference. -/
import Derived.Test.YtpcnoiigbmiejaaDoorRows
import Derived.Test.YtpcnoiigbmiejaaDoorBase
import Derived.Test.YtpcnoiigbmiejaaDoorSl
namespace Go.Proofs.YtpcnoiigbmiejaaDoor.near
set_option linter.unusedVariables false
set_option linter.unusedSimpArgs false
open Go.ChangeShapes Go.WideShapes Go.ChangeAt Go.RowKit
open Go.Proofs.YtpcnoiigbmiejaaDoor.lib Go.Proofs.YtpcnoiigbmiejaaDoor.st Go.Proofs.YtpcnoiigbmiejaaDoor.base

/-- two elements are next to each other -/
def adj (n : Nat) (r : ByteArray) (x y : Nat) : Bool := (x != y) && (bitAt r (x * n + y) || bitAt r (y * n + x))
/-- those up to k -/
def nearTo (n : Nat) (r : ByteArray) (x k : Nat) : List Int := ((List.range k).filter (adj n r x)).map fun (y : Nat) => (y : Int)
theorem nearTo_len (n : Nat) (r : ByteArray) (x k : Nat) : (nearTo n r x k).length ≤ k := by
  unfold nearTo; rw [List.length_map]
  have := List.length_filter_le (adj n r x) (List.range k)
  rw [List.length_range] at this; exact this
theorem emptyRow (T : TypeId) (w : World) (B H : Nat) (hH : w.heap.size = H) (hB : B ≤ H) : OwnI T (w.alloc (.cells #[] T)) B (.slice (some ⟨H, 0, none⟩) 0 0) [] := by
  subst hH
  exact World.ownsRow_made w #[] 0 hB (by decide) rfl
theorem infoInt : (Tryd.prog.info? 3).map (fun i => (i.zero, i.size, i.bytes)) = some (some (.int .i64 0), 1, 8) := by kernel_rfl

/-- what NearOf returns -/
def nearR (n : Int) (s r : ByteArray) (x : Int) : List Int := if elemB n s r x = true then nearTo n.toNat r x.toNat n.toNat else []
theorem valid_nat {n : Int} {s r : ByteArray} {x : Int} (h : elemB n s r x = true) : ∃ (N X : Nat), n = N ∧ x = X ∧ X < N ∧ N ≤ 8 ∧ s.size = N ∧ r.size = N * N := by
  obtain ⟨hv, h0, h1⟩ := elemB_iff.1 h
  obtain ⟨⟨h2, h3⟩, hs, hr, _⟩ := validB_iff.1 hv
  refine ⟨n.toNat, x.toNat, by omega, by omega, by omega, by omega, by omega, ?_⟩
  have e : (n.toNat : Int) = n := by omega
  have : ((n.toNat * n.toNat : Nat) : Int) = n * n := by rw [Int.natCast_mul, e]
  omega

theorem len0 (n : Int) (s r : ByteArray) (x : Int) : s.size + r.size ≤ 1048576 → (nearR n s r x).length ≤ 4194304 := by
  intro _; unfold nearR; split
  · rename_i h
    obtain ⟨N, X, rfl, rfl, hX, hN, _⟩ := valid_nat h
    have := nearTo_len N r X N
    simp; omega
  · simp
end Go.Proofs.YtpcnoiigbmiejaaDoor.near
