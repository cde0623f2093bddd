/- SameShape of the program: whether there is an order that fits. -/
import Derived.Test.YtefneihlgclkbaaGreatDoorEach2
import Derived.Test.YtefneihlgclkbaaGreatDoorPkO
import Derived.Test.YtefneihlgclkbaaGreatDoorChain
import Derived.WalkSpells
namespace Go.Proofs.YtefneihlgclkbaaGreatDoor.shape
set_option linter.unusedVariables false
set_option linter.unusedSimpArgs false
open Go.ChangeShapes Go.WideShapes Go.ChangeAt Go.RowKit
open Go.Proofs.YtefneihlgclkbaaGreatDoor.lib Go.Proofs.YtefneihlgclkbaaGreatDoor.st Go.Proofs.YtefneihlgclkbaaGreatDoor.base Go.Proofs.YtefneihlgclkbaaGreatDoor.make Go.Proofs.YtefneihlgclkbaaGreatDoor.fits Go.Proofs.YtefneihlgclkbaaGreatDoor.ord Go.Proofs.YtefneihlgclkbaaGreatDoor.each Go.Proofs.YtefneihlgclkbaaGreatDoor.chain Go.Proofs.YtefneihlgclkbaaGreatDoor.flow

theorem infoI : (Tryz.prog.info? 3).map (fun i => (i.zero, i.size, i.bytes)) = some (some (.int .i64 0), 1, 8) := by kernel_rfl
/-- what is told: there is one -/
def stS (_ : Bool) (_ : List Nat) : Bool × Bool := (true, false)
/-- the cell in which the order is kept -/
def KeptS (c : Nat) (s : Bool) (W : World) : Prop := ∃ v, W.heap[c]? = some (.cells #[v] 27 (0, 0)) ∧ (s = false → v = .slice none 0 0) ∧ (s = true → ∃ a l cp, v = .slice (some a) l cp)
/-- some order fits -/
def shapeB (n : Nat) (sa ra sb rb : ByteArray) : Bool := !(ords n (okB n sa ra sb rb) n []).isEmpty
theorem shape_iff {n : Nat} {sa ra sb rb : ByteArray} : shapeB n sa ra sb rb = true ↔ ∃ o, Iso n sa ra sb rb o := by
  unfold shapeB
  rw [Bool.not_eq_true', List.isEmpty_eq_false_iff_exists_mem]
  exact ⟨fun ⟨o, h⟩ => ⟨o, mem_iso.1 h⟩, fun ⟨o, h⟩ => ⟨o, mem_iso.2 h⟩⟩
theorem run_stS : ∀ (L : List (List Nat)), (run stS L false).1 = !L.isEmpty
  | [] => rfl
  | o :: L => by simp [run, stS]
/-- what SameShape reports -/
def shpR (n : Int) (sa ra : ByteArray) (m : Int) (sb rb : ByteArray) : Bool := validB n sa ra && (validB m sb rb && (decide (n = m) && shapeB n.toNat sa ra sb rb))
theorem shpR_iff {n : Int} {sa ra : ByteArray} {m : Int} {sb rb : ByteArray} : shpR n sa ra m sb rb = true ↔ validB n sa ra = true ∧ validB m sb rb = true ∧ n = m ∧ ∃ o, Iso n.toNat sa ra sb rb o := by
  unfold shpR
  rw [Bool.and_eq_true, Bool.and_eq_true, Bool.and_eq_true, decide_eq_true_iff, shape_iff]
theorem valid_size' {n : Int} {s r : ByteArray} (h : validB n s r = true) : ∃ N : Nat, n = N ∧ 1 ≤ N ∧ N ≤ 8 ∧ s.size = N ∧ r.size = N * N := by
  obtain ⟨⟨h2, h3⟩, hs, hr, _⟩ := validB_iff.1 h
  refine ⟨n.toNat, by omega, by omega, by omega, by omega, ?_⟩
  have e : (n.toNat : Int) = n := by omega
  have : ((n.toNat * n.toNat : Nat) : Int) = n * n := by rw [Int.natCast_mul, e]
  omega

end Go.Proofs.YtefneihlgclkbaaGreatDoor.shape
