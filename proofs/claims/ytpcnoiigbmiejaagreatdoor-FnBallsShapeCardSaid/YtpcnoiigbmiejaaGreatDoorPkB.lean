/- Several texts in one: Less, Num, Refine, Both, SpecC, SpecD. -/
import Derived.Test.YtpcnoiigbmiejaaGreatDoorPkA
import Derived.RegionTactic
import Derived.ChangeAlike
import Derived.Test.YtpcnoiigbmiejaaGreatDoorChain
import Derived.Test.YtpcnoiigbmiejaaGreatDoorBasic
/- The reference's order of lists: l8Less, l8Equal. -/
namespace Go.Proofs.YtpcnoiigbmiejaaGreatDoor.less
set_option linter.unusedVariables false
set_option linter.unusedSimpArgs false
open Go.ChangeShapes Go.WideShapes Go.ChangeAt Go.RowKit
open Go.Proofs.YtpcnoiigbmiejaaGreatDoor.lib Go.Proofs.YtpcnoiigbmiejaaGreatDoor.sll Go.Proofs.YtpcnoiigbmiejaaGreatDoor.colp

theorem less_drop : ∀ (k : Nat) (l m : List Int), l.take k = m.take k → k ≤ l.length → k ≤ m.length → lessL l m = lessL (l.drop k) (m.drop k)
  | 0, l, m, _, _, _ => by simp
  | k + 1, [], m, _, h, _ => by simp at h
  | k + 1, a :: l, [], _, _, h => by simp at h
  | k + 1, a :: l, b :: m, h, h1, h2 => by
    simp only [List.take_succ_cons, List.cons.injEq] at h
    rw [lessL, if_pos h.1, List.drop_succ_cons, List.drop_succ_cons]
    exact less_drop k l m h.2 (by simpa using h1) (by simpa using h2)
theorem less_at {l m : List Int} {k : Nat} (h : l.take k = m.take k) (h1 : k < l.length) (h2 : k < m.length) (hne : l.getD k 0 ≠ m.getD k 0) : lessL l m = decide (l.getD k 0 < m.getD k 0) := by
  rw [less_drop k l m h (by omega) (by omega), List.drop_eq_getElem_cons h1, List.drop_eq_getElem_cons h2]
  simp only [List.getD_eq_getElem?_getD, List.getElem?_eq_getElem h1, List.getElem?_eq_getElem h2, Option.getD_some] at hne ⊢
  rw [lessL, if_neg hne]
theorem less_end {l m : List Int} {k : Nat} (h : l.take k = m.take k) (h1 : k ≤ l.length) (h2 : k ≤ m.length) (hk : l.length = k ∨ m.length = k) : lessL l m = decide (l.length < m.length) := by
  rw [less_drop k l m h h1 h2]
  rcases hk with hk | hk
  · rw [List.drop_eq_nil_of_le (by omega)]
    cases hd : m.drop k with
    | nil =>
      have : (m.drop k).length = 0 := by rw [hd]; rfl
      rw [List.length_drop] at this
      rw [lessL, decide_eq_false (by omega)]
    | cons a t =>
      have : (m.drop k).length = t.length + 1 := by rw [hd]; rfl
      rw [List.length_drop] at this
      rw [lessL, decide_eq_true (by omega)]
  · rw [List.drop_eq_nil_of_le (show m.length ≤ k by omega)]
    rw [decide_eq_false (by omega)]
    cases l.drop k <;> rfl

end Go.Proofs.YtpcnoiigbmiejaaGreatDoor.less

/- The reference's numbers by order: l8Numbers. -/
namespace Go.Proofs.YtpcnoiigbmiejaaGreatDoor.numb
set_option linter.unusedVariables false
set_option linter.unusedSimpArgs false
open Go.ChangeShapes Go.WideShapes Go.ChangeAt Go.RowKit
open Go.Proofs.YtpcnoiigbmiejaaGreatDoor.lib Go.Proofs.YtpcnoiigbmiejaaGreatDoor.sll Go.Proofs.YtpcnoiigbmiejaaGreatDoor.colp Go.Proofs.YtpcnoiigbmiejaaGreatDoor.less Go.Proofs.YtpcnoiigbmiejaaGreatDoor.flow

/-- the lists are short and not empty -/
def Short (L : List (List Int)) : Prop := L.length ≤ 100 ∧ ∀ l, l ∈ L → l ≠ [] ∧ l.length ≤ 1000
theorem Short.get {L : List (List Int)} (h : Short L) {i : Nat} (hi : i < L.length) : L.getD i [] ≠ [] ∧ (L.getD i []).length ≤ 1000 := by
  rw [List.getD_eq_getElem?_getD, List.getElem?_eq_getElem hi]; exact h.2 _ (List.getElem_mem hi)
end Go.Proofs.YtpcnoiigbmiejaaGreatDoor.numb

/- l8Refine of the reference: a round more of two structures. -/
namespace Go.Proofs.YtpcnoiigbmiejaaGreatDoor.refine
set_option linter.unusedVariables false
set_option linter.unusedSimpArgs false
open Go.ChangeShapes Go.WideShapes Go.ChangeAt Go.RowKit
open Go.Proofs.YtpcnoiigbmiejaaGreatDoor.lib Go.Proofs.YtpcnoiigbmiejaaGreatDoor.st Go.Proofs.YtpcnoiigbmiejaaGreatDoor.base Go.Proofs.YtpcnoiigbmiejaaGreatDoor.col Go.Proofs.YtpcnoiigbmiejaaGreatDoor.colp Go.Proofs.YtpcnoiigbmiejaaGreatDoor.sll Go.Proofs.YtpcnoiigbmiejaaGreatDoor.kind Go.Proofs.YtpcnoiigbmiejaaGreatDoor.srt Go.Proofs.YtpcnoiigbmiejaaGreatDoor.descr Go.Proofs.YtpcnoiigbmiejaaGreatDoor.numb

end Go.Proofs.YtpcnoiigbmiejaaGreatDoor.refine

/- l8Both of the reference: the colours of two structures after some rounds. -/
namespace Go.Proofs.YtpcnoiigbmiejaaGreatDoor.both
set_option linter.unusedVariables false
set_option linter.unusedSimpArgs false
open Go.ChangeShapes Go.WideShapes Go.ChangeAt Go.RowKit
open Go.Proofs.YtpcnoiigbmiejaaGreatDoor.lib Go.Proofs.YtpcnoiigbmiejaaGreatDoor.st Go.Proofs.YtpcnoiigbmiejaaGreatDoor.base Go.Proofs.YtpcnoiigbmiejaaGreatDoor.col Go.Proofs.YtpcnoiigbmiejaaGreatDoor.colp Go.Proofs.YtpcnoiigbmiejaaGreatDoor.sll Go.Proofs.YtpcnoiigbmiejaaGreatDoor.refine

/-- the colours of the first, of the second one -/
def colA (a b : St) (k : Nat) : List Int := (cols [a, b] k).take a.n
def colB (a b : St) (k : Nat) : List Int := (cols [a, b] k).drop a.n

end Go.Proofs.YtpcnoiigbmiejaaGreatDoor.both

/- Counting of colours in the reference: l8Most, l8Counts, l8Same; ColoursOf. -/
namespace Go.Proofs.YtpcnoiigbmiejaaGreatDoor.specc
set_option linter.unusedVariables false
set_option linter.unusedSimpArgs false
open Go.ChangeShapes Go.WideShapes Go.ChangeAt Go.RowKit
open Go.Proofs.YtpcnoiigbmiejaaGreatDoor.lib Go.Proofs.YtpcnoiigbmiejaaGreatDoor.st Go.Proofs.YtpcnoiigbmiejaaGreatDoor.base Go.Proofs.YtpcnoiigbmiejaaGreatDoor.col Go.Proofs.YtpcnoiigbmiejaaGreatDoor.colp Go.Proofs.YtpcnoiigbmiejaaGreatDoor.sll Go.Proofs.YtpcnoiigbmiejaaGreatDoor.both Go.Proofs.YtpcnoiigbmiejaaGreatDoor.descr Go.Proofs.YtpcnoiigbmiejaaGreatDoor.flow Go.Proofs.YtpcnoiigbmiejaaGreatDoor.less

end Go.Proofs.YtpcnoiigbmiejaaGreatDoor.specc

/- The reference's colour functions: ColoursOf, StableColours, ColourCounts, BothColours, SameColours, ColourRound. -/
namespace Go.Proofs.YtpcnoiigbmiejaaGreatDoor.specd
set_option linter.unusedVariables false
set_option linter.unusedSimpArgs false
open Go.ChangeShapes Go.WideShapes Go.ChangeAt Go.RowKit
open Go.Proofs.YtpcnoiigbmiejaaGreatDoor.lib Go.Proofs.YtpcnoiigbmiejaaGreatDoor.st Go.Proofs.YtpcnoiigbmiejaaGreatDoor.base Go.Proofs.YtpcnoiigbmiejaaGreatDoor.col Go.Proofs.YtpcnoiigbmiejaaGreatDoor.colp Go.Proofs.YtpcnoiigbmiejaaGreatDoor.sll Go.Proofs.YtpcnoiigbmiejaaGreatDoor.both Go.Proofs.YtpcnoiigbmiejaaGreatDoor.descr Go.Proofs.YtpcnoiigbmiejaaGreatDoor.flow Go.Proofs.YtpcnoiigbmiejaaGreatDoor.less Go.Proofs.YtpcnoiigbmiejaaGreatDoor.specc

theorem valid_size {n : Int} {s r : ByteArray} (h : validB n s r = true) : ∃ N : Nat, n = N ∧ 1 ≤ N ∧ N ≤ 8 ∧ s.size = N ∧ r.size = N * N := by
  obtain ⟨⟨h2, h3⟩, hs, hr, _⟩ := validB_iff.1 h
  refine ⟨n.toNat, by omega, by omega, by omega, by omega, ?_⟩
  have e : (n.toNat : Int) = n := by omega
  have : ((n.toNat * n.toNat : Nat) : Int) = n * n := by rw [Int.natCast_mul, e]
  omega
theorem emptyRow (T : TypeId) (w : World) (B H : Nat) (hH : w.heap.size = H) (hB : B ≤ H) : OwnI T (w.alloc (.cells #[] T)) B (.slice (some ⟨H, 0, none⟩) 0 0) [] := by
  subst hH
  exact World.ownsRow_made w #[] 0 hB (by decide) rfl
/-- the colours of one after c rounds -/
def colsR (n : Int) (s r : ByteArray) (c : Int) : List Int := if validB n s r = true ∧ basic.inB c 0 8 = true then cols [⟨n.toNat, s, r⟩] c.toNat else []
theorem colsR_no {n : Int} {s r : ByteArray} {c : Int} (h : ¬ (validB n s r = true ∧ basic.inB c 0 8 = true)) : colsR n s r c = [] := if_neg h
theorem colsR_yes {N C : Nat} {s r : ByteArray} (h : validB N s r = true) (hc : C ≤ 8) : colsR N s r C = cols [⟨N, s, r⟩] C := by
  unfold colsR
  rw [if_pos ⟨h, basic.inB_true (by omega) (by omega)⟩]; rfl
end Go.Proofs.YtpcnoiigbmiejaaGreatDoor.specd
