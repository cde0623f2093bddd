/- FnColours in plain words. -/
import Derived.Test.YtefneihlgclkbaaGreatDoorColQ
import Derived.Test.YtefneihlgclkbaaGreatDoorPkB
namespace Go.Proofs.YtefneihlgclkbaaGreatDoor.colm
set_option linter.unusedVariables false
set_option linter.unusedSimpArgs false
open Go.Proofs.YtefneihlgclkbaaGreatDoor.base Go.Proofs.YtefneihlgclkbaaGreatDoor.col Go.Proofs.YtefneihlgclkbaaGreatDoor.colp Go.Proofs.YtefneihlgclkbaaGreatDoor.both Go.Proofs.YtefneihlgclkbaaGreatDoor.colq Go.Proofs.YtefneihlgclkbaaGreatDoor.fits
/-- equal a round later, equal now -/
theorem cols_back {As : List St} {k i j : Nat} (hi : i < total As) (hj : j < total As) (h : (cols As (k + 1)).getD i 0 = (cols As (k + 1)).getD j 0) : (cols As k).getD i 0 = (cols As k).getD j 0 := by
  by_cases h1 : (cols As k).getD i 0 < (cols As k).getD j 0
  · have := cols_mono hi hj h1; omega
  · by_cases h2 : (cols As k).getD j 0 < (cols As k).getD i 0
    · have := cols_mono hj hi h2; omega
    · omega
/-- also at the greatest number of rounds -/
theorem next_back {a : St} {k i j : Nat} (hi : i < a.n) (hj : j < a.n) (h : (cols [a] (min (k + 1) 8)).getD i 0 = (cols [a] (min (k + 1) 8)).getD j 0) (hk : k ≤ 8) : (cols [a] k).getD i 0 = (cols [a] k).getD j 0 := by
  by_cases e : k = 8
  · subst e; exact h
  · rw [show min (k + 1) 8 = k + 1 by omega] at h
    exact cols_back (As := [a]) (by simp [total]; omega) (by simp [total]; omega) h
/-- moved elements keep their colours -/
theorem moved {n : Nat} {sa ra sb rb : ByteArray} {o : List Nat} (h : Iso n sa ra sb rb o) (k : Nat) {i : Nat} (hi : i < n) : (cols [⟨n, sb, rb⟩] k).getD i 0 = (cols [⟨n, sa, ra⟩] k).getD (o.getD i 0) 0 := iso_one h k i hi
/-- elements of one orbit have one colour -/
theorem orbit {n : Nat} {s r : ByteArray} {o : List Nat} (h : Iso n s r s r o) (k : Nat) {i : Nat} (hi : i < n) : (cols [⟨n, s, r⟩] k).getD (o.getD i 0) 0 = (cols [⟨n, s, r⟩] k).getD i 0 := (iso_one h k i hi).symm
/-- no colour is missing -/
theorem full {a : St} (h : 0 < a.n) (k : Nat) {x : Int} : x ∈ cols [a] k ↔ 0 ≤ x ∧ x < most (cols [a] k) := by
  have hl := one_len a k
  cases k with
  | zero =>
    refine nums_all fun e => ?_
    rw [cols, e] at hl; simp [nums] at hl; omega
  | succ k =>
    refine nums_all fun e => ?_
    rw [cols, e] at hl; simp [nums] at hl; omega
end Go.Proofs.YtefneihlgclkbaaGreatDoor.colm
