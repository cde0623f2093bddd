/- FnDistanceOf: the plain law. -/
import Derived.Test.YtpcnoiigbmiejaaGreatDoorPieces
namespace Go.Proofs.YtpcnoiigbmiejaaGreatDoor.dist
set_option linter.unusedVariables false
set_option linter.unusedSimpArgs false
open Go.Proofs.YtpcnoiigbmiejaaGreatDoor.near Go.Proofs.YtpcnoiigbmiejaaGreatDoor.pieces Go.Proofs.YtpcnoiigbmiejaaGreatDoor.cls
def Least (f : Nat → Int) (l : List Int) (j : Nat) (m : Int) : Prop :=
  (m = -1 ∧ ∀ i, i < j → f (l.getD i 0).toNat < 0) ∨ (0 ≤ m ∧ (∃ i, i < j ∧ f (l.getD i 0).toNat = m) ∧ ∀ i, i < j → 0 ≤ f (l.getD i 0).toNat → m ≤ f (l.getD i 0).toNat)
theorem Least.keep {f : Nat → Int} {l : List Int} {j Z : Nat} {m : Int} (h : Least f l j m) (hZ : l.getD j 0 = (Z : Int)) (hk : f Z < 0 ∨ (0 ≤ m ∧ m ≤ f Z)) : Least f l (j + 1) m := by
  have e : f (l.getD j 0).toNat = f Z := by rw [hZ]; rfl
  rcases h with ⟨h0, h1⟩ | ⟨h0, ⟨i, hi, hf⟩, h2⟩
  · refine .inl ⟨h0, fun i hi => ?_⟩
    by_cases hij : i = j
    · subst hij; rw [e]; omega
    · exact h1 i (by omega)
  · refine .inr ⟨h0, ⟨i, by omega, hf⟩, fun i hi h3 => ?_⟩
    by_cases hij : i = j
    · subst hij; rw [e] at h3 ⊢; omega
    · exact h2 i (by omega) h3
theorem Least.take {f : Nat → Int} {l : List Int} {j Z : Nat} {m : Int} (h : Least f l j m) (hZ : l.getD j 0 = (Z : Int)) (h0 : 0 ≤ f Z) (hk : m < 0 ∨ f Z < m) : Least f l (j + 1) (f Z) := by
  have e : f (l.getD j 0).toNat = f Z := by rw [hZ]; rfl
  refine .inr ⟨h0, ⟨j, by omega, e⟩, fun i hi h3 => ?_⟩
  by_cases hij : i = j
  · subst hij; omega
  · rcases h with ⟨_, h1⟩ | ⟨h0', _, h2⟩
    · have := h1 i (by omega); omega
    · have := h2 i (by omega) h3; omega
theorem adj_irr (n : Nat) (r : ByteArray) (a : Nat) : adj n r a a = false := by simp [adj]
theorem least_end {N X Y : Nat} {r : ByteArray} {m : Int} (hX : X < N) (hY : Y < N) (hne : X ≠ Y) (h : Least (D (adj N r) N X) (nearTo N r Y N) (nearTo N r Y N).length m) :
    (D (adj N r) N X Y = m + 1 ∧ 0 ≤ m) ∨ (D (adj N r) N X Y = -1 ∧ m = -1) := by
  have hlo := D_lo (nb := adj N r) hX hY
  have hz : D (adj N r) N X Y ≠ 0 := fun h => hne ((D_zero hX hY).1 h).symm
  have up : ∀ i, i < (nearTo N r Y N).length → 0 ≤ D (adj N r) N X ((nearTo N r Y N).getD i 0).toNat → 0 ≤ D (adj N r) N X Y ∧ D (adj N r) N X Y ≤ D (adj N r) N X ((nearTo N r Y N).getD i 0).toNat + 1 := by
    intro i hi h0
    obtain ⟨Z, hZ, hZN, ha⟩ := nearTo_get hi
    rw [hZ] at h0 ⊢
    have h1 : D (adj N r) N Z Y = 1 := (D_one (adj_irr N r) hZN hY).2 (by rw [adj_symm]; exact ha)
    have := D_tri (nb := adj N r) hX hZN hY h0 (by omega)
    simp only [Int.toNat_natCast] at this ⊢
    omega
  by_cases hd : D (adj N r) N X Y = -1
  · refine .inr ⟨hd, ?_⟩
    rcases h with ⟨h0, _⟩ | ⟨h0, ⟨i, hi, hf⟩, _⟩
    · exact h0
    · have := up i hi (by omega); omega
  · obtain ⟨k, hk⟩ : ∃ k : Nat, D (adj N r) N X Y = ((k + 1 : Nat) : Int) := ⟨(D (adj N r) N X Y - 1).toNat, by omega⟩
    obtain ⟨z, hz, hrk, ha⟩ := RK_of_D (nb := adj N r) hX (k + 1) Y hY hk
    have hle := D_le (nb := adj N r) hX hz hrk
    have hmem := nearTo_mem (n := N) (r := r) (v := Y) hz (by rw [adj_symm]; exact ha)
    obtain ⟨i, hi, hiz⟩ := List.getElem_of_mem hmem
    have hg : (nearTo N r Y N).getD i 0 = (z : Int) := by rw [List.getD_eq_getElem?_getD, List.getElem?_eq_getElem hi]; exact hiz
    rcases h with ⟨_, h1⟩ | ⟨h0, ⟨i', hi', hf⟩, h2⟩
    · have := h1 i hi
      rw [hg] at this
      simp only [Int.toNat_natCast] at this
      omega
    · have h3 := h2 i hi (by rw [hg]; exact hle.1)
      rw [hg] at h3
      simp only [Int.toNat_natCast] at h3
      have h4 := up i' hi' (by omega)
      refine .inl ⟨by omega, h0⟩
theorem cls_D {N X Y : Nat} {r : ByteArray} (hX : X < N) (hY : Y < N) : ((clsOf (conn N r) N).1.getD X 0 = (clsOf (conn N r) N).1.getD Y 0) ↔ 0 ≤ D (adj N r) N X Y := by
  rw [cls_iff (conn_eqv N r) N (Nat.le_refl _) X Y hX hY]
  simp [conn]
end Go.Proofs.YtpcnoiigbmiejaaGreatDoor.dist
