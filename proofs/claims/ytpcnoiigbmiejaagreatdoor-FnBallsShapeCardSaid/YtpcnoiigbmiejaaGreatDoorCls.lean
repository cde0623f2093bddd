/- Classes by a relation, numbered in order; no program in sight. -/
import Derived.WalkKit
namespace Go.Proofs.YtpcnoiigbmiejaaGreatDoor.cls
set_option linter.unusedVariables false
set_option linter.unusedSimpArgs false
/-- the first one of those before x that is in the relation -/
def firstBy (p : Nat → Nat → Bool) (x : Nat) : Nat → Option Nat
  | 0 => none
  | k + 1 => match firstBy p x k with
    | some y => some y
    | none => if p k x then some k else none
/-- the numbers of the first x, and the next free one -/
def clsOf (p : Nat → Nat → Bool) : Nat → List Int × Nat
  | 0 => ([], 0)
  | x + 1 => match firstBy p x x with
    | some y => ((clsOf p x).1 ++ [(clsOf p x).1.getD y 0], (clsOf p x).2)
    | none => ((clsOf p x).1 ++ [((clsOf p x).2 : Int)], (clsOf p x).2 + 1)

theorem firstBy_some {p : Nat → Nat → Bool} {x : Nat} : ∀ {k y : Nat}, firstBy p x k = some y → y < k ∧ p y x = true
  | 0, y, h => by cases h
  | k + 1, y, h => by
    unfold firstBy at h
    cases hk : firstBy p x k with
    | some z =>
      rw [hk] at h
      simp at h
      subst h
      have := firstBy_some hk
      exact ⟨by omega, this.2⟩
    | none =>
      rw [hk] at h
      simp only at h
      split at h
      · cases h; exact ⟨by omega, by assumption⟩
      · cases h
theorem firstBy_none {p : Nat → Nat → Bool} {x : Nat} : ∀ {k : Nat}, firstBy p x k = none → ∀ y, y < k → p y x = false
  | 0, _, y, hy => by omega
  | k + 1, h, y, hy => by
    unfold firstBy at h
    cases hk : firstBy p x k with
    | some z => rw [hk] at h; cases h
    | none =>
      rw [hk] at h
      simp only at h
      split at h
      · cases h
      · by_cases e : y = k
        · subst e; simpa using ‹¬ p y x = true›
        · exact firstBy_none hk y (by omega)
theorem firstBy_at {p : Nat → Nat → Bool} {x k : Nat} (h : ∀ y, y < k → p y x = false) : firstBy p x k = none := by
  cases hk : firstBy p x k with
  | none => rfl
  | some y =>
    have := firstBy_some hk
    rw [h y this.1] at this; cases this.2
theorem firstBy_hit {p : Nat → Nat → Bool} {x k : Nat} (h : ∀ y, y < k → p y x = false) (hk : p k x = true) : ∀ m, k < m → firstBy p x m = some k
  | 0, hm => by omega
  | m + 1, hm => by
    unfold firstBy
    by_cases e : k = m
    · subst e; rw [firstBy_at h]; simp [hk]
    · rw [firstBy_hit h hk m (by omega)]
theorem cls_len (p : Nat → Nat → Bool) : ∀ x, (clsOf p x).1.length = x ∧ (clsOf p x).2 ≤ x
  | 0 => ⟨rfl, Nat.le_refl _⟩
  | x + 1 => by
    have := cls_len p x
    unfold clsOf
    cases firstBy p x x <;> simp <;> omega
theorem cls_succ_some {p : Nat → Nat → Bool} {x y : Nat} (h : firstBy p x x = some y) : clsOf p (x + 1) = ((clsOf p x).1 ++ [(clsOf p x).1.getD y 0], (clsOf p x).2) := by
  rw [clsOf, h]
theorem cls_succ_none {p : Nat → Nat → Bool} {x : Nat} (h : firstBy p x x = none) : clsOf p (x + 1) = ((clsOf p x).1 ++ [((clsOf p x).2 : Int)], (clsOf p x).2 + 1) := by
  rw [clsOf, h]
theorem getD_app (l : List Int) (a : Int) (i : Nat) : (l ++ [a]).getD i 0 = if i < l.length then l.getD i 0 else if i = l.length then a else 0 := by
  simp only [List.getD_eq_getElem?_getD]
  split
  · rw [List.getElem?_append_left (by assumption)]
  · split
    · rename_i h; subst h; simp
    · rw [List.getElem?_eq_none (by simp; omega)]; rfl
theorem cls_bounds (p : Nat → Nat → Bool) : ∀ x i, i < x → 0 ≤ (clsOf p x).1.getD i 0 ∧ (clsOf p x).1.getD i 0 < (clsOf p x).2
  | 0, i, hi => by omega
  | x + 1, i, hi => by
    have hl := (cls_len p x).1
    have ih := cls_bounds p x
    cases h : firstBy p x x with
    | some y =>
      rw [cls_succ_some h]
      have hy := (firstBy_some h).1
      rw [getD_app]
      split
      · exact ih i (by omega)
      · rw [if_pos (by omega)]; exact ih y hy
    | none =>
      rw [cls_succ_none h, getD_app]
      split
      · have := ih i (by omega); simp only; omega
      · rw [if_pos (by omega)]; simp only; omega
/-- a relation as that of being connected, below n -/
structure Eqv (p : Nat → Nat → Bool) (n : Nat) : Prop where
  refl : ∀ x, x < n → p x x = true
  symm : ∀ x y, x < n → y < n → p x y = true → p y x = true
  trans : ∀ x y z, x < n → y < n → z < n → p x y = true → p y z = true → p x z = true
theorem cls_iff {p : Nat → Nat → Bool} {n : Nat} (hp : Eqv p n) : ∀ x, x ≤ n → ∀ i j, i < x → j < x → ((clsOf p x).1.getD i 0 = (clsOf p x).1.getD j 0 ↔ p i j = true)
  | 0, _, i, _, hi, _ => by omega
  | x + 1, hx, i, j, hi, hj => by
    have hl := (cls_len p x).1
    have ih := cls_iff hp x (by omega)
    have hb := cls_bounds p x
    have key : ∀ i, i < x → ((clsOf p x).1.getD i 0 = (clsOf p (x + 1)).1.getD x 0 ↔ p i x = true) := by
      intro i hi
      cases h : firstBy p x x with
      | some y =>
        obtain ⟨hy, hpy⟩ := firstBy_some h
        rw [cls_succ_some h, getD_app, if_neg (by omega), if_pos (by omega), ih i y hi hy]
        constructor
        · intro h1; exact hp.trans i y x (by omega) (by omega) (by omega) h1 hpy
        · intro h1; exact hp.trans i x y (by omega) (by omega) (by omega) h1 (hp.symm y x (by omega) (by omega) hpy)
      | none =>
        rw [cls_succ_none h, getD_app, if_neg (by omega), if_pos (by omega)]
        have h1 := firstBy_none h i hi
        have h2 := hb i hi
        constructor
        · intro e; omega
        · intro e; rw [h1] at e; cases e
    have old : ∀ i, i < x → (clsOf p (x + 1)).1.getD i 0 = (clsOf p x).1.getD i 0 := by
      intro i hi
      cases h : firstBy p x x with
      | some y => rw [cls_succ_some h, getD_app, if_pos (by omega)]
      | none => rw [cls_succ_none h, getD_app, if_pos (by omega)]
    by_cases ei : i = x
    · by_cases ej : j = x
      · subst ei ej; exact ⟨fun _ => hp.refl _ (by omega), fun _ => rfl⟩
      · subst ei
        rw [old j (by omega)]
        have := key j (by omega)
        constructor
        · intro e; exact hp.symm _ _ (by omega) (by omega) (this.1 e.symm)
        · intro e; exact (this.2 (hp.symm _ _ (by omega) (by omega) e)).symm
    · by_cases ej : j = x
      · subst ej; rw [old i (by omega)]; exact key i (by omega)
      · rw [old i (by omega), old j (by omega)]; exact ih i j (by omega) (by omega)
end Go.Proofs.YtpcnoiigbmiejaaGreatDoor.cls
