/- Games hang on bits alone. No program in sight. -/
import Derived.Test.YtpcnoiigbmiejaaDoorGame
namespace Go.Proofs.YtpcnoiigbmiejaaDoor.game
set_option linter.unusedVariables false
set_option linter.unusedSimpArgs false
/-- the same elements, set and relation -/
def Alk (A B : Gr) : Prop := A.n = B.n ∧ (∀ x, x < A.n → A.S x = B.S x) ∧ ∀ x y, x < A.n → y < A.n → A.R x y = B.R x y
theorem Alk.refl (A : Gr) : Alk A A := ⟨rfl, fun _ _ => rfl, fun _ _ _ _ => rfl⟩
theorem Alk.way {A A' B B' : Gr} (ha : Alk A A') (hb : Alk B B') {P : Pos} (h : Gway A B P) : Gway A' B' P := by
  refine ⟨fun p hp => ?_, fun p q hp hq => ?_⟩
  · obtain ⟨h1, h2, h3⟩ := h.1 p hp
    exact ⟨by rw [← ha.1]; exact h1, by rw [← hb.1]; exact h2, by rw [← ha.2.1 _ h1, ← hb.2.1 _ h2]; exact h3⟩
  · obtain ⟨h1, h2, _⟩ := h.1 p hp
    obtain ⟨g1, g2, _⟩ := h.1 q hq
    obtain ⟨h3, h4⟩ := h.2 p q hp hq
    exact ⟨h3, by rw [← ha.2.2 _ _ h1 g1, ← hb.2.2 _ _ h2 g2]; exact h4⟩
theorem Alk.win {A A' B B' : Gr} (ha : Alk A A') (hb : Alk B B') : ∀ {r : Nat} {P : Pos}, Win A B r P → Win A' B' r P
  | 0, _, h => ha.way hb h
  | r + 1, P, h => ⟨ha.way hb h.1, fun x hx => by
    obtain ⟨y, hy, hw⟩ := h.2.1 x (by rw [ha.1]; exact hx)
    exact ⟨y, by rw [← hb.1]; exact hy, ha.win hb hw⟩, fun y hy => by
    obtain ⟨x, hx, hw⟩ := h.2.2 y (by rw [hb.1]; exact hy)
    exact ⟨x, by rw [← ha.1]; exact hx, ha.win hb hw⟩⟩
end Go.Proofs.YtpcnoiigbmiejaaDoor.game
