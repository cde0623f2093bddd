/- Games of two players in plain words: who wins, on sums and on products. No program in sight. -/
import Derived.Test.YtpcnoiigbmiejaaDoorLib
namespace Go.Proofs.YtpcnoiigbmiejaaDoor.game
set_option linter.unusedVariables false
set_option linter.unusedSimpArgs false

/-- a structure by its bits -/
structure Gr where
  n : Nat
  S : Nat → Bool
  R : Nat → Nat → Bool
/-- pairs of elements: which one lies under a pebble in either structure -/
abbrev Pos := List (Nat × Nat)
/-- the pairs are in the same way -/
def Gway (A B : Gr) (P : Pos) : Prop :=
  (∀ p, p ∈ P → p.1 < A.n ∧ p.2 < B.n ∧ A.S p.1 = B.S p.2) ∧ ∀ p q, p ∈ P → q ∈ P → (p.1 = q.1 ↔ p.2 = q.2) ∧ A.R p.1 q.1 = B.R p.2 q.2
/-- the second player wins so many rounds -/
def Win (A B : Gr) : Nat → Pos → Prop
  | 0, P => Gway A B P
  | r + 1, P => Gway A B P ∧ (∀ x, x < A.n → ∃ y, y < B.n ∧ Win A B r ((x, y) :: P)) ∧ ∀ y, y < B.n → ∃ x, x < A.n ∧ Win A B r ((x, y) :: P)
theorem Win.way {A B : Gr} {r : Nat} {P : Pos} (h : Win A B r P) : Gway A B P := by
  cases r with
  | zero => exact h
  | succ r => exact h.1
theorem Gway.sub {A B : Gr} {P Q : Pos} (h : Gway A B P) (hs : ∀ p, p ∈ Q → p ∈ P) : Gway A B Q :=
  ⟨fun p hp => h.1 p (hs p hp), fun p q hp hq => h.2 p q (hs p hp) (hs q hq)⟩
/-- only which pairs there are counts -/
theorem Win.sub {A B : Gr} : ∀ {r : Nat} {P Q : Pos}, Win A B r P → (∀ p, p ∈ Q → p ∈ P) → Win A B r Q
  | 0, _, _, h, hs => Gway.sub h hs
  | r + 1, P, Q, h, hs => by
    have hc : ∀ p (a : Nat × Nat), p ∈ a :: Q → p ∈ a :: P := fun p a hp => by
      rcases List.mem_cons.1 hp with e | hp
      · exact e ▸ List.mem_cons_self
      · exact List.mem_cons_of_mem _ (hs p hp)
    refine ⟨Gway.sub h.1 hs, fun x hx => ?_, fun y hy => ?_⟩
    · obtain ⟨y, hy, hw⟩ := h.2.1 x hx
      exact ⟨y, hy, hw.sub fun p hp => hc p _ hp⟩
    · obtain ⟨x, hx, hw⟩ := h.2.2 y hy
      exact ⟨x, hx, hw.sub fun p hp => hc p _ hp⟩
/-- fewer rounds -/
theorem Win.less {A B : Gr} : ∀ {r : Nat} {P : Pos}, Win A B (r + 1) P → Win A B r P
  | 0, _, h => h.1
  | r + 1, P, h => ⟨h.1, fun x hx => by obtain ⟨y, hy, hw⟩ := h.2.1 x hx; exact ⟨y, hy, hw.less⟩, fun y hy => by obtain ⟨x, hx, hw⟩ := h.2.2 y hy; exact ⟨x, hx, hw.less⟩⟩
/-- a structure and itself -/
theorem Win.refl (A : Gr) : ∀ (r : Nat) {P : Pos}, (∀ p, p ∈ P → p.1 < A.n ∧ p.1 = p.2) → Win A A r P
  | 0, P, h => by
    refine ⟨fun p hp => ?_, fun p q hp hq => ?_⟩
    · obtain ⟨h1, h2⟩ := h p hp
      rw [← h2]; exact ⟨h1, h1, rfl⟩
    · rw [← (h p hp).2, ← (h q hq).2]; exact ⟨Iff.rfl, rfl⟩
  | r + 1, P, h => by
    have hc : ∀ x, x < A.n → ∀ p, p ∈ (x, x) :: P → p.1 < A.n ∧ p.1 = p.2 := fun x hx p hp => by
      rcases List.mem_cons.1 hp with rfl | hp
      · exact ⟨hx, rfl⟩
      · exact h p hp
    exact ⟨(Win.refl A 0 h : Gway A A P), fun x hx => ⟨x, hx, Win.refl A r (hc x hx)⟩, fun x hx => ⟨x, hx, Win.refl A r (hc x hx)⟩⟩
/-- turned -/
def turn (P : Pos) : Pos := P.map fun p => (p.2, p.1)
theorem mem_turn {P : Pos} {p : Nat × Nat} : p ∈ turn P ↔ (p.2, p.1) ∈ P := by
  unfold turn
  rw [List.mem_map]
  constructor
  · rintro ⟨q, hq, rfl⟩; exact hq
  · intro h; exact ⟨_, h, rfl⟩
theorem Gway.turn {A B : Gr} {P : Pos} (h : Gway A B P) : Gway B A (turn P) := by
  refine ⟨fun p hp => ?_, fun p q hp hq => ?_⟩
  · obtain ⟨h1, h2, h3⟩ := h.1 _ (mem_turn.1 hp)
    exact ⟨h2, h1, h3.symm⟩
  · obtain ⟨h1, h2⟩ := h.2 _ _ (mem_turn.1 hp) (mem_turn.1 hq)
    exact ⟨h1.symm, h2.symm⟩
theorem Win.turn {A B : Gr} : ∀ {r : Nat} {P : Pos}, Win A B r P → Win B A r (turn P)
  | 0, _, h => Gway.turn h
  | r + 1, P, h => by
    refine ⟨Gway.turn h.1, fun y hy => ?_, fun x hx => ?_⟩
    · obtain ⟨x, hx, hw⟩ := h.2.2 y hy
      exact ⟨x, hx, hw.turn⟩
    · obtain ⟨y, hy, hw⟩ := h.2.1 x hx
      exact ⟨y, hy, hw.turn⟩

/-- each pair lies in one part -/
def Parts (A B : Gr) (P1 P2 P : Pos) : Prop := ∀ p, p ∈ P → p ∈ P1 ∨ ∃ q, q ∈ P2 ∧ p = (A.n + q.1, B.n + q.2)
theorem Parts.left {A B : Gr} {P1 P2 P : Pos} (h : Parts A B P1 P2 P) (a : Nat × Nat) : Parts A B (a :: P1) P2 (a :: P) := fun p hp => by
  rcases List.mem_cons.1 hp with rfl | hp
  · exact .inl List.mem_cons_self
  · exact (h p hp).imp (List.mem_cons_of_mem _) id
theorem Parts.right {A B : Gr} {P1 P2 P : Pos} (h : Parts A B P1 P2 P) (a : Nat × Nat) : Parts A B P1 (a :: P2) ((A.n + a.1, B.n + a.2) :: P) := fun p hp => by
  rcases List.mem_cons.1 hp with rfl | hp
  · exact .inr ⟨a, List.mem_cons_self, rfl⟩
  · refine (h p hp).imp id ?_
    rintro ⟨q, hq, e⟩
    exact ⟨q, List.mem_cons_of_mem _ hq, e⟩
/-- each pair is one of two pairs -/
def Both (C D : Gr) (P1 P2 P : Pos) : Prop := ∀ p, p ∈ P → ∃ a b, a ∈ P1 ∧ b ∈ P2 ∧ p = (a.1 * C.n + b.1, a.2 * D.n + b.2)
theorem Both.cons {C D : Gr} {P1 P2 P : Pos} (h : Both C D P1 P2 P) (a b : Nat × Nat) : Both C D (a :: P1) (b :: P2) ((a.1 * C.n + b.1, a.2 * D.n + b.2) :: P) := fun p hp => by
  rcases List.mem_cons.1 hp with rfl | hp
  · exact ⟨a, b, List.mem_cons_self, List.mem_cons_self, rfl⟩
  · obtain ⟨u, v, hu, hv, e⟩ := h p hp
    exact ⟨u, v, List.mem_cons_of_mem _ hu, List.mem_cons_of_mem _ hv, e⟩
end Go.Proofs.YtpcnoiigbmiejaaDoor.game
