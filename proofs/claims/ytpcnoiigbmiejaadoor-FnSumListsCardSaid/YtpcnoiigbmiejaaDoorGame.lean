/- Games of two players in plain words: who wins, on sums and on products. No program in sight. -/
import Derived.Test.YtpcnoiigbmiejaaDoorLib
namespace Go.Proofs.YtpcnoiigbmiejaaDoor.game
set_option linter.unusedVariables false
set_option linter.unusedSimpArgs false

/-- a structure by its bits -/
structure Gr where
  n : Nat
  S : Nat → Bool
  R : Nat → Nat → Bool
/-- pairs of elements: which one lies under a pebble in either structure -/
abbrev Pos := List (Nat × Nat)
/-- the pairs are in the same way -/
def Gway (A B : Gr) (P : Pos) : Prop :=
  (∀ p, p ∈ P → p.1 < A.n ∧ p.2 < B.n ∧ A.S p.1 = B.S p.2) ∧ ∀ p q, p ∈ P → q ∈ P → (p.1 = q.1 ↔ p.2 = q.2) ∧ A.R p.1 q.1 = B.R p.2 q.2
/-- the second player wins so many rounds -/
def Win (A B : Gr) : Nat → Pos → Prop
  | 0, P => Gway A B P
  | r + 1, P => Gway A B P ∧ (∀ x, x < A.n → ∃ y, y < B.n ∧ Win A B r ((x, y) :: P)) ∧ ∀ y, y < B.n → ∃ x, x < A.n ∧ Win A B r ((x, y) :: P)
theorem Win.way {A B : Gr} {r : Nat} {P : Pos} (h : Win A B r P) : Gway A B P := by
  cases r with
  | zero => exact h
  | succ r => exact h.1
theorem Gway.sub {A B : Gr} {P Q : Pos} (h : Gway A B P) (hs : ∀ p, p ∈ Q → p ∈ P) : Gway A B Q :=
  ⟨fun p hp => h.1 p (hs p hp), fun p q hp hq => h.2 p q (hs p hp) (hs q hq)⟩
/-- only which pairs there are counts -/
theorem Win.sub {A B : Gr} : ∀ {r : Nat} {P Q : Pos}, Win A B r P → (∀ p, p ∈ Q → p ∈ P) → Win A B r Q
  | 0, _, _, h, hs => Gway.sub h hs
  | r + 1, P, Q, h, hs => by
    have hc : ∀ p (a : Nat × Nat), p ∈ a :: Q → p ∈ a :: P := fun p a hp => by
      rcases List.mem_cons.1 hp with e | hp
      · exact e ▸ List.mem_cons_self
      · exact List.mem_cons_of_mem _ (hs p hp)
    refine ⟨Gway.sub h.1 hs, fun x hx => ?_, fun y hy => ?_⟩
    · obtain ⟨y, hy, hw⟩ := h.2.1 x hx
      exact ⟨y, hy, hw.sub fun p hp => hc p _ hp⟩
    · obtain ⟨x, hx, hw⟩ := h.2.2 y hy
      exact ⟨x, hx, hw.sub fun p hp => hc p _ hp⟩
/-- fewer rounds -/
theorem Win.less {A B : Gr} : ∀ {r : Nat} {P : Pos}, Win A B (r + 1) P → Win A B r P
  | 0, _, h => h.1
  | r + 1, P, h => ⟨h.1, fun x hx => by obtain ⟨y, hy, hw⟩ := h.2.1 x hx; exact ⟨y, hy, hw.less⟩, fun y hy => by obtain ⟨x, hx, hw⟩ := h.2.2 y hy; exact ⟨x, hx, hw.less⟩⟩
/-- a structure and itself -/
theorem Win.refl (A : Gr) : ∀ (r : Nat) {P : Pos}, (∀ p, p ∈ P → p.1 < A.n ∧ p.1 = p.2) → Win A A r P
  | 0, P, h => by
    refine ⟨fun p hp => ?_, fun p q hp hq => ?_⟩
    · obtain ⟨h1, h2⟩ := h p hp
      rw [← h2]; exact ⟨h1, h1, rfl⟩
    · rw [← (h p hp).2, ← (h q hq).2]; exact ⟨Iff.rfl, rfl⟩
  | r + 1, P, h => by
    have hc : ∀ x, x < A.n → ∀ p, p ∈ (x, x) :: P → p.1 < A.n ∧ p.1 = p.2 := fun x hx p hp => by
      rcases List.mem_cons.1 hp with rfl | hp
      · exact ⟨hx, rfl⟩
      · exact h p hp
    exact ⟨(Win.refl A 0 h : Gway A A P), fun x hx => ⟨x, hx, Win.refl A r (hc x hx)⟩, fun x hx => ⟨x, hx, Win.refl A r (hc x hx)⟩⟩
/-- turned -/
def turn (P : Pos) : Pos := P.map fun p => (p.2, p.1)
theorem mem_turn {P : Pos} {p : Nat × Nat} : p ∈ turn P ↔ (p.2, p.1) ∈ P := by
  unfold turn
  rw [List.mem_map]
  constructor
  · rintro ⟨q, hq, rfl⟩; exact hq
  · intro h; exact ⟨_, h, rfl⟩
theorem Gway.turn {A B : Gr} {P : Pos} (h : Gway A B P) : Gway B A (turn P) := by
  refine ⟨fun p hp => ?_, fun p q hp hq => ?_⟩
  · obtain ⟨h1, h2, h3⟩ := h.1 _ (mem_turn.1 hp)
    exact ⟨h2, h1, h3.symm⟩
  · obtain ⟨h1, h2⟩ := h.2 _ _ (mem_turn.1 hp) (mem_turn.1 hq)
    exact ⟨h1.symm, h2.symm⟩
theorem Win.turn {A B : Gr} : ∀ {r : Nat} {P : Pos}, Win A B r P → Win B A r (turn P)
  | 0, _, h => Gway.turn h
  | r + 1, P, h => by
    refine ⟨Gway.turn h.1, fun y hy => ?_, fun x hx => ?_⟩
    · obtain ⟨x, hx, hw⟩ := h.2.2 y hy
      exact ⟨x, hx, hw.turn⟩
    · obtain ⟨y, hy, hw⟩ := h.2.1 x hx
      exact ⟨y, hy, hw.turn⟩

/-- side by side or one behind the other -/
def sumG (o : Bool) (A C : Gr) : Gr where
  n := A.n + C.n
  S x := if x < A.n then A.S x else C.S (x - A.n)
  R x y := if x < A.n then (if y < A.n then A.R x y else o) else (if y < A.n then false else C.R (x - A.n) (y - A.n))
theorem sumG_l {o : Bool} {A C : Gr} {x y : Nat} (hx : x < A.n) (hy : y < A.n) : (sumG o A C).R x y = A.R x y := by simp [sumG, hx, hy]
theorem sumG_r {o : Bool} {A C : Gr} {x y : Nat} : (sumG o A C).R (A.n + x) (A.n + y) = C.R x y := by
  unfold sumG
  simp only
  rw [if_neg (by omega), if_neg (by omega), Nat.add_sub_cancel_left, Nat.add_sub_cancel_left]
theorem sumG_lr {o : Bool} {A C : Gr} {x y : Nat} (hx : x < A.n) : (sumG o A C).R x (A.n + y) = o := by
  unfold sumG
  simp only
  rw [if_pos hx, if_neg (by omega)]
theorem sumG_rl {o : Bool} {A C : Gr} {x y : Nat} (hy : y < A.n) : (sumG o A C).R (A.n + x) y = false := by
  unfold sumG
  simp only
  rw [if_neg (by omega), if_pos hy]
/-- each pair lies in one part -/
def Parts (A B : Gr) (P1 P2 P : Pos) : Prop := ∀ p, p ∈ P → p ∈ P1 ∨ ∃ q, q ∈ P2 ∧ p = (A.n + q.1, B.n + q.2)
theorem Parts.left {A B : Gr} {P1 P2 P : Pos} (h : Parts A B P1 P2 P) (a : Nat × Nat) : Parts A B (a :: P1) P2 (a :: P) := fun p hp => by
  rcases List.mem_cons.1 hp with rfl | hp
  · exact .inl List.mem_cons_self
  · exact (h p hp).imp (List.mem_cons_of_mem _) id
theorem Parts.right {A B : Gr} {P1 P2 P : Pos} (h : Parts A B P1 P2 P) (a : Nat × Nat) : Parts A B P1 (a :: P2) ((A.n + a.1, B.n + a.2) :: P) := fun p hp => by
  rcases List.mem_cons.1 hp with rfl | hp
  · exact .inr ⟨a, List.mem_cons_self, rfl⟩
  · refine (h p hp).imp id ?_
    rintro ⟨q, hq, e⟩
    exact ⟨q, List.mem_cons_of_mem _ hq, e⟩
theorem way_sum {o : Bool} {A B C D : Gr} {P1 P2 P : Pos} (hp : Parts A B P1 P2 P) (h1 : Gway A B P1) (h2 : Gway C D P2) : Gway (sumG o A C) (sumG o B D) P := by
  refine ⟨fun p hpP => ?_, fun p q hpP hqP => ?_⟩
  · rcases hp p hpP with hm | ⟨u, hu, rfl⟩
    · obtain ⟨a, b, c⟩ := h1.1 p hm
      refine ⟨?_, ?_, ?_⟩
      · show p.1 < A.n + C.n; omega
      · show p.2 < B.n + D.n; omega
      · simp [sumG, a, b, c]
    · obtain ⟨a, b, c⟩ := h2.1 u hu
      refine ⟨?_, ?_, ?_⟩
      · show A.n + u.1 < A.n + C.n; omega
      · show B.n + u.2 < B.n + D.n; omega
      · unfold sumG
        simp only
        rw [if_neg (by omega), if_neg (by omega), Nat.add_sub_cancel_left, Nat.add_sub_cancel_left, c]
  · rcases hp p hpP with hm | ⟨u, hu, rfl⟩
    · obtain ⟨a, b, _⟩ := h1.1 p hm
      rcases hp q hqP with hn | ⟨v, hv, rfl⟩
      · obtain ⟨a2, b2, _⟩ := h1.1 q hn
        rw [sumG_l a a2, sumG_l b b2]; exact h1.2 p q hm hn
      · rw [sumG_lr a, sumG_lr b]; exact ⟨⟨fun e => by have e : p.1 = A.n + v.1 := e; omega, fun e => by have e : p.2 = B.n + v.2 := e; omega⟩, rfl⟩
    · rcases hp q hqP with hn | ⟨v, hv, rfl⟩
      · obtain ⟨a2, b2, _⟩ := h1.1 q hn
        rw [sumG_rl a2, sumG_rl b2]; exact ⟨⟨fun e => by have e : A.n + u.1 = q.1 := e; omega, fun e => by have e : B.n + u.2 = q.2 := e; omega⟩, rfl⟩
      · rw [sumG_r, sumG_r]
        obtain ⟨c, d⟩ := h2.2 u v hu hv
        exact ⟨⟨fun e => by have e : A.n + u.1 = A.n + v.1 := e; have := c.1 (by omega); show B.n + u.2 = B.n + v.2; omega, fun e => by have e : B.n + u.2 = B.n + v.2 := e; have := c.2 (by omega); show A.n + u.1 = A.n + v.1; omega⟩, d⟩
/-- who wins on the parts wins on the sums -/
theorem win_sum {o : Bool} {A B C D : Gr} : ∀ {r : Nat} {P1 P2 P : Pos}, Parts A B P1 P2 P → Win A B r P1 → Win C D r P2 → Win (sumG o A C) (sumG o B D) r P
  | 0, _, _, _, hp, h1, h2 => way_sum hp h1 h2
  | r + 1, P1, P2, P, hp, h1, h2 => by
    refine ⟨way_sum hp h1.1 h2.1, fun x hx => ?_, fun y hy => ?_⟩
    · have hx : x < A.n + C.n := hx
      by_cases hxa : x < A.n
      · obtain ⟨y, hy, hw⟩ := h1.2.1 x hxa
        exact ⟨y, by show y < B.n + D.n; omega, win_sum (hp.left (x, y)) hw h2.less⟩
      · obtain ⟨y, hy, hw⟩ := h2.2.1 (x - A.n) (by omega)
        refine ⟨B.n + y, by show B.n + y < B.n + D.n; omega, ?_⟩
        have := hp.right (x - A.n, y)
        rw [show A.n + (x - A.n, y).1 = x by show A.n + (x - A.n) = x; omega] at this
        exact win_sum this h1.less hw
    · have hy : y < B.n + D.n := hy
      by_cases hyb : y < B.n
      · obtain ⟨x, hx, hw⟩ := h1.2.2 y hyb
        exact ⟨x, by show x < A.n + C.n; omega, win_sum (hp.left (x, y)) hw h2.less⟩
      · obtain ⟨x, hx, hw⟩ := h2.2.2 (y - B.n) (by omega)
        refine ⟨A.n + x, by show A.n + x < A.n + C.n; omega, ?_⟩
        have := hp.right (x, y - B.n)
        rw [show B.n + (x, y - B.n).2 = y by show B.n + (y - B.n) = y; omega] at this
        exact win_sum this h1.less hw

/-- all pairs of elements -/
def prodG (A C : Gr) : Gr where
  n := A.n * C.n
  S x := A.S (x / C.n) && C.S (x % C.n)
  R x y := A.R (x / C.n) (y / C.n) && C.R (x % C.n) (y % C.n)
theorem pair_div {M x y : Nat} (hy : y < M) : (x * M + y) / M = x ∧ (x * M + y) % M = y := by
  constructor
  · rw [Nat.mul_comm, Nat.mul_add_div (by omega), Nat.div_eq_of_lt hy, Nat.add_zero]
  · rw [Nat.mul_comm, Nat.mul_add_mod, Nat.mod_eq_of_lt hy]
theorem pair_lt {N M x y : Nat} (hx : x < N) (hy : y < M) : x * M + y < N * M := by
  have : (x + 1) * M ≤ N * M := Nat.mul_le_mul_right M hx
  rw [Nat.succ_mul] at this; omega
/-- each pair is one of two pairs -/
def Both (C D : Gr) (P1 P2 P : Pos) : Prop := ∀ p, p ∈ P → ∃ a b, a ∈ P1 ∧ b ∈ P2 ∧ p = (a.1 * C.n + b.1, a.2 * D.n + b.2)
theorem Both.cons {C D : Gr} {P1 P2 P : Pos} (h : Both C D P1 P2 P) (a b : Nat × Nat) : Both C D (a :: P1) (b :: P2) ((a.1 * C.n + b.1, a.2 * D.n + b.2) :: P) := fun p hp => by
  rcases List.mem_cons.1 hp with rfl | hp
  · exact ⟨a, b, List.mem_cons_self, List.mem_cons_self, rfl⟩
  · obtain ⟨u, v, hu, hv, e⟩ := h p hp
    exact ⟨u, v, List.mem_cons_of_mem _ hu, List.mem_cons_of_mem _ hv, e⟩
theorem way_prod {A B C D : Gr} {P1 P2 P : Pos} (hp : Both C D P1 P2 P) (h1 : Gway A B P1) (h2 : Gway C D P2) : Gway (prodG A C) (prodG B D) P := by
  refine ⟨fun p hpP => ?_, fun p q hpP hqP => ?_⟩
  · obtain ⟨u, v, hu, hv, rfl⟩ := hp p hpP
    obtain ⟨a, b, c⟩ := h1.1 u hu
    obtain ⟨a2, b2, c2⟩ := h2.1 v hv
    refine ⟨pair_lt a a2, pair_lt b b2, ?_⟩
    show (A.S ((u.1 * C.n + v.1) / C.n) && C.S ((u.1 * C.n + v.1) % C.n)) = (B.S ((u.2 * D.n + v.2) / D.n) && D.S ((u.2 * D.n + v.2) % D.n))
    rw [(pair_div a2).1, (pair_div a2).2, (pair_div b2).1, (pair_div b2).2, c, c2]
  · obtain ⟨u, v, hu, hv, rfl⟩ := hp p hpP
    obtain ⟨s, t, hs, ht, rfl⟩ := hp q hqP
    obtain ⟨a, b, _⟩ := h1.1 u hu
    obtain ⟨a2, b2, _⟩ := h2.1 v hv
    obtain ⟨a3, b3, _⟩ := h1.1 s hs
    obtain ⟨a4, b4, _⟩ := h2.1 t ht
    obtain ⟨e1, e2⟩ := h1.2 u s hu hs
    obtain ⟨e3, e4⟩ := h2.2 v t hv ht
    refine ⟨⟨fun e => ?_, fun e => ?_⟩, ?_⟩
    · have e : u.1 * C.n + v.1 = s.1 * C.n + t.1 := e
      have f1 : u.1 = s.1 := by rw [← (pair_div (x := u.1) a2).1, e, (pair_div a4).1]
      have f2 : v.1 = t.1 := by rw [← (pair_div (x := u.1) a2).2, e, (pair_div a4).2]
      show u.2 * D.n + v.2 = s.2 * D.n + t.2
      rw [e1.1 f1, e3.1 f2]
    · have e : u.2 * D.n + v.2 = s.2 * D.n + t.2 := e
      have f1 : u.2 = s.2 := by rw [← (pair_div (x := u.2) b2).1, e, (pair_div b4).1]
      have f2 : v.2 = t.2 := by rw [← (pair_div (x := u.2) b2).2, e, (pair_div b4).2]
      show u.1 * C.n + v.1 = s.1 * C.n + t.1
      rw [e1.2 f1, e3.2 f2]
    · show (A.R ((u.1 * C.n + v.1) / C.n) ((s.1 * C.n + t.1) / C.n) && C.R ((u.1 * C.n + v.1) % C.n) ((s.1 * C.n + t.1) % C.n)) = (B.R ((u.2 * D.n + v.2) / D.n) ((s.2 * D.n + t.2) / D.n) && D.R ((u.2 * D.n + v.2) % D.n) ((s.2 * D.n + t.2) % D.n))
      rw [(pair_div a2).1, (pair_div a2).2, (pair_div b2).1, (pair_div b2).2, (pair_div a4).1, (pair_div a4).2, (pair_div b4).1, (pair_div b4).2, e2, e4]
theorem split_lt {N M p : Nat} (h : p < N * M) : p / M < N ∧ p % M < M ∧ p / M * M + p % M = p := by
  have hM : 0 < M := by
    rcases Nat.eq_zero_or_pos M with rfl | h'
    · simp at h
    · exact h'
  refine ⟨?_, Nat.mod_lt _ hM, ?_⟩
  · rw [Nat.div_lt_iff_lt_mul hM]; exact h
  · rw [Nat.mul_comm]; exact Nat.div_add_mod p M
/-- who wins on the factors wins on the products -/
theorem win_prod {A B C D : Gr} : ∀ {r : Nat} {P1 P2 P : Pos}, Both C D P1 P2 P → Win A B r P1 → Win C D r P2 → Win (prodG A C) (prodG B D) r P
  | 0, _, _, _, hp, h1, h2 => way_prod hp h1 h2
  | r + 1, P1, P2, P, hp, h1, h2 => by
    refine ⟨way_prod hp h1.1 h2.1, fun x hx => ?_, fun y hy => ?_⟩
    · obtain ⟨d1, d2, d3⟩ := split_lt (show x < A.n * C.n from hx)
      obtain ⟨y1, hy1, hw1⟩ := h1.2.1 _ d1
      obtain ⟨y2, hy2, hw2⟩ := h2.2.1 _ d2
      refine ⟨y1 * D.n + y2, pair_lt hy1 hy2, ?_⟩
      have := win_prod (hp.cons (x / C.n, y1) (x % C.n, y2)) hw1 hw2
      rw [show (x / C.n, y1).1 * C.n + (x % C.n, y2).1 = x from d3] at this
      exact this
    · obtain ⟨d1, d2, d3⟩ := split_lt (show y < B.n * D.n from hy)
      obtain ⟨x1, hx1, hw1⟩ := h1.2.2 _ d1
      obtain ⟨x2, hx2, hw2⟩ := h2.2.2 _ d2
      refine ⟨x1 * C.n + x2, pair_lt hx1 hx2, ?_⟩
      have := win_prod (hp.cons (x1, y / D.n) (x2, y % D.n)) hw1 hw2
      rw [show (x1, y / D.n).2 * D.n + (x2, y % D.n).2 = y from d3] at this
      exact this
end Go.Proofs.YtpcnoiigbmiejaaDoor.game
