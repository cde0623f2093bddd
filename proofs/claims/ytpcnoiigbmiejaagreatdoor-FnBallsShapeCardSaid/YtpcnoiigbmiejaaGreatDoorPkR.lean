/- Several texts in one: Game, Hanf. -/
import Derived.Test.YtpcnoiigbmiejaaGreatDoorLib
import Derived.Test.YtpcnoiigbmiejaaGreatDoorPkF
/- Games of two players in plain words: who wins, on sums and on products. No program in sight. -/
namespace Go.Proofs.YtpcnoiigbmiejaaGreatDoor.game
set_option linter.unusedVariables false
set_option linter.unusedSimpArgs false

/-- a structure by its bits -/
structure Gr where
  n : Nat
  S : Nat → Bool
  R : Nat → Nat → Bool
/-- pairs of elements: which one lies under a pebble in either structure -/
abbrev Pos := List (Nat × Nat)
/-- the pairs are in the same way -/
def Gway (A B : Gr) (P : Pos) : Prop :=
  (∀ p, p ∈ P → p.1 < A.n ∧ p.2 < B.n ∧ A.S p.1 = B.S p.2) ∧ ∀ p q, p ∈ P → q ∈ P → (p.1 = q.1 ↔ p.2 = q.2) ∧ A.R p.1 q.1 = B.R p.2 q.2
/-- the second player wins so many rounds -/
def Win (A B : Gr) : Nat → Pos → Prop
  | 0, P => Gway A B P
  | r + 1, P => Gway A B P ∧ (∀ x, x < A.n → ∃ y, y < B.n ∧ Win A B r ((x, y) :: P)) ∧ ∀ y, y < B.n → ∃ x, x < A.n ∧ Win A B r ((x, y) :: P)
theorem Win.way {A B : Gr} {r : Nat} {P : Pos} (h : Win A B r P) : Gway A B P := by
  cases r with
  | zero => exact h
  | succ r => exact h.1
theorem Gway.sub {A B : Gr} {P Q : Pos} (h : Gway A B P) (hs : ∀ p, p ∈ Q → p ∈ P) : Gway A B Q :=
  ⟨fun p hp => h.1 p (hs p hp), fun p q hp hq => h.2 p q (hs p hp) (hs q hq)⟩
/-- only which pairs there are counts -/
theorem Win.sub {A B : Gr} : ∀ {r : Nat} {P Q : Pos}, Win A B r P → (∀ p, p ∈ Q → p ∈ P) → Win A B r Q
  | 0, _, _, h, hs => Gway.sub h hs
  | r + 1, P, Q, h, hs => by
    have hc : ∀ p (a : Nat × Nat), p ∈ a :: Q → p ∈ a :: P := fun p a hp => by
      rcases List.mem_cons.1 hp with e | hp
      · exact e ▸ List.mem_cons_self
      · exact List.mem_cons_of_mem _ (hs p hp)
    refine ⟨Gway.sub h.1 hs, fun x hx => ?_, fun y hy => ?_⟩
    · obtain ⟨y, hy, hw⟩ := h.2.1 x hx
      exact ⟨y, hy, hw.sub fun p hp => hc p _ hp⟩
    · obtain ⟨x, hx, hw⟩ := h.2.2 y hy
      exact ⟨x, hx, hw.sub fun p hp => hc p _ hp⟩
/-- fewer rounds -/
theorem Win.less {A B : Gr} : ∀ {r : Nat} {P : Pos}, Win A B (r + 1) P → Win A B r P
  | 0, _, h => h.1
  | r + 1, P, h => ⟨h.1, fun x hx => by obtain ⟨y, hy, hw⟩ := h.2.1 x hx; exact ⟨y, hy, hw.less⟩, fun y hy => by obtain ⟨x, hx, hw⟩ := h.2.2 y hy; exact ⟨x, hx, hw.less⟩⟩
/-- a structure and itself -/
theorem Win.refl (A : Gr) : ∀ (r : Nat) {P : Pos}, (∀ p, p ∈ P → p.1 < A.n ∧ p.1 = p.2) → Win A A r P
  | 0, P, h => by
    refine ⟨fun p hp => ?_, fun p q hp hq => ?_⟩
    · obtain ⟨h1, h2⟩ := h p hp
      rw [← h2]; exact ⟨h1, h1, rfl⟩
    · rw [← (h p hp).2, ← (h q hq).2]; exact ⟨Iff.rfl, rfl⟩
  | r + 1, P, h => by
    have hc : ∀ x, x < A.n → ∀ p, p ∈ (x, x) :: P → p.1 < A.n ∧ p.1 = p.2 := fun x hx p hp => by
      rcases List.mem_cons.1 hp with rfl | hp
      · exact ⟨hx, rfl⟩
      · exact h p hp
    exact ⟨(Win.refl A 0 h : Gway A A P), fun x hx => ⟨x, hx, Win.refl A r (hc x hx)⟩, fun x hx => ⟨x, hx, Win.refl A r (hc x hx)⟩⟩
/-- turned -/
def turn (P : Pos) : Pos := P.map fun p => (p.2, p.1)
theorem mem_turn {P : Pos} {p : Nat × Nat} : p ∈ turn P ↔ (p.2, p.1) ∈ P := by
  unfold turn
  rw [List.mem_map]
  constructor
  · rintro ⟨q, hq, rfl⟩; exact hq
  · intro h; exact ⟨_, h, rfl⟩
theorem Gway.turn {A B : Gr} {P : Pos} (h : Gway A B P) : Gway B A (turn P) := by
  refine ⟨fun p hp => ?_, fun p q hp hq => ?_⟩
  · obtain ⟨h1, h2, h3⟩ := h.1 _ (mem_turn.1 hp)
    exact ⟨h2, h1, h3.symm⟩
  · obtain ⟨h1, h2⟩ := h.2 _ _ (mem_turn.1 hp) (mem_turn.1 hq)
    exact ⟨h1.symm, h2.symm⟩
theorem Win.turn {A B : Gr} : ∀ {r : Nat} {P : Pos}, Win A B r P → Win B A r (turn P)
  | 0, _, h => Gway.turn h
  | r + 1, P, h => by
    refine ⟨Gway.turn h.1, fun y hy => ?_, fun x hx => ?_⟩
    · obtain ⟨x, hx, hw⟩ := h.2.2 y hy
      exact ⟨x, hx, hw.turn⟩
    · obtain ⟨y, hy, hw⟩ := h.2.1 x hx
      exact ⟨y, hy, hw.turn⟩

/-- side by side or one behind the other -/
def sumG (o : Bool) (A C : Gr) : Gr where
  n := A.n + C.n
  S x := if x < A.n then A.S x else C.S (x - A.n)
  R x y := if x < A.n then (if y < A.n then A.R x y else o) else (if y < A.n then false else C.R (x - A.n) (y - A.n))
theorem sumG_l {o : Bool} {A C : Gr} {x y : Nat} (hx : x < A.n) (hy : y < A.n) : (sumG o A C).R x y = A.R x y := by simp [sumG, hx, hy]
theorem sumG_r {o : Bool} {A C : Gr} {x y : Nat} : (sumG o A C).R (A.n + x) (A.n + y) = C.R x y := by
  unfold sumG
  simp only
  rw [if_neg (by omega), if_neg (by omega), Nat.add_sub_cancel_left, Nat.add_sub_cancel_left]
theorem sumG_lr {o : Bool} {A C : Gr} {x y : Nat} (hx : x < A.n) : (sumG o A C).R x (A.n + y) = o := by
  unfold sumG
  simp only
  rw [if_pos hx, if_neg (by omega)]
theorem sumG_rl {o : Bool} {A C : Gr} {x y : Nat} (hy : y < A.n) : (sumG o A C).R (A.n + x) y = false := by
  unfold sumG
  simp only
  rw [if_neg (by omega), if_pos hy]
/-- each pair lies in one part -/
def Parts (A B : Gr) (P1 P2 P : Pos) : Prop := ∀ p, p ∈ P → p ∈ P1 ∨ ∃ q, q ∈ P2 ∧ p = (A.n + q.1, B.n + q.2)
theorem Parts.left {A B : Gr} {P1 P2 P : Pos} (h : Parts A B P1 P2 P) (a : Nat × Nat) : Parts A B (a :: P1) P2 (a :: P) := fun p hp => by
  rcases List.mem_cons.1 hp with rfl | hp
  · exact .inl List.mem_cons_self
  · exact (h p hp).imp (List.mem_cons_of_mem _) id
theorem Parts.right {A B : Gr} {P1 P2 P : Pos} (h : Parts A B P1 P2 P) (a : Nat × Nat) : Parts A B P1 (a :: P2) ((A.n + a.1, B.n + a.2) :: P) := fun p hp => by
  rcases List.mem_cons.1 hp with rfl | hp
  · exact .inr ⟨a, List.mem_cons_self, rfl⟩
  · refine (h p hp).imp id ?_
    rintro ⟨q, hq, e⟩
    exact ⟨q, List.mem_cons_of_mem _ hq, e⟩
theorem way_sum {o : Bool} {A B C D : Gr} {P1 P2 P : Pos} (hp : Parts A B P1 P2 P) (h1 : Gway A B P1) (h2 : Gway C D P2) : Gway (sumG o A C) (sumG o B D) P := by
  refine ⟨fun p hpP => ?_, fun p q hpP hqP => ?_⟩
  · rcases hp p hpP with hm | ⟨u, hu, rfl⟩
    · obtain ⟨a, b, c⟩ := h1.1 p hm
      refine ⟨?_, ?_, ?_⟩
      · show p.1 < A.n + C.n; omega
      · show p.2 < B.n + D.n; omega
      · simp [sumG, a, b, c]
    · obtain ⟨a, b, c⟩ := h2.1 u hu
      refine ⟨?_, ?_, ?_⟩
      · show A.n + u.1 < A.n + C.n; omega
      · show B.n + u.2 < B.n + D.n; omega
      · unfold sumG
        simp only
        rw [if_neg (by omega), if_neg (by omega), Nat.add_sub_cancel_left, Nat.add_sub_cancel_left, c]
  · rcases hp p hpP with hm | ⟨u, hu, rfl⟩
    · obtain ⟨a, b, _⟩ := h1.1 p hm
      rcases hp q hqP with hn | ⟨v, hv, rfl⟩
      · obtain ⟨a2, b2, _⟩ := h1.1 q hn
        rw [sumG_l a a2, sumG_l b b2]; exact h1.2 p q hm hn
      · rw [sumG_lr a, sumG_lr b]; exact ⟨⟨fun e => by have e : p.1 = A.n + v.1 := e; omega, fun e => by have e : p.2 = B.n + v.2 := e; omega⟩, rfl⟩
    · rcases hp q hqP with hn | ⟨v, hv, rfl⟩
      · obtain ⟨a2, b2, _⟩ := h1.1 q hn
        rw [sumG_rl a2, sumG_rl b2]; exact ⟨⟨fun e => by have e : A.n + u.1 = q.1 := e; omega, fun e => by have e : B.n + u.2 = q.2 := e; omega⟩, rfl⟩
      · rw [sumG_r, sumG_r]
        obtain ⟨c, d⟩ := h2.2 u v hu hv
        exact ⟨⟨fun e => by have e : A.n + u.1 = A.n + v.1 := e; have := c.1 (by omega); show B.n + u.2 = B.n + v.2; omega, fun e => by have e : B.n + u.2 = B.n + v.2 := e; have := c.2 (by omega); show A.n + u.1 = A.n + v.1; omega⟩, d⟩
/-- who wins on the parts wins on the sums -/
theorem win_sum {o : Bool} {A B C D : Gr} : ∀ {r : Nat} {P1 P2 P : Pos}, Parts A B P1 P2 P → Win A B r P1 → Win C D r P2 → Win (sumG o A C) (sumG o B D) r P
  | 0, _, _, _, hp, h1, h2 => way_sum hp h1 h2
  | r + 1, P1, P2, P, hp, h1, h2 => by
    refine ⟨way_sum hp h1.1 h2.1, fun x hx => ?_, fun y hy => ?_⟩
    · have hx : x < A.n + C.n := hx
      by_cases hxa : x < A.n
      · obtain ⟨y, hy, hw⟩ := h1.2.1 x hxa
        exact ⟨y, by show y < B.n + D.n; omega, win_sum (hp.left (x, y)) hw h2.less⟩
      · obtain ⟨y, hy, hw⟩ := h2.2.1 (x - A.n) (by omega)
        refine ⟨B.n + y, by show B.n + y < B.n + D.n; omega, ?_⟩
        have := hp.right (x - A.n, y)
        rw [show A.n + (x - A.n, y).1 = x by show A.n + (x - A.n) = x; omega] at this
        exact win_sum this h1.less hw
    · have hy : y < B.n + D.n := hy
      by_cases hyb : y < B.n
      · obtain ⟨x, hx, hw⟩ := h1.2.2 y hyb
        exact ⟨x, by show x < A.n + C.n; omega, win_sum (hp.left (x, y)) hw h2.less⟩
      · obtain ⟨x, hx, hw⟩ := h2.2.2 (y - B.n) (by omega)
        refine ⟨A.n + x, by show A.n + x < A.n + C.n; omega, ?_⟩
        have := hp.right (x, y - B.n)
        rw [show B.n + (x, y - B.n).2 = y by show B.n + (y - B.n) = y; omega] at this
        exact win_sum this h1.less hw

/-- all pairs of elements -/
def prodG (A C : Gr) : Gr where
  n := A.n * C.n
  S x := A.S (x / C.n) && C.S (x % C.n)
  R x y := A.R (x / C.n) (y / C.n) && C.R (x % C.n) (y % C.n)
theorem pair_div {M x y : Nat} (hy : y < M) : (x * M + y) / M = x ∧ (x * M + y) % M = y := by
  constructor
  · rw [Nat.mul_comm, Nat.mul_add_div (by omega), Nat.div_eq_of_lt hy, Nat.add_zero]
  · rw [Nat.mul_comm, Nat.mul_add_mod, Nat.mod_eq_of_lt hy]
theorem pair_lt {N M x y : Nat} (hx : x < N) (hy : y < M) : x * M + y < N * M := by
  have : (x + 1) * M ≤ N * M := Nat.mul_le_mul_right M hx
  rw [Nat.succ_mul] at this; omega
/-- each pair is one of two pairs -/
def Both (C D : Gr) (P1 P2 P : Pos) : Prop := ∀ p, p ∈ P → ∃ a b, a ∈ P1 ∧ b ∈ P2 ∧ p = (a.1 * C.n + b.1, a.2 * D.n + b.2)
theorem Both.cons {C D : Gr} {P1 P2 P : Pos} (h : Both C D P1 P2 P) (a b : Nat × Nat) : Both C D (a :: P1) (b :: P2) ((a.1 * C.n + b.1, a.2 * D.n + b.2) :: P) := fun p hp => by
  rcases List.mem_cons.1 hp with rfl | hp
  · exact ⟨a, b, List.mem_cons_self, List.mem_cons_self, rfl⟩
  · obtain ⟨u, v, hu, hv, e⟩ := h p hp
    exact ⟨u, v, List.mem_cons_of_mem _ hu, List.mem_cons_of_mem _ hv, e⟩
theorem way_prod {A B C D : Gr} {P1 P2 P : Pos} (hp : Both C D P1 P2 P) (h1 : Gway A B P1) (h2 : Gway C D P2) : Gway (prodG A C) (prodG B D) P := by
  refine ⟨fun p hpP => ?_, fun p q hpP hqP => ?_⟩
  · obtain ⟨u, v, hu, hv, rfl⟩ := hp p hpP
    obtain ⟨a, b, c⟩ := h1.1 u hu
    obtain ⟨a2, b2, c2⟩ := h2.1 v hv
    refine ⟨pair_lt a a2, pair_lt b b2, ?_⟩
    show (A.S ((u.1 * C.n + v.1) / C.n) && C.S ((u.1 * C.n + v.1) % C.n)) = (B.S ((u.2 * D.n + v.2) / D.n) && D.S ((u.2 * D.n + v.2) % D.n))
    rw [(pair_div a2).1, (pair_div a2).2, (pair_div b2).1, (pair_div b2).2, c, c2]
  · obtain ⟨u, v, hu, hv, rfl⟩ := hp p hpP
    obtain ⟨s, t, hs, ht, rfl⟩ := hp q hqP
    obtain ⟨a, b, _⟩ := h1.1 u hu
    obtain ⟨a2, b2, _⟩ := h2.1 v hv
    obtain ⟨a3, b3, _⟩ := h1.1 s hs
    obtain ⟨a4, b4, _⟩ := h2.1 t ht
    obtain ⟨e1, e2⟩ := h1.2 u s hu hs
    obtain ⟨e3, e4⟩ := h2.2 v t hv ht
    refine ⟨⟨fun e => ?_, fun e => ?_⟩, ?_⟩
    · have e : u.1 * C.n + v.1 = s.1 * C.n + t.1 := e
      have f1 : u.1 = s.1 := by rw [← (pair_div (x := u.1) a2).1, e, (pair_div a4).1]
      have f2 : v.1 = t.1 := by rw [← (pair_div (x := u.1) a2).2, e, (pair_div a4).2]
      show u.2 * D.n + v.2 = s.2 * D.n + t.2
      rw [e1.1 f1, e3.1 f2]
    · have e : u.2 * D.n + v.2 = s.2 * D.n + t.2 := e
      have f1 : u.2 = s.2 := by rw [← (pair_div (x := u.2) b2).1, e, (pair_div b4).1]
      have f2 : v.2 = t.2 := by rw [← (pair_div (x := u.2) b2).2, e, (pair_div b4).2]
      show u.1 * C.n + v.1 = s.1 * C.n + t.1
      rw [e1.2 f1, e3.2 f2]
    · show (A.R ((u.1 * C.n + v.1) / C.n) ((s.1 * C.n + t.1) / C.n) && C.R ((u.1 * C.n + v.1) % C.n) ((s.1 * C.n + t.1) % C.n)) = (B.R ((u.2 * D.n + v.2) / D.n) ((s.2 * D.n + t.2) / D.n) && D.R ((u.2 * D.n + v.2) % D.n) ((s.2 * D.n + t.2) % D.n))
      rw [(pair_div a2).1, (pair_div a2).2, (pair_div b2).1, (pair_div b2).2, (pair_div a4).1, (pair_div a4).2, (pair_div b4).1, (pair_div b4).2, e2, e4]
theorem split_lt {N M p : Nat} (h : p < N * M) : p / M < N ∧ p % M < M ∧ p / M * M + p % M = p := by
  have hM : 0 < M := by
    rcases Nat.eq_zero_or_pos M with rfl | h'
    · simp at h
    · exact h'
  refine ⟨?_, Nat.mod_lt _ hM, ?_⟩
  · rw [Nat.div_lt_iff_lt_mul hM]; exact h
  · rw [Nat.mul_comm]; exact Nat.div_add_mod p M
/-- who wins on the factors wins on the products -/
theorem win_prod {A B C D : Gr} : ∀ {r : Nat} {P1 P2 P : Pos}, Both C D P1 P2 P → Win A B r P1 → Win C D r P2 → Win (prodG A C) (prodG B D) r P
  | 0, _, _, _, hp, h1, h2 => way_prod hp h1 h2
  | r + 1, P1, P2, P, hp, h1, h2 => by
    refine ⟨way_prod hp h1.1 h2.1, fun x hx => ?_, fun y hy => ?_⟩
    · obtain ⟨d1, d2, d3⟩ := split_lt (show x < A.n * C.n from hx)
      obtain ⟨y1, hy1, hw1⟩ := h1.2.1 _ d1
      obtain ⟨y2, hy2, hw2⟩ := h2.2.1 _ d2
      refine ⟨y1 * D.n + y2, pair_lt hy1 hy2, ?_⟩
      have := win_prod (hp.cons (x / C.n, y1) (x % C.n, y2)) hw1 hw2
      rw [show (x / C.n, y1).1 * C.n + (x % C.n, y2).1 = x from d3] at this
      exact this
    · obtain ⟨d1, d2, d3⟩ := split_lt (show y < B.n * D.n from hy)
      obtain ⟨x1, hx1, hw1⟩ := h1.2.2 _ d1
      obtain ⟨x2, hx2, hw2⟩ := h2.2.2 _ d2
      refine ⟨x1 * C.n + x2, pair_lt hx1 hx2, ?_⟩
      have := win_prod (hp.cons (x1, y / D.n) (x2, y % D.n)) hw1 hw2
      rw [show (x1, y / D.n).2 * D.n + (x2, y % D.n).2 = y from d3] at this
      exact this
end Go.Proofs.YtpcnoiigbmiejaaGreatDoor.game

/- Structures with as many balls of each shape are not told apart by games: plain words. -/
namespace Go.Proofs.YtpcnoiigbmiejaaGreatDoor.game
set_option linter.unusedVariables false
set_option linter.unusedSimpArgs false
open Go.Proofs.YtpcnoiigbmiejaaGreatDoor.dist

theorem len_le {α : Type} [DecidableEq α] : ∀ {L M : List α}, L.Nodup → (∀ x, x ∈ L → x ∈ M) → L.length ≤ M.length
  | [], _, _, _ => Nat.zero_le _
  | a :: l, M, hn, hs => by
    obtain ⟨h1, h2⟩ := List.nodup_cons.1 hn
    have ha := hs a List.mem_cons_self
    have := len_le (L := l) (M := M.erase a) h2 fun x hx => (List.mem_erase_of_ne (fun e => h1 (by rw [← e]; exact hx))).2 (hs x (List.mem_cons_of_mem _ hx))
    rw [List.length_erase_of_mem ha] at this
    have := List.length_pos_of_mem ha
    rw [List.length_cons]; omega
theorem all_in {α : Type} [DecidableEq α] {L M : List α} (hn : L.Nodup) (hs : ∀ x, x ∈ L → x ∈ M) (hl : M.length ≤ L.length) {z : α} (hz : z ∈ M) : z ∈ L := by
  by_cases h : z ∈ L
  · exact h
  · have := len_le (M := M.erase z) hn fun x hx => (List.mem_erase_of_ne (fun e => h (by rw [← e]; exact hx))).2 (hs x hx)
    rw [List.length_erase_of_mem hz] at this
    have := List.length_pos_of_mem hz
    omega
/-- next to each other -/
def Nb (A : Gr) (x y : Nat) : Bool := (x != y) && (A.R x y || A.R y x)
theorem Nb_symm (A : Gr) (x y : Nat) : Nb A x y = Nb A y x := by
  unfold Nb
  rw [Bool.or_comm]
  congr 1
  rw [Bool.eq_iff_iff, bne_iff_ne, bne_iff_ne]
  exact ⟨fun h e => h e.symm, fun h e => h e.symm⟩
/-- within a distance -/
def Wi (A : Gr) (k x y : Nat) : Prop := y < A.n ∧ ∃ j, j ≤ k ∧ RK (Nb A) A.n x j y
theorem Wi.refl {A : Gr} {k x : Nat} (hx : x < A.n) : Wi A k x x := ⟨hx, 0, Nat.zero_le _, rfl⟩
theorem Wi.mono {A : Gr} {k l x y : Nat} (h : Wi A k x y) (hl : k ≤ l) : Wi A l x y := ⟨h.1, h.2.imp fun _ hj => ⟨Nat.le_trans hj.1 hl, hj.2⟩⟩
theorem Wi.trans {A : Gr} {j k x y z : Nat} (h : Wi A j x y) (h2 : Wi A k y z) : Wi A (j + k) x z := by
  obtain ⟨_, a, ha, h⟩ := h
  obtain ⟨hz, b, hb, h2⟩ := h2
  exact ⟨hz, a + b, by omega, RK_comp h h2⟩
theorem Wi.symm {A : Gr} {k x y : Nat} (hx : x < A.n) (h : Wi A k x y) : Wi A k y x := by
  obtain ⟨hy, a, ha, h⟩ := h
  exact ⟨hx, a, ha, RK_turn (Nb_symm A) hx hy h⟩
theorem Wi.step {A : Gr} {k x y z : Nat} (h : Wi A k x y) (hz : z < A.n) (hn : Nb A y z = true) : Wi A (k + 1) x z := by
  obtain ⟨hy, a, ha, h⟩ := h
  exact ⟨hz, a + 1, by omega, y, hy, h, hn⟩
/-- f lays some elements of the first structure onto some of the second one -/
structure Loc (A B : Gr) (D E : Nat → Prop) (f : Nat → Nat) : Prop where
  dn : ∀ i, D i → i < A.n
  en : ∀ i, E i → i < B.n
  to : ∀ i, D i → E (f i)
  inj : ∀ i j, D i → D j → f i = f j → i = j
  S : ∀ i, D i → A.S i = B.S (f i)
  R : ∀ i j, D i → D j → A.R i j = B.R (f i) (f j)
  on : ∀ z, E z → ∃ u, D u ∧ f u = z
theorem Loc.nb {A B : Gr} {D E : Nat → Prop} {f : Nat → Nat} (h : Loc A B D E f) {i j : Nat} (hi : D i) (hj : D j) : Nb A i j = Nb B (f i) (f j) := by
  unfold Nb
  rw [h.R i j hi hj, h.R j i hj hi]
  congr 1
  rw [Bool.eq_iff_iff, bne_iff_ne, bne_iff_ne]
  exact ⟨fun e e2 => e (h.inj i j hi hj e2), fun e e2 => e (by rw [e2])⟩
open Classical in
/-- the other way round -/
theorem Loc.symm {A B : Gr} {D E : Nat → Prop} {f : Nat → Nat} (h : Loc A B D E f) : ∃ g : Nat → Nat, Loc B A E D g ∧ (∀ i, D i → g (f i) = i) ∧ ∀ z, E z → f (g z) = z := by
  have hex : ∀ z, ∃ u, E z → D u ∧ f u = z := fun z => by
    by_cases hz : E z
    · obtain ⟨u, hu⟩ := h.on z hz
      exact ⟨u, fun _ => hu⟩
    · exact ⟨0, fun e => absurd e hz⟩
  obtain ⟨g, hg⟩ : ∃ g : Nat → Nat, ∀ z, E z → D (g z) ∧ f (g z) = z := ⟨fun z => (hex z).choose, fun z hz => (hex z).choose_spec hz⟩
  have gf : ∀ i, D i → g (f i) = i := fun i hi => h.inj _ _ (hg _ (h.to i hi)).1 hi (hg _ (h.to i hi)).2
  refine ⟨g, ⟨h.en, h.dn, fun z hz => (hg z hz).1, fun i j hi hj e => ?_, fun z hz => ?_, fun i j hi hj => ?_, fun u hu => ⟨f u, h.to u hu, gf u hu⟩⟩, gf, fun z hz => (hg z hz).2⟩
  · rw [← (hg i hi).2, ← (hg j hj).2, e]
  · rw [h.S _ (hg z hz).1, (hg z hz).2]
  · rw [h.R _ _ (hg i hi).1 (hg j hj).1, (hg i hi).2, (hg j hj).2]
theorem Loc.trans {A B C : Gr} {D E F : Nat → Prop} {f g : Nat → Nat} (h : Loc A B D E f) (k : Loc B C E F g) : Loc A C D F (fun i => g (f i)) where
  dn := h.dn
  en := k.en
  to i hi := k.to _ (h.to i hi)
  inj i j hi hj e := h.inj i j hi hj (k.inj _ _ (h.to i hi) (h.to j hj) e)
  S i hi := (h.S i hi).trans (k.S _ (h.to i hi))
  R i j hi hj := (h.R i j hi hj).trans (k.R _ _ (h.to i hi) (h.to j hj))
  on z hz := by
    obtain ⟨v, hv, rfl⟩ := k.on z hz
    obtain ⟨u, hu, rfl⟩ := h.on v hv
    exact ⟨u, hu, rfl⟩
/-- balls of the same shape -/
def Same (A B : Gr) (k x y : Nat) : Prop := ∃ f, Loc A B (Wi A k x) (Wi B k y) f ∧ f x = y
theorem Same.refl (A : Gr) (k x : Nat) : Same A A k x x := ⟨id, ⟨fun _ h => h.1, fun _ h => h.1, fun _ h => h, fun _ _ _ _ e => e, fun _ _ => rfl, fun _ _ _ _ => rfl, fun z h => ⟨z, h, rfl⟩⟩, rfl⟩
theorem Same.symm {A B : Gr} {k x y : Nat} (hx : x < A.n) (h : Same A B k x y) : Same B A k y x := by
  obtain ⟨f, hf, e⟩ := h
  obtain ⟨g, hg, gf, _⟩ := hf.symm
  exact ⟨g, hg, by rw [← e]; exact gf x (Wi.refl hx)⟩
theorem Same.trans {A B C : Gr} {k x y z : Nat} (h : Same A B k x y) (h2 : Same B C k y z) : Same A C k x z := by
  obtain ⟨f, hf, e⟩ := h
  obtain ⟨g, hg, e2⟩ := h2
  exact ⟨_, hf.trans hg, by show g (f x) = z; rw [e, e2]⟩
/-- those within a distance of what lies under the pebbles -/
def NA (A : Gr) (P : Pos) (K z : Nat) : Prop := ∃ p, p ∈ P ∧ Wi A K p.1 z
def NB (B : Gr) (P : Pos) (K z : Nat) : Prop := ∃ p, p ∈ P ∧ Wi B K p.2 z
/-- around the pebbles both structures are alike -/
structure Inv (A B : Gr) (K : Nat) (P : Pos) (f : Nat → Nat) : Prop where
  loc : Loc A B (NA A P K) (NB B P K) f
  on : ∀ p, p ∈ P → p.1 < A.n ∧ p.2 < B.n ∧ f p.1 = p.2
section
variable {A B : Gr} {K : Nat} {P : Pos} {f : Nat → Nat}
theorem Inv.way (h : Inv A B K P f) : Gway A B P := by
  have hd : ∀ p, p ∈ P → NA A P K p.1 := fun p hp => ⟨p, hp, Wi.refl (h.on p hp).1⟩
  refine ⟨fun p hp => ?_, fun p q hp hq => ?_⟩
  · obtain ⟨a, b, c⟩ := h.on p hp
    exact ⟨a, b, by rw [h.loc.S _ (hd p hp), c]⟩
  · obtain ⟨_, _, c⟩ := h.on p hp
    obtain ⟨_, _, d⟩ := h.on q hq
    refine ⟨⟨fun e => by rw [← c, ← d, e], fun e => h.loc.inj _ _ (hd p hp) (hd q hq) (by rw [c, d, e])⟩, ?_⟩
    rw [h.loc.R _ _ (hd p hp) (hd q hq), c, d]
/-- ways are kept -/
theorem Inv.go (h : Inv A B K P f) {p : Nat × Nat} (hp : p ∈ P) {j x : Nat} (hx : Wi A j p.1 x) : ∀ {i z : Nat}, j + i ≤ K → z < A.n → RK (Nb A) A.n x i z → RK (Nb B) B.n (f x) i (f z)
  | 0, z, _, _, hr => by
    have hr : z = x := hr
    subst hr; rfl
  | i + 1, z, hK, hz, hr => by
    obtain ⟨y, hy, hr, hn⟩ := hr
    have dy : NA A P K y := ⟨p, hp, (hx.trans (⟨hy, i, Nat.le_refl _, hr⟩ : Wi A i x y)).mono (by omega)⟩
    have dz : NA A P K z := ⟨p, hp, (hx.trans (Wi.step (show Wi A i x y from ⟨hy, i, Nat.le_refl _, hr⟩) hz hn)).mono (by omega)⟩
    exact ⟨f y, h.loc.en _ (h.loc.to y dy), h.go hp hx (by omega) hy hr, by rw [← h.loc.nb dy dz]; exact hn⟩
theorem Inv.wi (h : Inv A B K P f) {p : Nat × Nat} (hp : p ∈ P) {j r x z : Nat} (hx : Wi A j p.1 x) (hK : j + r ≤ K) (hz : Wi A r x z) : Wi B r (f x) (f z) := by
  have dz : NA A P K z := ⟨p, hp, (hx.trans hz).mono hK⟩
  obtain ⟨hzn, i, hi, hr⟩ := hz
  exact ⟨h.loc.en _ (h.loc.to z dz), i, hi, h.go hp hx (by omega) hzn hr⟩
theorem Inv.wi0 (h : Inv A B K P f) {p : Nat × Nat} (hp : p ∈ P) {j x : Nat} (hx : Wi A j p.1 x) (hK : j ≤ K) : Wi B j p.2 (f x) := by
  have := h.wi hp (Wi.refl (k := 0) (h.on p hp).1) (by omega) hx
  rw [(h.on p hp).2.2] at this; exact this
/-- .. and come back -/
theorem Inv.back (h : Inv A B K P f) {p : Nat × Nat} (hp : p ∈ P) {j x : Nat} (hx : Wi A j p.1 x) : ∀ {i z : Nat}, j + i ≤ K → z < B.n → RK (Nb B) B.n (f x) i z → ∃ u, u < A.n ∧ f u = z ∧ RK (Nb A) A.n x i u
  | 0, z, _, _, hr => by
    have hr : z = f x := hr
    exact ⟨x, hx.1, hr.symm, rfl⟩
  | i + 1, z, hK, hz, hr => by
    obtain ⟨y, hy, hr, hn⟩ := hr
    obtain ⟨u, hu, rfl, hru⟩ := h.back hp hx (by omega) hy hr
    have hxp := h.wi0 hp hx (by omega)
    have ez : NB B P K z := ⟨p, hp, (hxp.trans (Wi.step (show Wi B i (f x) (f u) from ⟨hy, i, Nat.le_refl _, hr⟩) hz hn)).mono (by omega)⟩
    obtain ⟨v, hv, rfl⟩ := h.loc.on z ez
    have du : NA A P K u := ⟨p, hp, (hx.trans (⟨hu, i, Nat.le_refl _, hru⟩ : Wi A i x u)).mono (by omega)⟩
    exact ⟨v, h.loc.dn v hv, rfl, u, hu, hru, by rw [h.loc.nb du hv]; exact hn⟩
theorem Inv.wib (h : Inv A B K P f) {p : Nat × Nat} (hp : p ∈ P) {j r x z : Nat} (hx : Wi A j p.1 x) (hK : j + r ≤ K) (hz : Wi B r (f x) z) : ∃ u, Wi A r x u ∧ f u = z := by
  obtain ⟨hzn, i, hi, hr⟩ := hz
  obtain ⟨u, hu, e, hru⟩ := h.back hp hx (by omega) hzn hr
  exact ⟨u, ⟨hu, i, hi, hru⟩, e⟩
/-- a smaller part -/
theorem Loc.part {A B : Gr} {D E D' E' : Nat → Prop} {f : Nat → Nat} (h : Loc A B D E f) (hd : ∀ i, D' i → D i) (ht : ∀ i, D' i → E' (f i)) (ho : ∀ z, E' z → ∃ u, D' u ∧ f u = z) : Loc A B D' E' f where
  dn i hi := h.dn i (hd i hi)
  en z hz := by
    obtain ⟨u, hu, rfl⟩ := ho z hz
    exact h.en _ (h.to u (hd u hu))
  to := ht
  inj i j hi hj := h.inj i j (hd i hi) (hd j hj)
  S i hi := h.S i (hd i hi)
  R i j hi hj := h.R i j (hd i hi) (hd j hj)
  on := ho
/-- elements near the pebbles have balls alike -/
theorem Inv.same (h : Inv A B K P f) {p : Nat × Nat} (hp : p ∈ P) {j r x : Nat} (hx : Wi A j p.1 x) (hK : j + r ≤ K) : Same A B r x (f x) :=
  ⟨f, h.loc.part (fun i hi => ⟨p, hp, (hx.trans hi).mono hK⟩) (fun i hi => h.wi hp hx hK hi) (fun z hz => h.wib hp hx hK hz), rfl⟩
/-- a choice near the pebbles -/
theorem Inv.near {r : Nat} (h : Inv A B (3 * r + 1) P f) {p : Nat × Nat} (hp : p ∈ P) {x : Nat} (hx : Wi A (2 * r + 1) p.1 x) : Inv A B r ((x, f x) :: P) f := by
  refine ⟨h.loc.part (fun i hi => ?_) (fun i hi => ?_) (fun z hz => ?_), fun q hq => ?_⟩
  · obtain ⟨q, hq, hi⟩ := hi
    rcases List.mem_cons.1 hq with rfl | hq
    · exact ⟨p, hp, (hx.trans hi).mono (by omega)⟩
    · exact ⟨q, hq, hi.mono (by omega)⟩
  · obtain ⟨q, hq, hi⟩ := hi
    rcases List.mem_cons.1 hq with rfl | hq
    · exact ⟨_, List.mem_cons_self, h.wi hp hx (by omega) hi⟩
    · exact ⟨q, List.mem_cons_of_mem _ hq, h.wi0 hq hi (by omega)⟩
  · obtain ⟨q, hq, hz⟩ := hz
    rcases List.mem_cons.1 hq with rfl | hq
    · obtain ⟨u, hu, e⟩ := h.wib hp hx (by omega) hz
      exact ⟨u, ⟨_, List.mem_cons_self, hu⟩, e⟩
    · obtain ⟨a, b, c⟩ := h.on q hq
      rw [← c] at hz
      obtain ⟨u, hu, e⟩ := h.wib hq (Wi.refl (k := 0) a) (by omega) hz
      exact ⟨u, ⟨q, List.mem_cons_of_mem _ hq, hu⟩, e⟩
  · rcases List.mem_cons.1 hq with rfl | hq
    · have d : NA A P (3 * r + 1) x := ⟨p, hp, hx.mono (by omega)⟩
      exact ⟨hx.1, h.loc.en _ (h.loc.to x d), rfl⟩
    · exact h.on q hq
open Classical in
/-- a choice far from the pebbles -/
theorem Inv.far {r : Nat} (h : Inv A B (3 * r + 1) P f) {x y : Nat} (hx : x < A.n) (hy : y < B.n) (hs : Same A B r x y) (fx : ∀ p, p ∈ P → ¬ Wi A (2 * r + 1) p.1 x) (fy : ∀ p, p ∈ P → ¬ Wi B (2 * r + 1) p.2 y) :
    ∃ f', Inv A B r ((x, y) :: P) f' := by
  obtain ⟨g, hg, e⟩ := hs
  have dA : ∀ i, NA A P r i → NA A P (3 * r + 1) i := fun i ⟨p, hp, hi⟩ => ⟨p, hp, hi.mono (by omega)⟩
  have disA : ∀ i, NA A P r i → ¬ Wi A r x i := fun i ⟨p, hp, hi⟩ hxi => fx p hp ((hi.trans (hxi.symm hx)).mono (by omega))
  have disB : ∀ i, NB B P r i → ¬ Wi B r y i := fun i ⟨p, hp, hi⟩ hxi => fy p hp ((hi.trans (hxi.symm hy)).mono (by omega))
  have nbA : ∀ i j, NA A P r i → Wi A r x j → Nb A i j = false := fun i j ⟨p, hp, hi⟩ hj => by
    cases hn : Nb A i j with
    | false => rfl
    | true => exact absurd (((hi.step hj.1 hn).trans (hj.symm hx)).mono (by omega)) (fx p hp)
  have nbB : ∀ i j, NB B P r i → Wi B r y j → Nb B i j = false := fun i j ⟨p, hp, hi⟩ hj => by
    cases hn : Nb B i j with
    | false => rfl
    | true => exact absurd (((hi.step hj.1 hn).trans (hj.symm hy)).mono (by omega)) (fy p hp)
  have rel : ∀ {A : Gr} {i j : Nat}, i ≠ j → Nb A i j = false → A.R i j = false ∧ A.R j i = false := fun {A i j} hne hn => by
    unfold Nb at hn
    rw [bne_iff_ne.2 hne, Bool.true_and, Bool.or_eq_false_iff] at hn
    exact hn
  have tB : ∀ i, NA A P r i → NB B P r (f i) := fun i ⟨p, hp, hi⟩ => ⟨p, hp, h.wi0 hp hi (by omega)⟩
  obtain ⟨f', hf1, hf2⟩ : ∃ f' : Nat → Nat, (∀ i, NA A P r i → f' i = f i) ∧ ∀ i, Wi A r x i → f' i = g i := by
    refine ⟨fun i => if NA A P r i then f i else g i, fun i hi => if_pos hi, fun i hi => if_neg fun hn => disA i hn hi⟩
  have split : ∀ {i}, NA A ((x, y) :: P) r i → NA A P r i ∨ Wi A r x i := fun ⟨q, hq, hi⟩ => by
    rcases List.mem_cons.1 hq with rfl | hq
    · exact .inr hi
    · exact .inl ⟨q, hq, hi⟩
  refine ⟨f', ⟨fun i ⟨q, _, hi⟩ => hi.1, fun i ⟨q, _, hi⟩ => hi.1, fun i hi => ?_, fun i j hi hj ee => ?_, fun i hi => ?_, fun i j hi hj => ?_, fun z ⟨q, hq, hz⟩ => ?_⟩, fun q hq => ?_⟩
  · rcases split hi with hi | hi
    · rw [hf1 i hi]
      obtain ⟨q, hq, hz⟩ := tB i hi
      exact ⟨q, List.mem_cons_of_mem _ hq, hz⟩
    · rw [hf2 i hi]
      exact ⟨_, List.mem_cons_self, hg.to i hi⟩
  · rcases split hi with hi | hi <;> rcases split hj with hj | hj
    · rw [hf1 i hi, hf1 j hj] at ee; exact h.loc.inj i j (dA i hi) (dA j hj) ee
    · rw [hf1 i hi, hf2 j hj] at ee
      exact absurd (by rw [ee]; exact hg.to j hj) (disB _ (tB i hi))
    · rw [hf2 i hi, hf1 j hj] at ee
      exact absurd (by rw [← ee]; exact hg.to i hi) (disB _ (tB j hj))
    · rw [hf2 i hi, hf2 j hj] at ee; exact hg.inj i j hi hj ee
  · rcases split hi with hi | hi
    · rw [hf1 i hi]; exact h.loc.S i (dA i hi)
    · rw [hf2 i hi]; exact hg.S i hi
  · have mixed : ∀ i j, NA A P r i → Wi A r x j → (A.R i j = false ∧ A.R j i = false) ∧ B.R (f i) (g j) = false ∧ B.R (g j) (f i) = false := fun i j hi hj => by
      refine ⟨rel (fun e => disA i hi (e ▸ hj)) (nbA i j hi hj), rel (fun e => disB _ (tB i hi) (e ▸ hg.to j hj)) (nbB _ _ (tB i hi) (hg.to j hj))⟩
    rcases split hi with hi | hi <;> rcases split hj with hj | hj
    · rw [hf1 i hi, hf1 j hj]; exact h.loc.R i j (dA i hi) (dA j hj)
    · rw [hf1 i hi, hf2 j hj]
      obtain ⟨⟨a, _⟩, b, _⟩ := mixed i j hi hj
      rw [a, b]
    · rw [hf2 i hi, hf1 j hj]
      obtain ⟨⟨_, a⟩, _, b⟩ := mixed j i hj hi
      rw [a, b]
    · rw [hf2 i hi, hf2 j hj]; exact hg.R i j hi hj
  · rcases List.mem_cons.1 hq with rfl | hq
    · obtain ⟨u, hu, rfl⟩ := hg.on z hz
      exact ⟨u, ⟨_, List.mem_cons_self, hu⟩, hf2 u hu⟩
    · obtain ⟨a, b, c⟩ := h.on q hq
      rw [← c] at hz
      obtain ⟨u, hu, rfl⟩ := h.wib hq (Wi.refl (k := 0) a) (by omega) hz
      exact ⟨u, ⟨q, List.mem_cons_of_mem _ hq, hu⟩, hf1 u ⟨q, hq, hu⟩⟩
  · rcases List.mem_cons.1 hq with rfl | hq
    · exact ⟨hx, hy, by rw [hf2 x (Wi.refl hx)]; exact e⟩
    · obtain ⟨a, b, c⟩ := h.on q hq
      exact ⟨a, b, by rw [hf1 _ ⟨q, hq, Wi.refl a⟩]; exact c⟩
/-- as many balls of each shape -/
def Bij (A B : Gr) (r : Nat) : Prop := ∃ g : Nat → Nat, (∀ u, u < A.n → g u < B.n ∧ Same A B r u (g u)) ∧ ∀ u v, u < A.n → v < A.n → g u = g v → u = v
open Classical in
/-- an answer far from the pebbles -/
theorem Inv.answer {r : Nat} (h : Inv A B (3 * r + 1) P f) (hb : Bij A B r) {x : Nat} (hx : x < A.n) (fx : ∀ p, p ∈ P → ¬ Wi A (2 * r + 1) p.1 x) :
    ∃ y, y < B.n ∧ Same A B r x y ∧ ∀ p, p ∈ P → ¬ Wi B (2 * r + 1) p.2 y := by
  obtain ⟨g, hg, gi⟩ := hb
  have hnn : ¬ ∀ u, (u < A.n ∧ Same A A r x u) → ∃ p, p ∈ P ∧ Wi B (2 * r + 1) p.2 (g u) := fun hall => by
    -- each one goes to one near the pebbles, and back
    have hex : ∀ u, ∃ v, (u < A.n ∧ Same A A r x u) → (v < A.n ∧ Same A A r x v) ∧ v ≠ x ∧ f v = g u ∧ NA A P (3 * r + 1) v := fun u => by
      by_cases hu : u < A.n ∧ Same A A r x u
      · obtain ⟨p, hp, hw⟩ := hall u hu
        obtain ⟨a, b, c⟩ := h.on p hp
        rw [← c] at hw
        obtain ⟨v, hv, e⟩ := h.wib hp (Wi.refl (k := 0) a) (by omega) hw
        refine ⟨v, fun _ => ⟨⟨hv.1, ?_⟩, fun e2 => fx p hp (e2 ▸ hv), e, ⟨p, hp, hv.mono (by omega)⟩⟩⟩
        have s1 := h.same hp (r := r) hv (by omega)
        rw [e] at s1
        exact (hu.2.trans (hg u hu.1).2).trans (s1.symm hv.1)
      · exact ⟨0, fun e => absurd e hu⟩
    obtain ⟨k, hk⟩ : ∃ k : Nat → Nat, ∀ u, (u < A.n ∧ Same A A r x u) → (k u < A.n ∧ Same A A r x (k u)) ∧ k u ≠ x ∧ f (k u) = g u ∧ NA A P (3 * r + 1) (k u) := ⟨fun u => (hex u).choose, fun u => (hex u).choose_spec⟩
    obtain ⟨L, hL⟩ : ∃ L, L = (List.range A.n).filter fun u => decide (Same A A r x u) := ⟨_, rfl⟩
    have mL : ∀ u, u ∈ L ↔ u < A.n ∧ Same A A r x u := fun u => by rw [hL, List.mem_filter, List.mem_range, decide_eq_true_eq]
    have nL : L.Nodup := by rw [hL]; exact List.nodup_range.filter _
    have nk : (L.map k).Nodup := by
      rw [List.nodup_iff_pairwise_ne, List.pairwise_map]
      refine (List.nodup_iff_pairwise_ne.1 nL).imp_of_mem ?_
      intro u v hu hv huv e
      have a := (hk u ((mL u).1 hu)).2.2.1
      have b := (hk v ((mL v).1 hv)).2.2.1
      rw [e] at a
      exact huv (gi u v ((mL u).1 hu).1 ((mL v).1 hv).1 (a.symm.trans b))
    have sub : ∀ z, z ∈ L.map k → z ∈ L.erase x := fun z hz => by
      obtain ⟨u, hu, rfl⟩ := List.mem_map.1 hz
      obtain ⟨a, b, _⟩ := hk u ((mL u).1 hu)
      exact (List.mem_erase_of_ne b).2 ((mL _).2 a)
    have l1 : (L.map k).length ≤ (L.erase x).length := by
      exact len_le nk sub
    have hxL : x ∈ L := (mL x).2 ⟨hx, Same.refl A r x⟩
    rw [List.length_map, List.length_erase_of_mem hxL] at l1
    have := List.length_pos_of_mem hxL
    omega
  obtain ⟨u, hu⟩ := Classical.not_forall.1 hnn
  obtain ⟨hu, hno⟩ := Classical.not_imp.1 hu
  exact ⟨g u, (hg u hu.1).1, hu.2.trans (hg u hu.1).2, fun p hp hw => hno ⟨p, hp, hw⟩⟩
open Classical in
theorem Inv.next {r : Nat} (h : Inv A B (3 * r + 1) P f) (hb : Bij A B r) {x : Nat} (hx : x < A.n) : ∃ y, y < B.n ∧ ∃ f', Inv A B r ((x, y) :: P) f' := by
  by_cases hn : ∃ p, p ∈ P ∧ Wi A (2 * r + 1) p.1 x
  · obtain ⟨p, hp, hw⟩ := hn
    have := h.near hp hw
    exact ⟨f x, (this.on _ List.mem_cons_self).2.1, f, this⟩
  · have fx : ∀ p, p ∈ P → ¬ Wi A (2 * r + 1) p.1 x := fun p hp hw => hn ⟨p, hp, hw⟩
    obtain ⟨y, hy, hs, fy⟩ := h.answer hb hx fx
    obtain ⟨f', hf⟩ := h.far hx hy hs fx fy
    exact ⟨y, hy, f', hf⟩
end
theorem Inv.turn {A B : Gr} {K : Nat} {P : Pos} {f : Nat → Nat} (h : Inv A B K P f) : ∃ g, Inv B A K (turn P) g := by
  obtain ⟨g, hg, gf, fg⟩ := h.loc.symm
  have e1 : ∀ i, NA B (game.turn P) K i ↔ NB B P K i := fun i => by
    constructor
    · rintro ⟨p, hp, hw⟩; exact ⟨_, mem_turn.1 hp, hw⟩
    · rintro ⟨p, hp, hw⟩; exact ⟨(p.2, p.1), mem_turn.2 hp, hw⟩
  have e2 : ∀ i, NB A (game.turn P) K i ↔ NA A P K i := fun i => by
    constructor
    · rintro ⟨p, hp, hw⟩; exact ⟨_, mem_turn.1 hp, hw⟩
    · rintro ⟨p, hp, hw⟩; exact ⟨(p.2, p.1), mem_turn.2 hp, hw⟩
  refine ⟨g, ⟨fun i hi => hg.dn i ((e1 i).1 hi), fun i hi => hg.en i ((e2 i).1 hi), fun i hi => (e2 _).2 (hg.to i ((e1 i).1 hi)), fun i j hi hj => hg.inj i j ((e1 i).1 hi) ((e1 j).1 hj), fun i hi => hg.S i ((e1 i).1 hi), fun i j hi hj => hg.R i j ((e1 i).1 hi) ((e1 j).1 hj), fun z hz => ?_⟩, fun p hp => ?_⟩
  · obtain ⟨u, hu, e⟩ := hg.on z ((e2 z).1 hz)
    exact ⟨u, (e1 u).2 hu, e⟩
  · obtain ⟨a, b, c⟩ := h.on _ (mem_turn.1 hp)
    have c : f p.2 = p.1 := c
    exact ⟨b, a, by rw [← c]; exact gf _ ⟨_, mem_turn.1 hp, Wi.refl a⟩⟩
theorem turn_turn (P : Pos) : turn (turn P) = P := by
  unfold turn
  rw [List.map_map]
  conv => rhs; rw [← List.map_id P]
  rfl
/-- a radius that is enough -/
def rf : Nat → Nat
  | 0 => 0
  | k + 1 => 3 * rf k + 1
theorem Bij.turn {A B : Gr} {r : Nat} (h : Bij A B r) (hn : A.n = B.n) : Bij B A r := by
  obtain ⟨g, hg, gi⟩ := h
  have nd : ((List.range A.n).map g).Nodup := by
    rw [List.nodup_iff_pairwise_ne, List.pairwise_map]
    refine (List.nodup_iff_pairwise_ne.1 List.nodup_range).imp_of_mem ?_
    intro u v hu hv huv e
    exact huv (gi u v (List.mem_range.1 hu) (List.mem_range.1 hv) e)
  have sub : ∀ z, z ∈ (List.range A.n).map g → z ∈ List.range B.n := fun z hz => by
    obtain ⟨u, hu, rfl⟩ := List.mem_map.1 hz
    exact List.mem_range.2 (hg u (List.mem_range.1 hu)).1
  have sur : ∀ z, z < B.n → ∃ u, u < A.n ∧ g u = z := fun z hz => by
    have := all_in nd sub (by simp [hn]) (List.mem_range.2 hz)
    obtain ⟨u, hu, e⟩ := List.mem_map.1 this
    exact ⟨u, List.mem_range.1 hu, e⟩
  have hex : ∀ z, ∃ u, z < B.n → u < A.n ∧ g u = z := fun z => by
    by_cases hz : z < B.n
    · obtain ⟨u, hu⟩ := sur z hz
      exact ⟨u, fun _ => hu⟩
    · exact ⟨0, fun e => absurd e hz⟩
  refine ⟨fun z => (hex z).choose, fun z hz => ?_, fun u v hu hv e => ?_⟩
  · obtain ⟨a, b⟩ := (hex z).choose_spec hz
    refine ⟨a, ?_⟩
    have := (hg _ a).2
    rw [b] at this
    exact this.symm a
  · have a := ((hex u).choose_spec hu).2
    have b := ((hex v).choose_spec hv).2
    have e : (hex u).choose = (hex v).choose := e
    rw [← a, ← b, e]
/-- structures with as many balls of each shape are not told apart -/
theorem hanf {A B : Gr} (hn : A.n = B.n) : ∀ {k : Nat} {P : Pos} {f : Nat → Nat}, (∀ j, j < k → Bij A B (rf j)) → Inv A B (rf k) P f → Win A B k P
  | 0, _, _, _, h => h.way
  | k + 1, P, f, hb, h => by
    refine ⟨h.way, fun x hx => ?_, fun y hy => ?_⟩
    · obtain ⟨y, hy, f', hf⟩ := Inv.next (r := rf k) h (hb k (by omega)) hx
      exact ⟨y, hy, hanf hn (fun j hj => hb j (by omega)) hf⟩
    · obtain ⟨g, hg⟩ := Inv.turn h
      obtain ⟨x, hx, f', hf⟩ := Inv.next (r := rf k) hg ((hb k (by omega)).turn hn) hy
      obtain ⟨g', hg'⟩ := hf.turn
      have e : game.turn ((y, x) :: game.turn P) = (x, y) :: P := by
        show (x, y) :: game.turn (game.turn P) = _
        rw [turn_turn]
      rw [e] at hg'
      exact ⟨x, hx, hanf hn (fun j hj => hb j (by omega)) hg'⟩
theorem hanf_start {A B : Gr} (hn : A.n = B.n) {k : Nat} (hb : ∀ j, j < k → Bij A B (rf j)) : Win A B k [] := by
  have hA : ∀ K z, ¬ NA A [] K z := fun K z ⟨p, hp, _⟩ => by cases hp
  have hB : ∀ K z, ¬ NB B [] K z := fun K z ⟨p, hp, _⟩ => by cases hp
  refine hanf hn (f := id) hb ⟨⟨fun i h => (hA _ _ h).elim, fun i h => (hB _ _ h).elim, fun i h => (hA _ _ h).elim, fun i j h => (hA _ _ h).elim, fun i h => (hA _ _ h).elim, fun i j h => (hA _ _ h).elim, fun i h => (hB _ _ h).elim⟩, fun p hp => ?_⟩
  cases hp
end Go.Proofs.YtpcnoiigbmiejaaGreatDoor.game
