/- What the program's games compute, in plain words. -/
import Derived.Test.YtefneihlgclkbaaDoorGame
import Derived.Test.YtefneihlgclkbaaDoorPkJ
namespace Go.Proofs.YtefneihlgclkbaaDoor.gob
set_option linter.unusedVariables false
set_option linter.unusedSimpArgs false
open Go.Proofs.YtefneihlgclkbaaDoor.base Go.Proofs.YtefneihlgclkbaaDoor.still Go.Proofs.YtefneihlgclkbaaDoor.game

/-- the structure by its bits -/
def gr (N : Nat) (s r : ByteArray) : Gr := ⟨N, bitAt s, fun x y => bitAt r (x * N + y)⟩
/-- the second player can go on so many rounds -/
def goB : Nat → Nat → ByteArray → ByteArray → List Nat → Nat → ByteArray → ByteArray → List Nat → Bool
  | 0, _, _, _, _, _, _, _, _ => true
  | r + 1, N, sa, ra, la, M, sb, rb, lb =>
    ((List.range N).all fun x => swB N sa ra la M sb rb lb && (List.range M).any fun y => stB N sa ra la M sb rb lb x y && goB r N sa ra (la ++ [x]) M sb rb (lb ++ [y])) &&
    ((List.range M).all fun y => swB M sb rb lb N sa ra la && (List.range N).any fun x => stB M sb rb lb N sa ra la y x && goB r M sb rb (lb ++ [y]) N sa ra (la ++ [x]))
/-- there is a reply -/
def repB (r N : Nat) (sa ra : ByteArray) (la : List Nat) (M : Nat) (sb rb : ByteArray) (lb : List Nat) (x : Nat) : Bool :=
  swB N sa ra la M sb rb lb && (List.range M).any fun y => stB N sa ra la M sb rb lb x y && goB r N sa ra (la ++ [x]) M sb rb (lb ++ [y])
theorem goB_succ (r N : Nat) (sa ra : ByteArray) (la : List Nat) (M : Nat) (sb rb : ByteArray) (lb : List Nat) : goB (r + 1) N sa ra la M sb rb lb = (((List.range N).all fun x => repB r N sa ra la M sb rb lb x) && (List.range M).all fun y => repB r M sb rb lb N sa ra la y) := rfl
/-- the second player wins -/
def winB (r N : Nat) (sa ra : ByteArray) (la : List Nat) (M : Nat) (sb rb : ByteArray) (lb : List Nat) : Bool := swB N sa ra la M sb rb lb && goB r N sa ra la M sb rb lb
def Els (N : Nat) (l : List Nat) : Prop := ∀ x, x ∈ l → x < N
theorem Els.snoc {N : Nat} {l : List Nat} (h : Els N l) {x : Nat} (hx : x < N) : Els N (l ++ [x]) := fun y hy => by
  rcases List.mem_append.1 hy with h' | h'
  · exact h y h'
  · rw [List.mem_singleton.1 h']; exact hx
theorem Els.get {N : Nat} {l : List Nat} (h : Els N l) {i : Nat} (hi : i < l.length) : l.getD i 0 < N := by
  rw [List.getD_eq_getElem?_getD, List.getElem?_eq_getElem hi]
  exact h _ (List.getElem_mem _)
theorem mem_zip {xs ys : List Nat} (hl : xs.length = ys.length) {p : Nat × Nat} : p ∈ xs.zip ys ↔ ∃ i, i < xs.length ∧ p = (xs.getD i 0, ys.getD i 0) := by
  rw [List.mem_iff_getElem]
  constructor
  · rintro ⟨i, hi, rfl⟩
    rw [List.length_zip] at hi
    refine ⟨i, by omega, ?_⟩
    rw [List.getElem_zip, List.getD_eq_getElem?_getD, List.getD_eq_getElem?_getD, List.getElem?_eq_getElem (by omega), List.getElem?_eq_getElem (by omega)]
    rfl
  · rintro ⟨i, hi, rfl⟩
    refine ⟨i, by rw [List.length_zip]; omega, ?_⟩
    rw [List.getElem_zip, List.getD_eq_getElem?_getD, List.getD_eq_getElem?_getD, List.getElem?_eq_getElem (by omega), List.getElem?_eq_getElem (by omega)]
    rfl
section
variable {N : Nat} {sa ra : ByteArray} {M : Nat} {sb rb : ByteArray} {la lb : List Nat}
theorem stp_iff {x y k : Nat} : stpB N ra M rb la lb x y k = true ↔ (la.getD k 0 = x ↔ lb.getD k 0 = y) ∧ bitAt ra (la.getD k 0 * N + x) = bitAt rb (lb.getD k 0 * M + y) ∧ bitAt ra (x * N + la.getD k 0) = bitAt rb (y * M + lb.getD k 0) := by
  unfold stpB
  rw [Bool.and_eq_true, Bool.and_eq_true, beq_iff_eq, beq_iff_eq, beq_iff_eq, Bool.eq_iff_iff, beq_iff_eq, beq_iff_eq]
  constructor
  · rintro ⟨h1, h2⟩; exact ⟨⟨fun e => by have := h1.1 (by omega); omega, fun e => by have := h1.2 (by omega); omega⟩, h2⟩
  · rintro ⟨h1, h2⟩; exact ⟨⟨fun e => by have := h1.1 (by omega); omega, fun e => by have := h1.2 (by omega); omega⟩, h2⟩
theorem st_iff {x y : Nat} : stB N sa ra la M sb rb lb x y = true ↔ bitAt sa x = bitAt sb y ∧ bitAt ra (x * N + x) = bitAt rb (y * M + y) ∧ ∀ k, k < la.length → (la.getD k 0 = x ↔ lb.getD k 0 = y) ∧ bitAt ra (la.getD k 0 * N + x) = bitAt rb (lb.getD k 0 * M + y) ∧ bitAt ra (x * N + la.getD k 0) = bitAt rb (y * M + lb.getD k 0) := by
  unfold stB
  rw [Bool.and_eq_true, Bool.and_eq_true, beq_iff_eq, beq_iff_eq, List.all_eq_true]
  constructor
  · rintro ⟨h1, h2, h3⟩; exact ⟨h1, h2, fun k hk => stp_iff.1 (h3 k (List.mem_range.2 hk))⟩
  · rintro ⟨h1, h2, h3⟩; exact ⟨h1, h2, fun k hk => stp_iff.2 (h3 k (List.mem_range.1 hk))⟩
/-- one more pair in the same way -/
theorem st_way (hl : la.length = lb.length) (h : Gway (gr N sa ra) (gr M sb rb) (la.zip lb)) {x y : Nat} (hx : x < N) (hy : y < M) : stB N sa ra la M sb rb lb x y = true ↔ Gway (gr N sa ra) (gr M sb rb) ((x, y) :: la.zip lb) := by
  rw [st_iff]
  constructor
  · rintro ⟨h1, h2, h3⟩
    have key : ∀ p, p ∈ la.zip lb → (p.1 = x ↔ p.2 = y) ∧ bitAt ra (p.1 * N + x) = bitAt rb (p.2 * M + y) ∧ bitAt ra (x * N + p.1) = bitAt rb (y * M + p.2) := fun p hp => by
      obtain ⟨k, hk, rfl⟩ := (mem_zip hl).1 hp
      exact h3 k hk
    refine ⟨fun p hp => ?_, fun p q hp hq => ?_⟩
    · rcases List.mem_cons.1 hp with rfl | hp
      · exact ⟨hx, hy, h1⟩
      · exact h.1 p hp
    · rcases List.mem_cons.1 hp with rfl | hp <;> rcases List.mem_cons.1 hq with rfl | hq
      · exact ⟨⟨fun _ => rfl, fun _ => rfl⟩, h2⟩
      · obtain ⟨a, _, c⟩ := key q hq
        exact ⟨⟨fun e => (a.1 e.symm).symm, fun e => (a.2 e.symm).symm⟩, c⟩
      · obtain ⟨a, b, _⟩ := key p hp
        exact ⟨a, b⟩
      · exact h.2 p q hp hq
  · intro hw
    have hm : (x, y) ∈ (x, y) :: la.zip lb := List.mem_cons_self
    refine ⟨(hw.1 _ hm).2.2, (hw.2 _ _ hm hm).2, fun k hk => ?_⟩
    have hk' : (la.getD k 0, lb.getD k 0) ∈ (x, y) :: la.zip lb := List.mem_cons_of_mem _ ((mem_zip hl).2 ⟨k, hk, rfl⟩)
    exact ⟨(hw.2 _ _ hk' hm).1, (hw.2 _ _ hk' hm).2, (hw.2 _ _ hm hk').2⟩
theorem getD_take {l : List Nat} {i k : Nat} (h : k < i) : (l.take i).getD k 0 = l.getD k 0 := by
  simp [List.getD_eq_getElem?_getD, List.getElem?_take, h]
/-- lists in the same way -/
theorem sw_way (hl : la.length = lb.length) (ha : Els N la) (hb : Els M lb) : swB N sa ra la M sb rb lb = true ↔ Gway (gr N sa ra) (gr M sb rb) (la.zip lb) := by
  unfold swB
  rw [List.all_eq_true]
  have hst : ∀ i, i < la.length → (stB N sa ra (la.take i) M sb rb (lb.take i) (la.getD i 0) (lb.getD i 0) = true ↔ bitAt sa (la.getD i 0) = bitAt sb (lb.getD i 0) ∧ bitAt ra (la.getD i 0 * N + la.getD i 0) = bitAt rb (lb.getD i 0 * M + lb.getD i 0) ∧ ∀ k, k < i → (la.getD k 0 = la.getD i 0 ↔ lb.getD k 0 = lb.getD i 0) ∧ bitAt ra (la.getD k 0 * N + la.getD i 0) = bitAt rb (lb.getD k 0 * M + lb.getD i 0) ∧ bitAt ra (la.getD i 0 * N + la.getD k 0) = bitAt rb (lb.getD i 0 * M + lb.getD k 0)) := fun i hi => by
    rw [st_iff, List.length_take, Nat.min_eq_left (by omega)]
    constructor
    · rintro ⟨h1, h2, h3⟩
      exact ⟨h1, h2, fun k hk => by have := h3 k hk; rw [getD_take hk, getD_take hk] at this; exact this⟩
    · rintro ⟨h1, h2, h3⟩
      exact ⟨h1, h2, fun k hk => by rw [getD_take hk, getD_take hk]; exact h3 k hk⟩
  constructor
  · intro h
    have h' := fun i hi => (hst i hi).1 (h i (List.mem_range.2 hi))
    refine ⟨fun p hp => ?_, fun p q hp hq => ?_⟩
    · obtain ⟨i, hi, rfl⟩ := (mem_zip hl).1 hp
      exact ⟨ha.get hi, hb.get (by omega), (h' i hi).1⟩
    · obtain ⟨i, hi, rfl⟩ := (mem_zip hl).1 hp
      obtain ⟨k, hk, rfl⟩ := (mem_zip hl).1 hq
      show (la.getD i 0 = la.getD k 0 ↔ lb.getD i 0 = lb.getD k 0) ∧ bitAt ra (la.getD i 0 * N + la.getD k 0) = bitAt rb (lb.getD i 0 * M + lb.getD k 0)
      rcases Nat.lt_trichotomy i k with e | e | e
      · obtain ⟨a, b, _⟩ := (h' k hk).2.2 i e
        exact ⟨a, b⟩
      · subst e; exact ⟨⟨fun _ => rfl, fun _ => rfl⟩, (h' i hi).2.1⟩
      · obtain ⟨a, _, c⟩ := (h' i hi).2.2 k e
        exact ⟨⟨fun e => (a.1 e.symm).symm, fun e => (a.2 e.symm).symm⟩, c⟩
  · intro h i hi
    have hi := List.mem_range.1 hi
    have hm : ∀ j, j < la.length → (la.getD j 0, lb.getD j 0) ∈ la.zip lb := fun j hj => (mem_zip hl).2 ⟨j, hj, rfl⟩
    refine (hst i hi).2 ⟨(h.1 _ (hm i hi)).2.2, (h.2 _ _ (hm i hi) (hm i hi)).2, fun k hk => ?_⟩
    exact ⟨(h.2 _ _ (hm k (by omega)) (hm i hi)).1, (h.2 _ _ (hm k (by omega)) (hm i hi)).2, (h.2 _ _ (hm i hi) (hm k (by omega))).2⟩
end
theorem zip_swap : ∀ (la lb : List Nat), lb.zip la = turn (la.zip lb)
  | [], [] => rfl
  | [], _ :: _ => rfl
  | _ :: _, [] => rfl
  | a :: la, b :: lb => by
    show (b, a) :: lb.zip la = (b, a) :: turn (la.zip lb)
    rw [zip_swap la lb]
theorem turn_turn' (P : Pos) : turn (turn P) = P := by
  unfold turn
  rw [List.map_map]
  conv => rhs; rw [← List.map_id P]
  rfl
theorem win_snoc {A B : Gr} {r : Nat} {la lb : List Nat} (hl : la.length = lb.length) {x y : Nat} : Win A B r ((la ++ [x]).zip (lb ++ [y])) ↔ Win A B r ((x, y) :: la.zip lb) := by
  have e : (la ++ [x]).zip (lb ++ [y]) = la.zip lb ++ [(x, y)] := by rw [List.zip_append hl]; rfl
  rw [e]
  constructor
  · intro hw; exact hw.sub fun p hp => by
      rcases List.mem_cons.1 hp with rfl | hp
      · exact List.mem_append.2 (.inr (List.mem_singleton.2 rfl))
      · exact List.mem_append.2 (.inl hp)
  · intro hw; exact hw.sub fun p hp => by
      rcases List.mem_append.1 hp with hp | hp
      · exact List.mem_cons_of_mem _ hp
      · rw [List.mem_singleton.1 hp]; exact List.mem_cons_self
/-- going on is winning, for lists in the same way -/
theorem go_win : ∀ {r N : Nat} {sa ra : ByteArray} {M : Nat} {sb rb : ByteArray} {la lb : List Nat}, la.length = lb.length → Els N la → Els M lb → Gway (gr N sa ra) (gr M sb rb) (la.zip lb) → (goB r N sa ra la M sb rb lb = true ↔ Win (gr N sa ra) (gr M sb rb) r (la.zip lb))
  | 0, _, _, _, _, _, _, _, _, _, _, _, hw => ⟨fun _ => hw, fun _ => rfl⟩
  | r + 1, N, sa, ra, M, sb, rb, la, lb, hl, ha, hb, hw => by
    have hsw := (sw_way hl ha hb).2 hw
    have hw2 : Gway (gr M sb rb) (gr N sa ra) (lb.zip la) := by rw [zip_swap]; exact hw.turn
    have hsw2 := (sw_way hl.symm hb ha).2 hw2
    have rep : ∀ {N : Nat} {sa ra : ByteArray} {M : Nat} {sb rb : ByteArray} {la lb : List Nat}, la.length = lb.length → Els N la → Els M lb → Gway (gr N sa ra) (gr M sb rb) (la.zip lb) → swB N sa ra la M sb rb lb = true → ∀ x, x < N → (repB r N sa ra la M sb rb lb x = true ↔ ∃ y, y < M ∧ Win (gr N sa ra) (gr M sb rb) r ((x, y) :: la.zip lb)) := fun {N sa ra M sb rb la lb} hl ha hb hw hsw x hx => by
      unfold repB
      rw [hsw, Bool.true_and, List.any_eq_true]
      constructor
      · rintro ⟨y, hy, h⟩
        have hy := List.mem_range.1 hy
        rw [Bool.and_eq_true] at h
        have hw' := (st_way hl hw hx hy).1 h.1
        refine ⟨y, hy, ?_⟩
        have hz : Gway (gr N sa ra) (gr M sb rb) ((la ++ [x]).zip (lb ++ [y])) := (win_snoc (r := 0) hl).2 hw'
        exact (win_snoc hl).1 ((go_win (by simp [hl]) (ha.snoc hx) (hb.snoc hy) hz).1 h.2)
      · rintro ⟨y, hy, h⟩
        refine ⟨y, List.mem_range.2 hy, ?_⟩
        rw [Bool.and_eq_true]
        have hz : Gway (gr N sa ra) (gr M sb rb) ((la ++ [x]).zip (lb ++ [y])) := (win_snoc (r := 0) hl).2 h.way
        exact ⟨(st_way hl hw hx hy).2 h.way, (go_win (by simp [hl]) (ha.snoc hx) (hb.snoc hy) hz).2 ((win_snoc hl).2 h)⟩
    rw [goB_succ, Bool.and_eq_true, List.all_eq_true, List.all_eq_true]
    constructor
    · rintro ⟨h1, h2⟩
      refine ⟨hw, fun x hx => (rep hl ha hb hw hsw x hx).1 (h1 x (List.mem_range.2 hx)), fun y hy => ?_⟩
      obtain ⟨x, hx, h⟩ := (rep hl.symm hb ha hw2 hsw2 y hy).1 (h2 y (List.mem_range.2 hy))
      refine ⟨x, hx, ?_⟩
      have := h.turn
      rw [zip_swap] at this
      have e : turn ((y, x) :: turn (la.zip lb)) = (x, y) :: la.zip lb := by
        show (x, y) :: turn (turn (la.zip lb)) = _
        rw [turn_turn']
      rw [e] at this; exact this
    · rintro ⟨_, h1, h2⟩
      refine ⟨fun x hx => (rep hl ha hb hw hsw x (List.mem_range.1 hx)).2 (h1 x (List.mem_range.1 hx)), fun y hy => ?_⟩
      obtain ⟨x, hx, h⟩ := h2 y (List.mem_range.1 hy)
      refine (rep hl.symm hb ha hw2 hsw2 y (List.mem_range.1 hy)).2 ⟨x, hx, ?_⟩
      have := h.turn
      rw [zip_swap]; exact this
/-- the program's answer is who wins -/
theorem win_iff {r N : Nat} {sa ra : ByteArray} {M : Nat} {sb rb : ByteArray} {la lb : List Nat} (hl : la.length = lb.length) (ha : Els N la) (hb : Els M lb) : winB r N sa ra la M sb rb lb = true ↔ Win (gr N sa ra) (gr M sb rb) r (la.zip lb) := by
  unfold winB
  rw [Bool.and_eq_true]
  constructor
  · rintro ⟨h1, h2⟩
    exact (go_win hl ha hb ((sw_way hl ha hb).1 h1)).1 h2
  · intro h
    exact ⟨(sw_way hl ha hb).2 h.way, (go_win hl ha hb h.way).2 h⟩
end Go.Proofs.YtefneihlgclkbaaDoor.gob
